/-
  Joined by a program from the texts Rnum Rnum2 Rprl Rprm Txt2 Pars Rpar Frm Wk Wk2 Law Lift.
-/
import Derived.Test.YtginpkchjeooeaaDoorMd
import Derived.Test.YtginpkchjeooeaaDoorMc
import Derived.Test.YtginpkchjeooeaaDoorRows
import Derived.Test.YtginpkchjeooeaaDoorVm7
import Derived.Lib.LaidTab
import Derived.Lib.LaidU8
import Derived.LaidMore
import Derived.Stop.Joined
/- Chapter 44: numbers read by the reference. -/
set_option maxRecDepth 100000
set_option maxHeartbeats 4000000
set_option linter.all false
namespace Go.Proofs.YtginpkchjeooeaaDoor
open Go.Vm

def decR (s : List UInt8) : Nat × Bool := if s.length < 1 ∨ 9 < s.length then (0, false) else match valL s 0 with
  | some v => (v, true)
  | none => (0, false)
def encDR (r : Nat × Bool) : V := .tup [.int .u64 r.1, .bool r.2]
theorem bel_encDR {n : Nat} {r : Nat × Bool} : (encDR r).bel n = true := rfl
theorem bel_encIB {n : Nat} {r : Int × Bool} : (encIB r).bel n = true := rfl
theorem pc64a (n : Nat) (hn : n < 10) : PC Tryd.prog 57 [.int .u64 n] (.str [UInt8.ofNat (48 + n)]) := by
  have hn2 : (n : Int) < 10 := by omega
  refine PC.walk tok mixed cfg0 Tryd.func57 rfl Tryd.call57 (by simp [bel_encDR, bel_encIB]) (by first | rfl | simp [bel_encDR, bel_encIB]) ?_; simp (maxSteps := 2000000) -implicitDefEqProofs +contextual (disch := first | assumption | omega | decide +kernel) only [push_cast, ↓capI, br2_true, br2_false, frk_tt, frk_tf, frk_f, frkD_tt, frkD_tf, frkD_f, pk2_true, pk2_false, imp_true, seval, Nat.reduceLeDiff, Nat.reduceEqDiff, reduceCtorEq, ↓reduceIte, cfg0, take_rest, ibeq_dec, Tryd.ntmps57]
  have t1 : ((48 : Int) + (n : Int)).toNat = 48 + n := by omega
  refine endK.ret ?_ (by first | rfl | simp [bel_encDR, bel_encIB]); simp [evRes, getT, retV, Tryd.f57,  hn, t1]
theorem pc64g : ∀ (k n : Nat), n < 10 ^ k → 1 ≤ k → k ≤ 12 → PC Tryd.prog 57 [.int .u64 n] (.str (dgs k n))
  | 0, _, _, h, _ => absurd h (by decide)
  | k + 1, n, hn, _, hk => by
    rw [dgs]
    by_cases h : n < 10
    · rw [if_pos h]
      exact pc64a n h
    rw [if_neg h]
    have hk1 : 1 ≤ k := by
      apply Decidable.byContradiction
      intro h0
      have : k = 0 := by omega
      subst this
      simp at hn
      omega
    have hp : 10 ^ (k + 1) ≤ 10 ^ 12 := Nat.pow_le_pow_right (by decide) hk
    have hn12 : n < 1000000000000 := Nat.lt_of_lt_of_le hn hp
    have ih := pc64g k (n / 10) (by rw [Nat.pow_succ] at hn; omega) hk1 (by omega)
    have hl := dgs_len k (n / 10)
    have hn2 : ¬ (n : Int) < 10 := by omega
    have e1 : IntKind.u64.wrap ((n : Int).tdiv 10) = ((n / 10 : Nat) : Int) := by
      rw [Int.tdiv_eq_ediv_of_nonneg (by omega)]
      exact IntWalk.u64_in _ ⟨by omega, by omega⟩
    have e2 : (n : Int).tmod 10 = ((n % 10 : Nat) : Int) := by rw [Int.tmod_eq_emod_of_nonneg (by omega)]; omega
    refine PC.walk tok mixed cfg0 Tryd.func57 rfl Tryd.call57 (by simp [bel_encDR, bel_encIB]) (by first | rfl | simp [bel_encDR, bel_encIB]) ?_; simp (maxSteps := 2000000) -implicitDefEqProofs +contextual (disch := first | assumption | omega | decide +kernel) only [push_cast, ↓capI, br2_true, br2_false, frk_tt, frk_tf, frk_f, frkD_tt, frkD_tf, frkD_f, pk2_true, pk2_false, imp_true, seval, Nat.reduceLeDiff, Nat.reduceEqDiff, reduceCtorEq, ↓reduceIte, cfg0, take_rest, ibeq_dec, Tryd.ntmps57]
    rw [e1]
    refine callO.pc ih ?_
    simp (maxSteps := 2000000) -implicitDefEqProofs +contextual (disch := first | assumption | omega | decide +kernel) only [push_cast, ↓capI, br2_true, br2_false, frk_tt, frk_tf, frk_f, frkD_tt, frkD_tf, frkD_f, pk2_true, pk2_false, imp_true, seval, Nat.reduceLeDiff, Nat.reduceEqDiff, reduceCtorEq, ↓reduceIte, cfg0, take_rest, ibeq_dec, e2]
    refine callO.pc (pc64a (n % 10) (by omega)) ?_
    simp (maxSteps := 2000000) -implicitDefEqProofs +contextual (disch := first | assumption | omega | decide +kernel) only [push_cast, ↓capI, br2_true, br2_false, frk_tt, frk_tf, frk_f, frkD_tt, frkD_tf, frkD_f, pk2_true, pk2_false, imp_true, seval, Nat.reduceLeDiff, Nat.reduceEqDiff, reduceCtorEq, ↓reduceIte, cfg0, take_rest, ibeq_dec]
    (try refine ⟨by (try simp only [List.length_append, List.length_cons, List.length_nil]); omega, fun _ => ?_⟩)
    refine endK.ret ?_ (by first | rfl | simp [bel_encDR, bel_encIB]); simp [evRes, getT, retV, Tryd.f57]
theorem pc50g (n : Nat) (hn : n < 1000000000) : PC Tryd.prog 47 [.int .i64 n] (.str (dgs 9 n)) := by
  have h0 : (0 : Int) ≤ (n : Int) := by omega
  refine PC.walk tok mixed cfg0 Tryd.func47 rfl Tryd.call47 (by simp [bel_encDR, bel_encIB]) (by first | rfl | simp [bel_encDR, bel_encIB]) ?_; simp (maxSteps := 2000000) -implicitDefEqProofs +contextual (disch := first | assumption | omega | decide +kernel) only [push_cast, ↓capI, br2_true, br2_false, frk_tt, frk_tf, frk_f, frkD_tt, frkD_tf, frkD_f, pk2_true, pk2_false, imp_true, seval, Nat.reduceLeDiff, Nat.reduceEqDiff, reduceCtorEq, ↓reduceIte, cfg0, take_rest, ibeq_dec, Tryd.ntmps47]
  refine callO.pc (pc64g 9 n hn (by decide) (by decide)) ?_
  simp (maxSteps := 2000000) -implicitDefEqProofs +contextual (disch := first | assumption | omega | decide +kernel) only [push_cast, ↓capI, br2_true, br2_false, frk_tt, frk_tf, frk_f, frkD_tt, frkD_tf, frkD_f, pk2_true, pk2_false, imp_true, seval, Nat.reduceLeDiff, Nat.reduceEqDiff, reduceCtorEq, ↓reduceIte, cfg0, take_rest, ibeq_dec]
  refine endK.ret ?_ (by first | rfl | simp [bel_encDR, bel_encIB]); simp [evRes, getT, retV, Tryd.f47]
theorem pc83 (s : List UInt8) (hs : s.length ≤ 4000000000) : PC Tryd.prog 83 [.str s, .int .i64 9] (encDR (decR s)) := by
  by_cases h : s.length < 1 ∨ 9 < s.length
  · have e : decR s = (0, false) := by rw [decR, if_pos h]
    rw [e]
    rcases h with h | h
    · refine PC.walk tok mixed cfg0 Tryd.func83 rfl Tryd.call83 (by simp [bel_encDR, bel_encIB]) (by first | rfl | simp [bel_encDR, bel_encIB]) ?_; simp (maxSteps := 2000000) -implicitDefEqProofs +contextual (disch := first | assumption | omega | decide +kernel) only [push_cast, ↓capI, br2_true, br2_false, frk_tt, frk_tf, frk_f, frkD_tt, frkD_tf, frkD_f, pk2_true, pk2_false, imp_true, seval, Nat.reduceLeDiff, Nat.reduceEqDiff, reduceCtorEq, ↓reduceIte, cfg0, take_rest, ibeq_dec, Tryd.ntmps83]
      (try simp (maxSteps := 2000000) -implicitDefEqProofs +contextual (disch := first | assumption | omega | decide +kernel) only [push_cast, ↓capI, br2_true, br2_false, frk_tt, frk_tf, frk_f, frkD_tt, frkD_tf, frkD_f, pk2_true, pk2_false, imp_true, seval, Nat.reduceLeDiff, Nat.reduceEqDiff, reduceCtorEq, ↓reduceIte, cfg0, take_rest, ibeq_dec, h])
      refine endK.ret ?_ (by first | rfl | simp [bel_encDR, bel_encIB]); simp [evRes, getT, retV, Tryd.f83,  encDR]
    · have h1 : ¬ s.length < 1 := by omega
      refine PC.walk tok mixed cfg0 Tryd.func83 rfl Tryd.call83 (by simp [bel_encDR, bel_encIB]) (by first | rfl | simp [bel_encDR, bel_encIB]) ?_; simp (maxSteps := 2000000) -implicitDefEqProofs +contextual (disch := first | assumption | omega | decide +kernel) only [push_cast, ↓capI, br2_true, br2_false, frk_tt, frk_tf, frk_f, frkD_tt, frkD_tf, frkD_f, pk2_true, pk2_false, imp_true, seval, Nat.reduceLeDiff, Nat.reduceEqDiff, reduceCtorEq, ↓reduceIte, cfg0, take_rest, ibeq_dec, Tryd.ntmps83]
      (try simp (maxSteps := 2000000) -implicitDefEqProofs +contextual (disch := first | assumption | omega | decide +kernel) only [push_cast, ↓capI, br2_true, br2_false, frk_tt, frk_tf, frk_f, frkD_tt, frkD_tf, frkD_f, pk2_true, pk2_false, imp_true, seval, Nat.reduceLeDiff, Nat.reduceEqDiff, reduceCtorEq, ↓reduceIte, cfg0, take_rest, ibeq_dec, h, h1])
      refine endK.ret ?_ (by first | rfl | simp [bel_encDR, bel_encIB]); simp [evRes, getT, retV, Tryd.f83,  encDR]
  have e : decR s = match valL s 0 with | some v => (v, true) | none => (0, false) := by rw [decR, if_neg h]
  rw [e]
  have h1 : ¬ s.length < 1 := by omega
  have h9 : ¬ 9 < s.length := by omega
  refine PC.walk tok mixed cfg0 Tryd.func83 rfl Tryd.call83 (by simp [bel_encDR, bel_encIB]) (by first | rfl | simp [bel_encDR, bel_encIB]) ?_; simp (maxSteps := 2000000) -implicitDefEqProofs +contextual (disch := first | assumption | omega | decide +kernel) only [push_cast, ↓capI, br2_true, br2_false, frk_tt, frk_tf, frk_f, frkD_tt, frkD_tf, frkD_f, pk2_true, pk2_false, imp_true, seval, Nat.reduceLeDiff, Nat.reduceEqDiff, reduceCtorEq, ↓reduceIte, cfg0, take_rest, ibeq_dec, Tryd.ntmps83]
  (try simp (maxSteps := 2000000) -implicitDefEqProofs +contextual (disch := first | assumption | omega | decide +kernel) only [push_cast, ↓capI, br2_true, br2_false, frk_tt, frk_tf, frk_f, frkD_tt, frkD_tf, frkD_f, pk2_true, pk2_false, imp_true, seval, Nat.reduceLeDiff, Nat.reduceEqDiff, reduceCtorEq, ↓reduceIte, cfg0, take_rest, ibeq_dec, h1, h9])
  refine T.lp tok mixed cfg0 (fun ((i, v) : Nat × Nat) => kp 1 (dd 5 (sv (.int .u64 (v : Int)) (sv (.int .i64 i) (dd 34 (nl)))))) (fun H0 ((i, v) : Nat × Nat) => H0) (fun ((i, v) : Nat × Nat) => i ≤ s.length ∧ v < 10 ^ i ∧ valL (s.drop i) v = valL s 0) (fun ((i, v) : Nat × Nat) => s.length - i) ((0, 0)) ?_ ?_ ?_
  · exact ⟨Nat.zero_le _, by simp, rfl⟩
  · exact Gn.canon (J := []) (by first | rfl | (simp [List.append_nil]; done) | (simp [List.append_nil]; rfl)) (by simp [wk, putT, kp, dd, sv, nl]) (by simp [List.length_append]) (by simp [bel_encDR, bel_encIB, kp, dd, sv, nl]) (by simp [bel_encDR, bel_encIB])
  rintro ⟨i, v⟩ ⟨hi, hv, hr⟩
  have hv9 : v < 1000000000 := Nat.lt_of_lt_of_le hv (Nat.pow_le_pow_right (by omega) (by omega : i ≤ 9))
  by_cases hlt : i < s.length
  case neg =>
    rw [List.drop_of_length_le (by omega), valL] at hr
    rw [← hr]
    simp (maxSteps := 2000000) -implicitDefEqProofs +contextual (disch := first | assumption | omega | decide +kernel) only [push_cast, ↓capI, br2_true, br2_false, frk_tt, frk_tf, frk_f, frkD_tt, frkD_tf, frkD_f, pk2_true, pk2_false, imp_true, seval, Nat.reduceLeDiff, Nat.reduceEqDiff, reduceCtorEq, ↓reduceIte, cfg0, take_rest, ibeq_dec]
    refine endK.ret ?_ (by first | rfl | simp [bel_encDR, bel_encIB]); simp [evRes, getT, retV, Tryd.f83,  encDR]
  rw [List.drop_eq_getElem_cons hlt, valL] at hr
  have hgd : s.getD i 0 = s[i] := by rw [List.getD_eq_getElem?_getD, List.getElem?_eq_getElem hlt]; rfl
  have hb := s[i].toNat_lt
  cases hd : isDig s[i]
  case false =>
    rw [hd, if_neg (by simp)] at hr
    rw [← hr]
    simp only [isDig, Bool.and_eq_false_iff, decide_eq_false_iff_not] at hd
    by_cases h48 : s[i].toNat < 48
    · simp (maxSteps := 2000000) -implicitDefEqProofs +contextual (disch := first | assumption | omega | decide +kernel) only [push_cast, ↓capI, br2_true, br2_false, frk_tt, frk_tf, frk_f, frkD_tt, frkD_tf, frkD_f, pk2_true, pk2_false, imp_true, seval, Nat.reduceLeDiff, Nat.reduceEqDiff, reduceCtorEq, ↓reduceIte, cfg0, take_rest, ibeq_dec, hgd, h48]
      refine endK.ret ?_ (by first | rfl | simp [bel_encDR, bel_encIB]); simp [evRes, getT, retV, Tryd.f83,  encDR]
    · have h57 : 57 < s[i].toNat := by omega
      simp (maxSteps := 2000000) -implicitDefEqProofs +contextual (disch := first | assumption | omega | decide +kernel) only [push_cast, ↓capI, br2_true, br2_false, frk_tt, frk_tf, frk_f, frkD_tt, frkD_tf, frkD_f, pk2_true, pk2_false, imp_true, seval, Nat.reduceLeDiff, Nat.reduceEqDiff, reduceCtorEq, ↓reduceIte, cfg0, take_rest, ibeq_dec, hgd, h48, h57]
      refine endK.ret ?_ (by first | rfl | simp [bel_encDR, bel_encIB]); simp [evRes, getT, retV, Tryd.f83,  encDR]
  rw [hd, if_pos rfl] at hr
  simp only [isDig, Bool.and_eq_true, decide_eq_true_eq] at hd
  have h48 : ¬ s[i].toNat < 48 := by omega
  have h57 : ¬ 57 < s[i].toNat := by omega
  have hc : ((s[i].toNat : Int) - 48) = ((s[i].toNat - 48 : Nat) : Int) := by omega
  have hp : v * 10 + (s[i].toNat - 48) < 10 ^ (i + 1) := by
    rw [Nat.pow_succ]
    omega
  have hc9 : s[i].toNat - 48 ≤ 9 := by omega
  have hm : (10 : Int) * (v : Int) = ((v * 10 : Nat) : Int) := by omega
  simp (maxSteps := 2000000) -implicitDefEqProofs +contextual (disch := first | assumption | omega | decide +kernel) only [push_cast, ↓capI, br2_true, br2_false, frk_tt, frk_tf, frk_f, frkD_tt, frkD_tf, frkD_f, pk2_true, pk2_false, imp_true, seval, Nat.reduceLeDiff, Nat.reduceEqDiff, reduceCtorEq, ↓reduceIte, cfg0, take_rest, ibeq_dec, hgd, h48, h57]
  generalize s[i].toNat - 48 = c at hr hc hp hc9
  rw [hc]
  have hq : (10 : Int) * (v : Int) + (c : Int) = (v : Int) * 10 + (c : Int) := by omega
  refine ⟨(i + 1, v * 10 + c), ⟨by simp only; omega, hp, hr⟩, by (try simp only); omega, ?_⟩; exact Gn.canon (by first | rfl | (simp [List.append_nil, hq]; rfl)) (by simp [wk, hq]) (by simp [List.length_append]) (by simp [bel_encDR, bel_encIB]) (by simp [bel_encDR, bel_encIB])
end Go.Proofs.YtginpkchjeooeaaDoor

/- Chapter 44: the reference's reading of a decimal number agrees with the program's. -/
set_option maxRecDepth 100000
set_option maxHeartbeats 4000000
set_option linter.all false
namespace Go.Proofs.YtginpkchjeooeaaDoor
open Go.Vm

theorem valL_app : ∀ (a b : List UInt8) (v : Nat), valL (a ++ b) v = (valL a v).bind (valL b)
  | [], b, v => rfl
  | c :: a, b, v => by
    rw [List.cons_append, valL, valL]
    by_cases h : isDig c = true
    · rw [if_pos h, if_pos h, valL_app a b]
    · rw [if_neg h, if_neg h]; rfl
theorem valL_all : ∀ {d : List UInt8} (v : Nat), (∀ c, c ∈ d → isDig c = true) → ∃ r, valL d v = some r ∧ v ≤ r
  | [], v, _ => ⟨v, rfl, Nat.le_refl _⟩
  | c :: d, v, h => by
    rw [valL, if_pos (h c (List.mem_cons_self ..))]
    obtain ⟨r, h1, h2⟩ := valL_all (v * 10 + (c.toNat - 48)) (fun c hc => h c (List.mem_cons_of_mem _ hc))
    exact ⟨r, h1, by omega⟩
theorem dig_range {c : UInt8} (h : isDig c = true) : 48 ≤ c.toNat ∧ c.toNat ≤ 57 := by
  simpa only [isDig, Bool.and_eq_true, decide_eq_true_eq] using h
theorem dgs_val : ∀ (k : Nat) (d : List UInt8) (v : Nat), d ≠ [] → d.length ≤ k → (∀ c, c ∈ d → isDig c = true) → canonD d = true → valL d 0 = some v → dgs k v = d
  | 0, d, v, h, hl, _, _, _ => absurd (List.length_eq_zero_iff.1 (Nat.le_zero.1 hl)) h
  | k + 1, d, v, h, hl, hd, hc, hv => by
    obtain ⟨e, c, rfl⟩ : ∃ e c, d = e ++ [c] := ⟨d.dropLast, d.getLast h, (List.dropLast_concat_getLast h).symm⟩
    have hcd := dig_range (hd c (by simp))
    rw [List.length_append, List.length_singleton] at hl
    obtain ⟨u, hu, _⟩ := valL_all (d := e) 0 (fun x hx => hd x (by simp [hx]))
    have e1 : v = u * 10 + (c.toNat - 48) := by
      rw [valL_app, hu] at hv
      simp only [Option.bind_some] at hv
      rw [valL, if_pos (hd c (by simp)), valL] at hv
      exact (Option.some.inj hv).symm
    cases e with
    | nil =>
      rw [valL] at hu
      have hu0 := Option.some.inj hu
      have hv10 : v < 10 := by omega
      rw [dgs, if_pos hv10, List.nil_append]
      congr 1
      apply UInt8.toNat_inj.1
      rw [UInt8.toNat_ofNat']
      omega
    | cons x e =>
      have hx := dig_range (hd x (by simp))
      have hx48 : x.toNat ≠ 48 := by
        simp only [canonD, List.cons_append, List.length_cons, List.length_append, List.length_singleton, Bool.or_eq_true, decide_eq_true_eq, Bool.and_eq_true, List.getD_cons_zero, bne_iff_ne] at hc
        rcases hc with hc | hc
        · omega
        · have := hc.2
          omega
      obtain ⟨w, hw, hge⟩ := valL_all (d := e) (0 * 10 + (x.toNat - 48)) (fun y hy => hd y (by simp [hy]))
      have hu1 : 1 ≤ u := by
        rw [valL, if_pos (hd x (by simp)), hw] at hu
        have := Option.some.inj hu
        omega
      have hcan : canonD (x :: e) = true := by
        simp only [canonD, Bool.or_eq_true, decide_eq_true_eq, Bool.and_eq_true, List.getD_cons_zero, bne_iff_ne]
        exact .inr ⟨List.cons_ne_nil _ _, by omega⟩
      have ih := dgs_val k (x :: e) u (List.cons_ne_nil _ _) (by omega) (fun y hy => hd y (by rw [List.mem_append]; exact .inl hy)) hcan hu
      rw [dgs, if_neg (by omega), show v / 10 = u by omega, ih]
      congr 2
      apply UInt8.toNat_inj.1
      rw [UInt8.toNat_ofNat']
      omega
theorem dgs_head : ∀ k v, v < 10 ^ k → 1 ≤ k → dgs k v ≠ [] ∧ ((dgs k v).length = 1 ∨ ((dgs k v).getD 0 0).toNat ≠ 48) ∧ (1 ≤ v → ((dgs k v).getD 0 0).toNat ≠ 48)
  | 0, _, _, h => absurd h (by decide)
  | k + 1, v, hv, _ => by
    rw [dgs]
    by_cases h : v < 10
    · rw [if_pos h]
      refine ⟨List.cons_ne_nil _ _, .inl rfl, fun h1 => ?_⟩
      rw [List.getD_cons_zero, UInt8.toNat_ofNat']
      omega
    · rw [if_neg h]
      have hk1 : 1 ≤ k := by
        apply Decidable.byContradiction
        intro h0
        have : k = 0 := by omega
        subst this
        simp at hv
        omega
      obtain ⟨i1, _, i3⟩ := dgs_head k (v / 10) (by rw [Nat.pow_succ] at hv; omega) hk1
      have i3 := i3 (by omega)
      cases hq : dgs k (v / 10) with
      | nil => exact absurd hq i1
      | cons y l =>
        rw [hq, List.getD_cons_zero] at i3
        exact ⟨List.cons_ne_nil _ _, .inr i3, fun _ => i3⟩
theorem dgs_canon (v : Nat) (hv : v < 1000000000) : canonD (dgs 9 v) = true := by
  obtain ⟨h1, h2, _⟩ := dgs_head 9 v hv (by decide)
  simp only [canonD, Bool.or_eq_true, decide_eq_true_eq, Bool.and_eq_true, bne_iff_ne]
  rcases h2 with h | h
  · exact .inl h
  · exact .inr ⟨h1, by omega⟩
theorem pc69 (d : List UInt8) (hs : d.length ≤ 4000000000) (hd : ∀ c, c ∈ d → isDig c = true) : PC Tryd.prog 69 [.str d] (encIB (parseI d)) := by
  have hnm := no_minus hd
  have h109 := pc83 d hs
  obtain ⟨v, hv, _⟩ := valL_all (d := d) 0 hd
  have ep : parseI d = if 9 < d.length ∨ canonD d = false then (0, false) else ((v : Int), true) := by
    rw [parseI, if_neg (by rw [hnm]; simp), hv]
  have ed : decR d = if d.length < 1 ∨ 9 < d.length then (0, false) else (v, true) := by
    rw [decR, hv]
  have h45 : ∀ h : 0 < d.length, ¬ ((d.getD 0 0).toNat : Int) = 45 := by
    intro h
    cases d with
    | nil => cases h
    | cons x d =>
      have := dig_range (hd x (List.mem_cons_self ..))
      rw [List.getD_cons_zero]
      omega
  rw [ep]
  by_cases hl : d.length < 1 ∨ 9 < d.length
  · have e2 : (9 < d.length ∨ canonD d = false) := by
      rcases hl with h | h
      · right
        have : d = [] := List.length_eq_zero_iff.1 (by omega)
        rw [this]
        rfl
      · exact .inl h
    rw [if_pos e2]
    rw [ed, if_pos hl] at h109
    by_cases h0 : 0 < d.length
    · have h45 := h45 h0
      refine PC.walk tok mixed cfg0 Tryd.func69 rfl Tryd.call69 (by simp [bel_encDR, bel_encIB]) (by first | rfl | simp [bel_encDR, bel_encIB]) ?_; simp (maxSteps := 2000000) -implicitDefEqProofs +contextual (disch := first | assumption | omega | decide +kernel) only [push_cast, ↓capI, br2_true, br2_false, frk_tt, frk_tf, frk_f, frkD_tt, frkD_tf, frkD_f, pk2_true, pk2_false, imp_true, seval, Nat.reduceLeDiff, Nat.reduceEqDiff, reduceCtorEq, ↓reduceIte, cfg0, take_rest, ibeq_dec, encDR, Tryd.ntmps69]
      (try simp (maxSteps := 2000000) -implicitDefEqProofs +contextual (disch := first | assumption | omega | decide +kernel) only [push_cast, ↓capI, br2_true, br2_false, frk_tt, frk_tf, frk_f, frkD_tt, frkD_tf, frkD_f, pk2_true, pk2_false, imp_true, seval, Nat.reduceLeDiff, Nat.reduceEqDiff, reduceCtorEq, ↓reduceIte, cfg0, take_rest, ibeq_dec, encDR, h0, h45])
      refine callO.pc h109 ?_
      simp (maxSteps := 2000000) -implicitDefEqProofs +contextual (disch := first | assumption | omega | decide +kernel) only [push_cast, ↓capI, br2_true, br2_false, frk_tt, frk_tf, frk_f, frkD_tt, frkD_tf, frkD_f, pk2_true, pk2_false, imp_true, seval, Nat.reduceLeDiff, Nat.reduceEqDiff, reduceCtorEq, ↓reduceIte, cfg0, take_rest, ibeq_dec, encDR]
      refine endK.ret ?_ (by first | rfl | simp [bel_encDR, bel_encIB]); simp [evRes, getT, retV, Tryd.f69,  encIB]
    · refine PC.walk tok mixed cfg0 Tryd.func69 rfl Tryd.call69 (by simp [bel_encDR, bel_encIB]) (by first | rfl | simp [bel_encDR, bel_encIB]) ?_; simp (maxSteps := 2000000) -implicitDefEqProofs +contextual (disch := first | assumption | omega | decide +kernel) only [push_cast, ↓capI, br2_true, br2_false, frk_tt, frk_tf, frk_f, frkD_tt, frkD_tf, frkD_f, pk2_true, pk2_false, imp_true, seval, Nat.reduceLeDiff, Nat.reduceEqDiff, reduceCtorEq, ↓reduceIte, cfg0, take_rest, ibeq_dec, encDR, Tryd.ntmps69]
      (try simp (maxSteps := 2000000) -implicitDefEqProofs +contextual (disch := first | assumption | omega | decide +kernel) only [push_cast, ↓capI, br2_true, br2_false, frk_tt, frk_tf, frk_f, frkD_tt, frkD_tf, frkD_f, pk2_true, pk2_false, imp_true, seval, Nat.reduceLeDiff, Nat.reduceEqDiff, reduceCtorEq, ↓reduceIte, cfg0, take_rest, ibeq_dec, encDR, h0])
      refine callO.pc h109 ?_
      simp (maxSteps := 2000000) -implicitDefEqProofs +contextual (disch := first | assumption | omega | decide +kernel) only [push_cast, ↓capI, br2_true, br2_false, frk_tt, frk_tf, frk_f, frkD_tt, frkD_tf, frkD_f, pk2_true, pk2_false, imp_true, seval, Nat.reduceLeDiff, Nat.reduceEqDiff, reduceCtorEq, ↓reduceIte, cfg0, take_rest, ibeq_dec, encDR]
      refine endK.ret ?_ (by first | rfl | simp [bel_encDR, bel_encIB]); simp [evRes, getT, retV, Tryd.f69,  encIB]
  rw [ed, if_neg hl] at h109
  have h0 : 0 < d.length := by omega
  have h45 := h45 h0
  have hv9 : v < 1000000000 := by
    have := valL_lt hv
    have hp : 10 ^ d.length ≤ 10 ^ 9 := Nat.pow_le_pow_right (by omega) (by omega)
    omega
  have h50 := pc50g v hv9
  have hne : d ≠ [] := fun e => by rw [e] at h0; cases h0
  cases hc : canonD d
  · rw [if_pos (.inr rfl)]
    have hn : ¬ dgs 9 v = d := by
      intro e
      rw [← e, dgs_canon v hv9] at hc
      cases hc
    refine PC.walk tok mixed cfg0 Tryd.func69 rfl Tryd.call69 (by simp [bel_encDR, bel_encIB]) (by first | rfl | simp [bel_encDR, bel_encIB]) ?_; simp (maxSteps := 2000000) -implicitDefEqProofs +contextual (disch := first | assumption | omega | decide +kernel) only [push_cast, ↓capI, br2_true, br2_false, frk_tt, frk_tf, frk_f, frkD_tt, frkD_tf, frkD_f, pk2_true, pk2_false, imp_true, seval, Nat.reduceLeDiff, Nat.reduceEqDiff, reduceCtorEq, ↓reduceIte, cfg0, take_rest, ibeq_dec, encDR, Tryd.ntmps69]
    (try simp (maxSteps := 2000000) -implicitDefEqProofs +contextual (disch := first | assumption | omega | decide +kernel) only [push_cast, ↓capI, br2_true, br2_false, frk_tt, frk_tf, frk_f, frkD_tt, frkD_tf, frkD_f, pk2_true, pk2_false, imp_true, seval, Nat.reduceLeDiff, Nat.reduceEqDiff, reduceCtorEq, ↓reduceIte, cfg0, take_rest, ibeq_dec, encDR, h0, h45])
    refine callO.pc h109 ?_
    simp (maxSteps := 2000000) -implicitDefEqProofs +contextual (disch := first | assumption | omega | decide +kernel) only [push_cast, ↓capI, br2_true, br2_false, frk_tt, frk_tf, frk_f, frkD_tt, frkD_tf, frkD_f, pk2_true, pk2_false, imp_true, seval, Nat.reduceLeDiff, Nat.reduceEqDiff, reduceCtorEq, ↓reduceIte, cfg0, take_rest, ibeq_dec, encDR]
    refine callO.pc h50 ?_
    simp (maxSteps := 2000000) -implicitDefEqProofs +contextual (disch := first | assumption | omega | decide +kernel) only [push_cast, ↓capI, br2_true, br2_false, frk_tt, frk_tf, frk_f, frkD_tt, frkD_tf, frkD_f, pk2_true, pk2_false, imp_true, seval, Nat.reduceLeDiff, Nat.reduceEqDiff, reduceCtorEq, ↓reduceIte, cfg0, take_rest, ibeq_dec, encDR, hn]
    refine endK.ret ?_ (by first | rfl | simp [bel_encDR, bel_encIB]); simp [evRes, getT, retV, Tryd.f69,  encIB]
  · rw [if_neg (fun g => g.elim (fun h => by omega) (fun h => by cases h))]
    have he : dgs 9 v = d := dgs_val 9 d v hne (by omega) hd hc hv
    refine PC.walk tok mixed cfg0 Tryd.func69 rfl Tryd.call69 (by simp [bel_encDR, bel_encIB]) (by first | rfl | simp [bel_encDR, bel_encIB]) ?_; simp (maxSteps := 2000000) -implicitDefEqProofs +contextual (disch := first | assumption | omega | decide +kernel) only [push_cast, ↓capI, br2_true, br2_false, frk_tt, frk_tf, frk_f, frkD_tt, frkD_tf, frkD_f, pk2_true, pk2_false, imp_true, seval, Nat.reduceLeDiff, Nat.reduceEqDiff, reduceCtorEq, ↓reduceIte, cfg0, take_rest, ibeq_dec, encDR, Tryd.ntmps69]
    (try simp (maxSteps := 2000000) -implicitDefEqProofs +contextual (disch := first | assumption | omega | decide +kernel) only [push_cast, ↓capI, br2_true, br2_false, frk_tt, frk_tf, frk_f, frkD_tt, frkD_tf, frkD_f, pk2_true, pk2_false, imp_true, seval, Nat.reduceLeDiff, Nat.reduceEqDiff, reduceCtorEq, ↓reduceIte, cfg0, take_rest, ibeq_dec, encDR, h0, h45])
    refine callO.pc h109 ?_
    simp (maxSteps := 2000000) -implicitDefEqProofs +contextual (disch := first | assumption | omega | decide +kernel) only [push_cast, ↓capI, br2_true, br2_false, frk_tt, frk_tf, frk_f, frkD_tt, frkD_tf, frkD_f, pk2_true, pk2_false, imp_true, seval, Nat.reduceLeDiff, Nat.reduceEqDiff, reduceCtorEq, ↓reduceIte, cfg0, take_rest, ibeq_dec, encDR]
    refine callO.pc h50 ?_
    simp (maxSteps := 2000000) -implicitDefEqProofs +contextual (disch := first | assumption | omega | decide +kernel) only [push_cast, ↓capI, br2_true, br2_false, frk_tt, frk_tf, frk_f, frkD_tt, frkD_tf, frkD_f, pk2_true, pk2_false, imp_true, seval, Nat.reduceLeDiff, Nat.reduceEqDiff, reduceCtorEq, ↓reduceIte, cfg0, take_rest, ibeq_dec, encDR, he]
    refine endK.ret ?_ (by first | rfl | simp [bel_encDR, bel_encIB]); simp [evRes, getT, retV, Tryd.f69,  encIB]
end Go.Proofs.YtginpkchjeooeaaDoor

/- Chapter 41: the reference's parser: lists of operands. -/
set_option maxRecDepth 100000
set_option maxHeartbeats 4000000
set_option linter.all false
namespace Go.Proofs.YtginpkchjeooeaaDoor
open Go.Vm


/-- a parsed text of the reference -/
def encPR (l : List Nd) (r : List UInt8) (ok : Bool) : V := .agg [slM l, .str r, .bool ok]
theorem bel_PR {n : Nat} {l : List Nd} {r : List UInt8} {ok : Bool} : (encPR l r ok).bel n = true := by simp [encPR, bel_agg, belAll_cons, belAll_nil, bel_slM]
theorem ones_N : ∀ {xs : List Nd}, ones true (xs.flatMap encN) True = True
  | [] => rfl
  | x :: xs => by simp only [List.flatMap_cons, encN, List.cons_append, List.nil_append, ones, V.one]; exact ones_N
def cfgJ : Cfg := ⟨[10], [], [], [], []⟩
def jn (o : Int) (a b : List Nd) : List Nd := op0 o :: (a ++ b)
theorem jn_len (o : Int) (a b : List Nd) : (jn o a b).length = a.length + b.length + 1 := by
  rw [jn, List.length_cons, List.length_append]
theorem slM_sl {l : List Nd} : slM l = .sl l.isEmpty (l.flatMap encN) l.length := by cases l <;> rfl
theorem laxs_N : ∀ l : List Nd, laxs (l.flatMap encN) = l.flatMap encN
  | [] => rfl
  | x :: l => by rw [List.flatMap_cons, laxs_append, laxs_N l]; rfl
theorem lax_M (l : List Nd) : lax (slM l) = slN l := by
  unfold slM
  split
  · rename_i h
    rw [h]
    rfl
  · rw [slN, Go.Vm.lax, laxs_N]
theorem st_M {l : List Nd} : (slM l).st = slM l := by unfold slM; split <;> rfl
theorem os_M {g : Bool} {l : List Nd} {xs : List V} {p : Prop} : optSide g (slM l :: xs) p = optSide g xs p := by unfold slM; split <;> rfl
theorem pc53 (o : Int) (a b : List Nd) (ha : a.length ≤ 4000000) (hb : b.length ≤ 4000000) : PC Tryd.prog 53 [.int .i64 o, slN a, slN b] (slN (jn o a b)) := by
  refine PC.walk tok mixed  cfgJ Tryd.func53 rfl Tryd.call53 (by simp [bel_PR, bel_slM, bel_slN, belN, bel_Ns, fmN, fm0, belAll_append]) (by first | rfl | simp [bel_PR, bel_slM, bel_slN, belN, bel_Ns, fmN, fm0, belAll_append]) ?_; simp (maxSteps := 2000000) -implicitDefEqProofs +contextual (disch := first | assumption | omega | decide +kernel) only [push_cast, ↓capI, br2_true, br2_false, frk_tt, frk_tf, frk_f, frkD_tt, frkD_tf, frkD_f, pk2_true, pk2_false, imp_true, seval, Nat.reduceLeDiff, Nat.reduceEqDiff, reduceCtorEq, ↓reduceIte, fmN, fm0, take_N, toN1, slN_nil, encN, slN, cfg0, take_rest, ibeq_dec, st_M, os_M, encPR, slM_sl, ones_N, cfgJ, len_flat lenN, Tryd.ntmps53,  cfgJ]
  refine endK.gn (Gn.freeze (id := 0) rfl) ?_; refine endK.ret ?_ (by first | rfl | simp [bel_PR, bel_slM, bel_slN, belN, bel_Ns, fmN, fm0, belAll_append]); simp [bel_PR, bel_slM, bel_slN, belN, bel_Ns, fmN, fm0, belAll_append, fzs_ok, imp, lenOK_iff, List.take_of_length_le, evRes, getT, getO, setO, fzs, fz, fzH, Nat.beq, retV, Res.then, ldT, ldR, mkV, getV, fmN, fm0, take_N, toN1, slN_nil, encN, slN, cfg0, take_rest, ibeq_dec, st_M, os_M, encPR, slM_sl, ones_N, cfgJ, len_flat lenN, Tryd.f53,  slN, jn, op0]
  exact ⟨List.take_of_length_le (by simp [len_flat lenN]; omega), by omega⟩
theorem pc53m (o : Int) (a b : List Nd) (ha : a.length ≤ 4000000) (hb : b.length ≤ 4000000) : PC Tryd.prog 53 [.int .i64 o, slM a, slM b] (slM (jn o a b)) := by
  have h := pc53 o a b ha hb
  rw [slM_cons (l := jn o a b) (List.cons_ne_nil _ _)]
  refine PC.lax ?_
  rw [laxs, laxs, laxs, lax_M, lax_M]
  exact h
theorem pc52 (s : List UInt8) (c : UInt8) : PC Tryd.prog 52 [.str s, .int .u8 c.toNat] (.bool (begins s [c])) := by
  cases s with
  | nil =>
    refine PC.walk tok mixed cfg0 Tryd.func52 rfl Tryd.call52 (by simp [bel_PR, bel_slM, bel_slN, belN, bel_Ns, fmN, fm0, belAll_append]) (by first | rfl | simp [bel_PR, bel_slM, bel_slN, belN, bel_Ns, fmN, fm0, belAll_append]) ?_; simp (maxSteps := 2000000) -implicitDefEqProofs +contextual (disch := first | assumption | omega | decide +kernel) only [push_cast, ↓capI, br2_true, br2_false, frk_tt, frk_tf, frk_f, frkD_tt, frkD_tf, frkD_f, pk2_true, pk2_false, imp_true, seval, Nat.reduceLeDiff, Nat.reduceEqDiff, reduceCtorEq, ↓reduceIte, fmN, fm0, take_N, toN1, slN_nil, encN, slN, cfg0, take_rest, ibeq_dec, st_M, os_M, encPR, slM_sl, ones_N, cfgJ, len_flat lenN, Tryd.ntmps52]
    refine endK.ret ?_ (by first | rfl | simp [bel_PR, bel_slM, bel_slN, belN, bel_Ns, fmN, fm0, belAll_append]); simp [evRes, getT, retV, Tryd.f52,  begins_nil]
  | cons x s =>
    have e : begins (x :: s) [c] = decide ((x.toNat : Int) = c.toNat) := by
      rw [begins_cons, Bool.eq_iff_iff, beq_iff_eq, decide_eq_true_eq, Int.ofNat_inj, UInt8.toNat_inj]
    rw [e]
    refine PC.walk tok mixed cfg0 Tryd.func52 rfl Tryd.call52 (by simp [bel_PR, bel_slM, bel_slN, belN, bel_Ns, fmN, fm0, belAll_append]) (by first | rfl | simp [bel_PR, bel_slM, bel_slN, belN, bel_Ns, fmN, fm0, belAll_append]) ?_; simp (maxSteps := 2000000) -implicitDefEqProofs +contextual (disch := first | assumption | omega | decide +kernel) only [push_cast, ↓capI, br2_true, br2_false, frk_tt, frk_tf, frk_f, frkD_tt, frkD_tf, frkD_f, pk2_true, pk2_false, imp_true, seval, Nat.reduceLeDiff, Nat.reduceEqDiff, reduceCtorEq, ↓reduceIte, fmN, fm0, take_N, toN1, slN_nil, encN, slN, cfg0, take_rest, ibeq_dec, st_M, os_M, encPR, slM_sl, ones_N, cfgJ, len_flat lenN, Tryd.ntmps52]
    refine endK.ret ?_ (by first | rfl | simp [bel_PR, bel_slM, bel_slN, belN, bel_Ns, fmN, fm0, belAll_append]); simp [evRes, getT, retV, Tryd.f52]
def AnsR (F : Nat) (s : List UInt8) (R : PR) : Prop :=
  ∃ (l : List Nd) (r : List UInt8), PC Tryd.prog F [.str s] (encPR l r R.isSome) ∧ l.length + r.length ≤ s.length + 1 ∧ r.length ≤ s.length ∧ ∀ p t, R = some (p, t) → l = flat p ∧ r = t
def lstL (nx : List UInt8 → PR) (fl : List UInt8 → List Nd) (fr : List UInt8 → List UInt8) (o : Int) (c : UInt8) : Nat → List Nd → Bool → List UInt8 → List Nd × List UInt8 × Bool
  | 0, l, ok, r => (l, r, ok)
  | k + 1, l, ok, r => if ok = true ∧ begins r [c] = true then lstL nx fl fr o c k (jn o l (fl (r.drop 1))) ((nx (r.drop 1)).isSome) (fr (r.drop 1)) else (l, r, ok)
theorem lstL_no {nx : List UInt8 → PR} {fl : List UInt8 → List Nd} {fr : List UInt8 → List UInt8} {o : Int} {c : UInt8} {k : Nat} {l : List Nd} {r : List UInt8} : lstL nx fl fr o c k l false r = (l, r, false) := by
  cases k with
  | zero => rfl
  | succ k => rw [lstL, if_neg (by simp)]
theorem lstL_law {nx : List UInt8 → PR} {fl : List UInt8 → List Nd} {fr : List UInt8 → List UInt8} {o : Int} {c : UInt8} {n : Nat} (he : Eats nx)
    (h : ∀ s, s.length < n → (fl s).length + (fr s).length ≤ s.length + 1 ∧ (fr s).length ≤ s.length ∧ ∀ p t, nx s = some (p, t) → fl s = flat p ∧ fr s = t) :
    ∀ (k : Nat) (l : List Nd) (x : PR) (r : List UInt8), (∀ p t, x = some (p, t) → l = flat p ∧ r = t) → r.length < k → r.length ≤ n →
    (lstL nx fl fr o c k l x.isSome r).2.1.length ≤ r.length ∧ (lstL nx fl fr o c k l x.isSome r).1.length + (lstL nx fl fr o c k l x.isSome r).2.1.length ≤ l.length + r.length + (if x.isSome = true then 1 else 0) ∧
    (lstL nx fl fr o c k l x.isSome r).2.2 = (x.bind fun q => lst nx o c k q.1 q.2).isSome ∧
    ∀ p t, (x.bind fun q => lst nx o c k q.1 q.2) = some (p, t) → (lstL nx fl fr o c k l x.isSome r).1 = flat p ∧ (lstL nx fl fr o c k l x.isSome r).2.1 = t
  | 0, l, x, r, _, hk, _ => absurd hk (Nat.not_lt_zero _)
  | k + 1, l, x, r, hx, hk, hn => by
    cases x with
    | none =>
      rw [show (none : PR).isSome = false from rfl, lstL_no]
      exact ⟨Nat.le_refl _, Nat.le_refl _, rfl, fun p t e => by cases e⟩
    | some q =>
      obtain ⟨p, t⟩ := q
      obtain ⟨rfl, rfl⟩ := hx p t rfl
      rw [lstL]
      show _ ∧ _ ∧ _ = (lst nx o c (k + 1) p r).isSome ∧ ∀ p' t', lst nx o c (k + 1) p r = some (p', t') → _
      rw [lst]
      by_cases hb : begins r [c] = true
      · have hl := begins_le hb
        simp only [List.length_cons, List.length_nil] at hl
        have hd : (r.drop 1).length = r.length - 1 := List.length_drop
        obtain ⟨h1, h0, h2⟩ := h (r.drop 1) (by omega)
        rw [if_pos ⟨rfl, hb⟩, if_pos hb, if_pos (show (some (p, r)).isSome = true from rfl)]
        cases hy : nx (r.drop 1) with
        | none =>
          rw [show (none : PR).isSome = false from rfl, lstL_no]
          refine ⟨by simp only; omega, ?_, rfl, fun p t e => by cases e⟩
          simp only [jn_len]
          omega
        | some z =>
          obtain ⟨y, u⟩ := z
          obtain ⟨e1, e2⟩ := h2 y u hy
          have hE := (he _ _ _ hy).1
          have i := lstL_law (o := o) (c := c) he h k (jn o (flat p) (fl (r.drop 1))) (some (.bin (op0 o) p y, u)) (fr (r.drop 1)) (fun p t e => by cases e; exact ⟨by rw [e1]; rfl, e2⟩) (by omega) (by omega)
          rw [jn_len, if_pos (show (some (Pr.bin (op0 o) p y, u)).isSome = true from rfl)] at i
          rw [e1, e2] at i ⊢
          refine ⟨Nat.le_trans i.1 (by rw [← e2]; omega), Nat.le_trans i.2.1 (by omega), i.2.2⟩
      · rw [if_neg (fun g => hb g.2), if_neg hb]
        exact ⟨Nat.le_refl _, Nat.le_add_right _ _, rfl, fun p t e => by cases e; exact ⟨rfl, rfl⟩⟩
theorem pcL51 {nx : List UInt8 → PR} {n : Nat} (hn : n ≤ 100001) (he : Eats nx) (h : ∀ s, s.length < n → AnsR 60 s (nx s)) (s : List UInt8) (hs : s.length < n) : AnsR 51 s (lstP nx 4 44 s) := by
  have hc : ∃ (fl : List UInt8 → List Nd) (fr : List UInt8 → List UInt8), ∀ s, s.length < n → PC Tryd.prog 60 [.str s] (encPR (fl s) (fr s) (nx s).isSome) ∧
      (fl s).length + (fr s).length ≤ s.length + 1 ∧ (fr s).length ≤ s.length ∧ ∀ p t, nx s = some (p, t) → fl s = flat p ∧ fr s = t := by
    refine ⟨fun s => if h1 : s.length < n then (h s h1).choose else [], fun s => if h1 : s.length < n then (h s h1).choose_spec.choose else [], fun s h1 => ?_⟩
    simp only [dif_pos h1]
    exact (h s h1).choose_spec.choose_spec
  obtain ⟨fl, fr, hf⟩ := hc
  have h0 := hf s hs
  have law := lstL_law (nx := nx) (fl := fl) (fr := fr) (o := 4) (c := 44) (n := n) he (fun s hs => (hf s hs).2) ((fr s).length + 1) (fl s) (nx s) (fr s) h0.2.2.2 (Nat.lt_succ_self _) (by omega)
  have eP : (nx s).bind (fun q => lst nx 4 44 ((fr s).length + 1) q.1 q.2) = lstP nx 4 44 s := by
    rw [lstP]
    cases hx : nx s with
    | none => rfl
    | some q =>
      obtain ⟨p, t⟩ := q
      rw [(h0.2.2.2 p t hx).2]
      rfl
  rw [eP] at law
  have hsum : (fl s).length + (fr s).length + (if (nx s).isSome = true then 1 else 0) ≤ s.length + 1 ∧ ((nx s).isSome = true → (fl s).length + (fr s).length ≤ s.length) := by
    cases hx : nx s with
    | none => exact ⟨h0.2.1, fun h => by cases h⟩
    | some q =>
      obtain ⟨p, t⟩ := q
      obtain ⟨e1, e2⟩ := h0.2.2.2 p t hx
      have := (he _ _ _ hx).1
      rw [e1, e2]
      exact ⟨by rw [if_pos (show (some (p, t)).isSome = true from rfl)]; omega, fun _ => this⟩
  generalize hR : lstL nx fl fr 4 44 ((fr s).length + 1) (fl s) (nx s).isSome (fr s) = R at law
  obtain ⟨L, U, OK⟩ := R
  simp only at law
  refine ⟨L, U, ?_, by omega, by omega, law.2.2.2⟩
  rw [← law.2.2.1]
  have g0 := h0.1
  refine PC.walk tok mixed cfg0 Tryd.func51 rfl Tryd.call51 (by simp [bel_PR, bel_slM, bel_slN, belN, bel_Ns, fmN, fm0, belAll_append]) (by first | rfl | simp [bel_PR, bel_slM, bel_slN, belN, bel_Ns, fmN, fm0, belAll_append]) ?_; simp (maxSteps := 2000000) -implicitDefEqProofs +contextual (disch := first | assumption | omega | decide +kernel) only [push_cast, ↓capI, br2_true, br2_false, frk_tt, frk_tf, frk_f, frkD_tt, frkD_tf, frkD_f, pk2_true, pk2_false, imp_true, seval, Nat.reduceLeDiff, Nat.reduceEqDiff, reduceCtorEq, ↓reduceIte, fmN, fm0, take_N, toN1, slN_nil, encN, slN, cfg0, take_rest, ibeq_dec, st_M, os_M, encPR, slM_sl, ones_N, cfgJ, len_flat lenN, Tryd.ntmps51]
  refine callO.pc g0 ?_
  simp (maxSteps := 2000000) -implicitDefEqProofs +contextual (disch := first | assumption | omega | decide +kernel) only [push_cast, ↓capI, br2_true, br2_false, frk_tt, frk_tf, frk_f, frkD_tt, frkD_tf, frkD_f, pk2_true, pk2_false, imp_true, seval, Nat.reduceLeDiff, Nat.reduceEqDiff, reduceCtorEq, ↓reduceIte, fmN, fm0, take_N, toN1, slN_nil, encN, slN, cfg0, take_rest, ibeq_dec, st_M, os_M, encPR, slM_sl, ones_N, cfgJ, len_flat lenN]
  refine T.lp tok mixed cfg0 (fun ((l, ok, r) : List Nd × Bool × List UInt8) => dd 2 (kp 2 (dd 25 (nl)))) (fun H0 ((l, ok, r) : List Nd × Bool × List UInt8) => [.cells 0 [.sl true [] 0, .str [], .bool false], .cells 0 [.sl l.isEmpty (l.flatMap encN) l.length, .str r, .bool ok]]) (fun ((l, ok, r) : List Nd × Bool × List UInt8) => (ok = true → l.length + r.length ≤ s.length) ∧ l.length ≤ s.length + 1 ∧ r.length ≤ s.length ∧ ∃ m, r.length < m ∧ lstL nx fl fr 4 44 m l ok r = (L, U, OK)) (fun ((l, ok, r) : List Nd × Bool × List UInt8) => r.length) ((fl s, (nx s).isSome, fr s)) ?_ ?_ ?_
  · exact ⟨hsum.2, by omega, h0.2.2.1, _, Nat.lt_succ_self _, hR⟩
  · exact Gn.canon (J := []) (by first | rfl | (simp [List.append_nil]; done) | (simp [List.append_nil]; rfl)) (by simp [wk, slN, putT, kp, dd, sv, nl]) (by simp [List.length_append]) (by simp [bel_PR, bel_slM, bel_slN, belN, bel_Ns, fmN, fm0, belAll_append, kp, dd, sv, nl]) (by simp [bel_PR, bel_slM, bel_slN, belN, bel_Ns, fmN, fm0, belAll_append])
  rintro ⟨l, ok, r⟩ ⟨hl, hl2, hr2, m, hm, he2⟩
  cases m with
  | zero => omega
  | succ m =>
  cases ok
  · rw [lstL_no] at he2
    cases he2
    simp (maxSteps := 2000000) -implicitDefEqProofs +contextual (disch := first | assumption | omega | decide +kernel) only [push_cast, ↓capI, br2_true, br2_false, frk_tt, frk_tf, frk_f, frkD_tt, frkD_tf, frkD_f, pk2_true, pk2_false, imp_true, seval, Nat.reduceLeDiff, Nat.reduceEqDiff, reduceCtorEq, ↓reduceIte, fmN, fm0, take_N, toN1, slN_nil, encN, slN, cfg0, take_rest, ibeq_dec, st_M, os_M, encPR, slM_sl, ones_N, cfgJ, len_flat lenN]
    refine endK.ret ?_ (by first | rfl | simp [bel_PR, bel_slM, bel_slN, belN, bel_Ns, fmN, fm0, belAll_append]); simp [bel_PR, bel_slM, bel_slN, belN, bel_Ns, fmN, fm0, belAll_append, fzs_ok, imp, lenOK_iff, List.take_of_length_le, evRes, getT, getO, setO, fzs, fz, fzH, Nat.beq, retV, Res.then, ldT, ldR, mkV, getV, fmN, fm0, take_N, toN1, slN_nil, encN, slN, cfg0, take_rest, ibeq_dec, st_M, os_M, encPR, slM_sl, ones_N, cfgJ, len_flat lenN, Tryd.f51,  encPR, tt_68]
  rw [lstL] at he2
  have hl3 := hl rfl
  have g2 := pc52 r 44
  rw [show ((44 : UInt8).toNat : Int) = 44 from rfl] at g2
  cases hb : begins r [44]
  · rw [hb] at g2
    rw [if_neg (by rw [hb]; simp)] at he2
    cases he2
    simp (maxSteps := 2000000) -implicitDefEqProofs +contextual (disch := first | assumption | omega | decide +kernel) only [push_cast, ↓capI, br2_true, br2_false, frk_tt, frk_tf, frk_f, frkD_tt, frkD_tf, frkD_f, pk2_true, pk2_false, imp_true, seval, Nat.reduceLeDiff, Nat.reduceEqDiff, reduceCtorEq, ↓reduceIte, fmN, fm0, take_N, toN1, slN_nil, encN, slN, cfg0, take_rest, ibeq_dec, st_M, os_M, encPR, slM_sl, ones_N, cfgJ, len_flat lenN]
    refine callO.pc g2 ?_
    simp (maxSteps := 2000000) -implicitDefEqProofs +contextual (disch := first | assumption | omega | decide +kernel) only [push_cast, ↓capI, br2_true, br2_false, frk_tt, frk_tf, frk_f, frkD_tt, frkD_tf, frkD_f, pk2_true, pk2_false, imp_true, seval, Nat.reduceLeDiff, Nat.reduceEqDiff, reduceCtorEq, ↓reduceIte, fmN, fm0, take_N, toN1, slN_nil, encN, slN, cfg0, take_rest, ibeq_dec, st_M, os_M, encPR, slM_sl, ones_N, cfgJ, len_flat lenN]
    refine endK.ret ?_ (by first | rfl | simp [bel_PR, bel_slM, bel_slN, belN, bel_Ns, fmN, fm0, belAll_append]); simp [bel_PR, bel_slM, bel_slN, belN, bel_Ns, fmN, fm0, belAll_append, fzs_ok, imp, lenOK_iff, List.take_of_length_le, evRes, getT, getO, setO, fzs, fz, fzH, Nat.beq, retV, Res.then, ldT, ldR, mkV, getV, fmN, fm0, take_N, toN1, slN_nil, encN, slN, cfg0, take_rest, ibeq_dec, st_M, os_M, encPR, slM_sl, ones_N, cfgJ, len_flat lenN, Tryd.f51,  encPR, tt_68]
  · rw [hb] at g2
    have hbl := begins_le hb
    simp only [List.length_cons, List.length_nil] at hbl
    have hd : (r.drop 1).length = r.length - 1 := List.length_drop
    have hdt : (r.drop 1).take (r.length - 1) = r.drop 1 := List.take_of_length_le (by omega)
    have hml : min (r.length - 1) (r.length - 1) = r.length - 1 := Nat.min_self _
    obtain ⟨y1, y2, y3, y4⟩ := hf (r.drop 1) (by omega)
    have hy5 : (nx (r.drop 1)).isSome = true → (fl (r.drop 1)).length + (fr (r.drop 1)).length ≤ (r.drop 1).length := by
      cases hx : nx (r.drop 1) with
      | none => exact fun h => by cases h
      | some q =>
        obtain ⟨p, t⟩ := q
        obtain ⟨e1, e2⟩ := y4 p t hx
        rw [e1, e2]
        exact fun _ => (he _ _ _ hx).1
    have hj := pc53m 4 l (fl (r.drop 1)) (by omega) (by omega)
    simp only [slM_sl] at hj
    rw [if_pos ⟨rfl, hb⟩] at he2
    simp (maxSteps := 2000000) -implicitDefEqProofs +contextual (disch := first | assumption | omega | decide +kernel) only [push_cast, ↓capI, br2_true, br2_false, frk_tt, frk_tf, frk_f, frkD_tt, frkD_tf, frkD_f, pk2_true, pk2_false, imp_true, seval, Nat.reduceLeDiff, Nat.reduceEqDiff, reduceCtorEq, ↓reduceIte, fmN, fm0, take_N, toN1, slN_nil, encN, slN, cfg0, take_rest, ibeq_dec, st_M, os_M, encPR, slM_sl, ones_N, cfgJ, len_flat lenN]
    refine callO.pc g2 ?_
    simp (maxSteps := 2000000) -implicitDefEqProofs +contextual (disch := first | assumption | omega | decide +kernel) only [push_cast, ↓capI, br2_true, br2_false, frk_tt, frk_tf, frk_f, frkD_tt, frkD_tf, frkD_f, pk2_true, pk2_false, imp_true, seval, Nat.reduceLeDiff, Nat.reduceEqDiff, reduceCtorEq, ↓reduceIte, fmN, fm0, take_N, toN1, slN_nil, encN, slN, cfg0, take_rest, ibeq_dec, st_M, os_M, encPR, slM_sl, ones_N, cfgJ, len_flat lenN, hdt]
    refine callO.pc y1 ?_
    simp (maxSteps := 2000000) -implicitDefEqProofs +contextual (disch := first | assumption | omega | decide +kernel) only [push_cast, ↓capI, br2_true, br2_false, frk_tt, frk_tf, frk_f, frkD_tt, frkD_tf, frkD_f, pk2_true, pk2_false, imp_true, seval, Nat.reduceLeDiff, Nat.reduceEqDiff, reduceCtorEq, ↓reduceIte, fmN, fm0, take_N, toN1, slN_nil, encN, slN, cfg0, take_rest, ibeq_dec, st_M, os_M, encPR, slM_sl, ones_N, cfgJ, len_flat lenN]
    refine callG.pc1 hj ?_
    simp (maxSteps := 2000000) -implicitDefEqProofs +contextual (disch := first | assumption | omega | decide +kernel) only [push_cast, ↓capI, br2_true, br2_false, frk_tt, frk_tf, frk_f, frkD_tt, frkD_tf, frkD_f, pk2_true, pk2_false, imp_true, seval, Nat.reduceLeDiff, Nat.reduceEqDiff, reduceCtorEq, ↓reduceIte, fmN, fm0, take_N, toN1, slN_nil, encN, slN, cfg0, take_rest, ibeq_dec, st_M, os_M, encPR, slM_sl, ones_N, cfgJ, len_flat lenN]
    refine ⟨(jn 4 l (fl (r.drop 1)), (nx (r.drop 1)).isSome, fr (r.drop 1)), ⟨fun h => by simp only [jn_len]; have := hy5 h; omega, by (try simp only [jn_len]); omega, by (try simp only); omega, m, by (try simp only); omega, he2⟩, by (try simp only); omega, ?_⟩; exact Gn.canon (by first | rfl | (simp [List.append_nil]; rfl)) (by simp [wk, slN]) (by simp [List.length_append]) (by simp [bel_PR, bel_slM, bel_slN, belN, bel_Ns, fmN, fm0, belAll_append]) (by simp [bel_PR, bel_slM, bel_slN, belN, bel_Ns, fmN, fm0, belAll_append])
theorem pcL37 {nx : List UInt8 → PR} {n : Nat} (hn : n ≤ 100001) (he : Eats nx) (h : ∀ s, s.length < n → AnsR 51 s (nx s)) (s : List UInt8) (hs : s.length < n) : AnsR 37 s (lstP nx 5 124 s) := by
  have hc : ∃ (fl : List UInt8 → List Nd) (fr : List UInt8 → List UInt8), ∀ s, s.length < n → PC Tryd.prog 51 [.str s] (encPR (fl s) (fr s) (nx s).isSome) ∧
      (fl s).length + (fr s).length ≤ s.length + 1 ∧ (fr s).length ≤ s.length ∧ ∀ p t, nx s = some (p, t) → fl s = flat p ∧ fr s = t := by
    refine ⟨fun s => if h1 : s.length < n then (h s h1).choose else [], fun s => if h1 : s.length < n then (h s h1).choose_spec.choose else [], fun s h1 => ?_⟩
    simp only [dif_pos h1]
    exact (h s h1).choose_spec.choose_spec
  obtain ⟨fl, fr, hf⟩ := hc
  have h0 := hf s hs
  have law := lstL_law (nx := nx) (fl := fl) (fr := fr) (o := 5) (c := 124) (n := n) he (fun s hs => (hf s hs).2) ((fr s).length + 1) (fl s) (nx s) (fr s) h0.2.2.2 (Nat.lt_succ_self _) (by omega)
  have eP : (nx s).bind (fun q => lst nx 5 124 ((fr s).length + 1) q.1 q.2) = lstP nx 5 124 s := by
    rw [lstP]
    cases hx : nx s with
    | none => rfl
    | some q =>
      obtain ⟨p, t⟩ := q
      rw [(h0.2.2.2 p t hx).2]
      rfl
  rw [eP] at law
  have hsum : (fl s).length + (fr s).length + (if (nx s).isSome = true then 1 else 0) ≤ s.length + 1 ∧ ((nx s).isSome = true → (fl s).length + (fr s).length ≤ s.length) := by
    cases hx : nx s with
    | none => exact ⟨h0.2.1, fun h => by cases h⟩
    | some q =>
      obtain ⟨p, t⟩ := q
      obtain ⟨e1, e2⟩ := h0.2.2.2 p t hx
      have := (he _ _ _ hx).1
      rw [e1, e2]
      exact ⟨by rw [if_pos (show (some (p, t)).isSome = true from rfl)]; omega, fun _ => this⟩
  generalize hR : lstL nx fl fr 5 124 ((fr s).length + 1) (fl s) (nx s).isSome (fr s) = R at law
  obtain ⟨L, U, OK⟩ := R
  simp only at law
  refine ⟨L, U, ?_, by omega, by omega, law.2.2.2⟩
  rw [← law.2.2.1]
  have g0 := h0.1
  refine PC.walk tok mixed cfg0 Tryd.func37 rfl Tryd.call37 (by simp [bel_PR, bel_slM, bel_slN, belN, bel_Ns, fmN, fm0, belAll_append]) (by first | rfl | simp [bel_PR, bel_slM, bel_slN, belN, bel_Ns, fmN, fm0, belAll_append]) ?_; simp (maxSteps := 2000000) -implicitDefEqProofs +contextual (disch := first | assumption | omega | decide +kernel) only [push_cast, ↓capI, br2_true, br2_false, frk_tt, frk_tf, frk_f, frkD_tt, frkD_tf, frkD_f, pk2_true, pk2_false, imp_true, seval, Nat.reduceLeDiff, Nat.reduceEqDiff, reduceCtorEq, ↓reduceIte, fmN, fm0, take_N, toN1, slN_nil, encN, slN, cfg0, take_rest, ibeq_dec, st_M, os_M, encPR, slM_sl, ones_N, cfgJ, len_flat lenN, Tryd.ntmps37]
  refine callO.pc g0 ?_
  simp (maxSteps := 2000000) -implicitDefEqProofs +contextual (disch := first | assumption | omega | decide +kernel) only [push_cast, ↓capI, br2_true, br2_false, frk_tt, frk_tf, frk_f, frkD_tt, frkD_tf, frkD_f, pk2_true, pk2_false, imp_true, seval, Nat.reduceLeDiff, Nat.reduceEqDiff, reduceCtorEq, ↓reduceIte, fmN, fm0, take_N, toN1, slN_nil, encN, slN, cfg0, take_rest, ibeq_dec, st_M, os_M, encPR, slM_sl, ones_N, cfgJ, len_flat lenN]
  refine T.lp tok mixed cfg0 (fun ((l, ok, r) : List Nd × Bool × List UInt8) => dd 2 (kp 2 (dd 25 (nl)))) (fun H0 ((l, ok, r) : List Nd × Bool × List UInt8) => [.cells 0 [.sl true [] 0, .str [], .bool false], .cells 0 [.sl l.isEmpty (l.flatMap encN) l.length, .str r, .bool ok]]) (fun ((l, ok, r) : List Nd × Bool × List UInt8) => (ok = true → l.length + r.length ≤ s.length) ∧ l.length ≤ s.length + 1 ∧ r.length ≤ s.length ∧ ∃ m, r.length < m ∧ lstL nx fl fr 5 124 m l ok r = (L, U, OK)) (fun ((l, ok, r) : List Nd × Bool × List UInt8) => r.length) ((fl s, (nx s).isSome, fr s)) ?_ ?_ ?_
  · exact ⟨hsum.2, by omega, h0.2.2.1, _, Nat.lt_succ_self _, hR⟩
  · exact Gn.canon (J := []) (by first | rfl | (simp [List.append_nil]; done) | (simp [List.append_nil]; rfl)) (by simp [wk, slN, putT, kp, dd, sv, nl]) (by simp [List.length_append]) (by simp [bel_PR, bel_slM, bel_slN, belN, bel_Ns, fmN, fm0, belAll_append, kp, dd, sv, nl]) (by simp [bel_PR, bel_slM, bel_slN, belN, bel_Ns, fmN, fm0, belAll_append])
  rintro ⟨l, ok, r⟩ ⟨hl, hl2, hr2, m, hm, he2⟩
  cases m with
  | zero => omega
  | succ m =>
  cases ok
  · rw [lstL_no] at he2
    cases he2
    simp (maxSteps := 2000000) -implicitDefEqProofs +contextual (disch := first | assumption | omega | decide +kernel) only [push_cast, ↓capI, br2_true, br2_false, frk_tt, frk_tf, frk_f, frkD_tt, frkD_tf, frkD_f, pk2_true, pk2_false, imp_true, seval, Nat.reduceLeDiff, Nat.reduceEqDiff, reduceCtorEq, ↓reduceIte, fmN, fm0, take_N, toN1, slN_nil, encN, slN, cfg0, take_rest, ibeq_dec, st_M, os_M, encPR, slM_sl, ones_N, cfgJ, len_flat lenN]
    refine endK.ret ?_ (by first | rfl | simp [bel_PR, bel_slM, bel_slN, belN, bel_Ns, fmN, fm0, belAll_append]); simp [bel_PR, bel_slM, bel_slN, belN, bel_Ns, fmN, fm0, belAll_append, fzs_ok, imp, lenOK_iff, List.take_of_length_le, evRes, getT, getO, setO, fzs, fz, fzH, Nat.beq, retV, Res.then, ldT, ldR, mkV, getV, fmN, fm0, take_N, toN1, slN_nil, encN, slN, cfg0, take_rest, ibeq_dec, st_M, os_M, encPR, slM_sl, ones_N, cfgJ, len_flat lenN, Tryd.f37,  encPR, tt_68]
  rw [lstL] at he2
  have hl3 := hl rfl
  have g2 := pc52 r 124
  rw [show ((124 : UInt8).toNat : Int) = 124 from rfl] at g2
  cases hb : begins r [124]
  · rw [hb] at g2
    rw [if_neg (by rw [hb]; simp)] at he2
    cases he2
    simp (maxSteps := 2000000) -implicitDefEqProofs +contextual (disch := first | assumption | omega | decide +kernel) only [push_cast, ↓capI, br2_true, br2_false, frk_tt, frk_tf, frk_f, frkD_tt, frkD_tf, frkD_f, pk2_true, pk2_false, imp_true, seval, Nat.reduceLeDiff, Nat.reduceEqDiff, reduceCtorEq, ↓reduceIte, fmN, fm0, take_N, toN1, slN_nil, encN, slN, cfg0, take_rest, ibeq_dec, st_M, os_M, encPR, slM_sl, ones_N, cfgJ, len_flat lenN]
    refine callO.pc g2 ?_
    simp (maxSteps := 2000000) -implicitDefEqProofs +contextual (disch := first | assumption | omega | decide +kernel) only [push_cast, ↓capI, br2_true, br2_false, frk_tt, frk_tf, frk_f, frkD_tt, frkD_tf, frkD_f, pk2_true, pk2_false, imp_true, seval, Nat.reduceLeDiff, Nat.reduceEqDiff, reduceCtorEq, ↓reduceIte, fmN, fm0, take_N, toN1, slN_nil, encN, slN, cfg0, take_rest, ibeq_dec, st_M, os_M, encPR, slM_sl, ones_N, cfgJ, len_flat lenN]
    refine endK.ret ?_ (by first | rfl | simp [bel_PR, bel_slM, bel_slN, belN, bel_Ns, fmN, fm0, belAll_append]); simp [bel_PR, bel_slM, bel_slN, belN, bel_Ns, fmN, fm0, belAll_append, fzs_ok, imp, lenOK_iff, List.take_of_length_le, evRes, getT, getO, setO, fzs, fz, fzH, Nat.beq, retV, Res.then, ldT, ldR, mkV, getV, fmN, fm0, take_N, toN1, slN_nil, encN, slN, cfg0, take_rest, ibeq_dec, st_M, os_M, encPR, slM_sl, ones_N, cfgJ, len_flat lenN, Tryd.f37,  encPR, tt_68]
  · rw [hb] at g2
    have hbl := begins_le hb
    simp only [List.length_cons, List.length_nil] at hbl
    have hd : (r.drop 1).length = r.length - 1 := List.length_drop
    have hdt : (r.drop 1).take (r.length - 1) = r.drop 1 := List.take_of_length_le (by omega)
    have hml : min (r.length - 1) (r.length - 1) = r.length - 1 := Nat.min_self _
    obtain ⟨y1, y2, y3, y4⟩ := hf (r.drop 1) (by omega)
    have hy5 : (nx (r.drop 1)).isSome = true → (fl (r.drop 1)).length + (fr (r.drop 1)).length ≤ (r.drop 1).length := by
      cases hx : nx (r.drop 1) with
      | none => exact fun h => by cases h
      | some q =>
        obtain ⟨p, t⟩ := q
        obtain ⟨e1, e2⟩ := y4 p t hx
        rw [e1, e2]
        exact fun _ => (he _ _ _ hx).1
    have hj := pc53m 5 l (fl (r.drop 1)) (by omega) (by omega)
    simp only [slM_sl] at hj
    rw [if_pos ⟨rfl, hb⟩] at he2
    simp (maxSteps := 2000000) -implicitDefEqProofs +contextual (disch := first | assumption | omega | decide +kernel) only [push_cast, ↓capI, br2_true, br2_false, frk_tt, frk_tf, frk_f, frkD_tt, frkD_tf, frkD_f, pk2_true, pk2_false, imp_true, seval, Nat.reduceLeDiff, Nat.reduceEqDiff, reduceCtorEq, ↓reduceIte, fmN, fm0, take_N, toN1, slN_nil, encN, slN, cfg0, take_rest, ibeq_dec, st_M, os_M, encPR, slM_sl, ones_N, cfgJ, len_flat lenN]
    refine callO.pc g2 ?_
    simp (maxSteps := 2000000) -implicitDefEqProofs +contextual (disch := first | assumption | omega | decide +kernel) only [push_cast, ↓capI, br2_true, br2_false, frk_tt, frk_tf, frk_f, frkD_tt, frkD_tf, frkD_f, pk2_true, pk2_false, imp_true, seval, Nat.reduceLeDiff, Nat.reduceEqDiff, reduceCtorEq, ↓reduceIte, fmN, fm0, take_N, toN1, slN_nil, encN, slN, cfg0, take_rest, ibeq_dec, st_M, os_M, encPR, slM_sl, ones_N, cfgJ, len_flat lenN, hdt]
    refine callO.pc y1 ?_
    simp (maxSteps := 2000000) -implicitDefEqProofs +contextual (disch := first | assumption | omega | decide +kernel) only [push_cast, ↓capI, br2_true, br2_false, frk_tt, frk_tf, frk_f, frkD_tt, frkD_tf, frkD_f, pk2_true, pk2_false, imp_true, seval, Nat.reduceLeDiff, Nat.reduceEqDiff, reduceCtorEq, ↓reduceIte, fmN, fm0, take_N, toN1, slN_nil, encN, slN, cfg0, take_rest, ibeq_dec, st_M, os_M, encPR, slM_sl, ones_N, cfgJ, len_flat lenN]
    refine callG.pc1 hj ?_
    simp (maxSteps := 2000000) -implicitDefEqProofs +contextual (disch := first | assumption | omega | decide +kernel) only [push_cast, ↓capI, br2_true, br2_false, frk_tt, frk_tf, frk_f, frkD_tt, frkD_tf, frkD_f, pk2_true, pk2_false, imp_true, seval, Nat.reduceLeDiff, Nat.reduceEqDiff, reduceCtorEq, ↓reduceIte, fmN, fm0, take_N, toN1, slN_nil, encN, slN, cfg0, take_rest, ibeq_dec, st_M, os_M, encPR, slM_sl, ones_N, cfgJ, len_flat lenN]
    refine ⟨(jn 5 l (fl (r.drop 1)), (nx (r.drop 1)).isSome, fr (r.drop 1)), ⟨fun h => by simp only [jn_len]; have := hy5 h; omega, by (try simp only [jn_len]); omega, by (try simp only); omega, m, by (try simp only); omega, he2⟩, by (try simp only); omega, ?_⟩; exact Gn.canon (by first | rfl | (simp [List.append_nil]; rfl)) (by simp [wk, slN]) (by simp [List.length_append]) (by simp [bel_PR, bel_slM, bel_slN, belN, bel_Ns, fmN, fm0, belAll_append]) (by simp [bel_PR, bel_slM, bel_slN, belN, bel_Ns, fmN, fm0, belAll_append])
end Go.Proofs.YtginpkchjeooeaaDoor

/- Chapter 41: the reference's parser: repetitions, atoms. -/
set_option maxRecDepth 100000
set_option maxHeartbeats 4000000
set_option linter.all false
namespace Go.Proofs.YtginpkchjeooeaaDoor
open Go.Vm

theorem flat_isE (p : Pr) : (flat p).isEmpty = false := by
  cases h : flat p with
  | nil => exact absurd h (flat_ne p)
  | cons x l => rfl
theorem jn6 (p : Pr) : jn 6 (flat p) [] = flat (.un (op0 6) p) := by rw [jn, flat, List.append_nil]
theorem pcR60 {nx : List UInt8 → PR} {n : Nat} (hn : n ≤ 100001) (he : Eats nx) (h : ∀ s, s.length < n → AnsR 64 s (nx s)) (s : List UInt8) (hs : s.length < n) : AnsR 60 s (pStr nx s) := by
  obtain ⟨l0, r0, g, hl0, hl1, hr0⟩ := h s hs
  cases hx : nx s with
  | none =>
    rw [hx] at g
    have e : pStr nx s = none := by rw [pStr, hx]
    rw [e]
    refine ⟨l0, r0, ?_, hl0, hl1, fun p t e => by cases e⟩
    refine PC.walk tok mixed cfg0 Tryd.func60 rfl Tryd.call60 (by simp [bel_PR, bel_slM, bel_slN, belN, bel_Ns, fmN, fm0, belAll_append]) (by first | rfl | simp [bel_PR, bel_slM, bel_slN, belN, bel_Ns, fmN, fm0, belAll_append]) ?_; simp (maxSteps := 2000000) -implicitDefEqProofs +contextual (disch := first | assumption | omega | decide +kernel) only [push_cast, ↓capI, br2_true, br2_false, frk_tt, frk_tf, frk_f, frkD_tt, frkD_tf, frkD_f, pk2_true, pk2_false, imp_true, seval, Nat.reduceLeDiff, Nat.reduceEqDiff, reduceCtorEq, ↓reduceIte, fmN, fm0, take_N, toN1, slN_nil, encN, slN, cfg0, take_rest, ibeq_dec, st_M, os_M, encPR, slM_sl, ones_N, cfgJ, len_flat lenN, Tryd.ntmps60]
    refine callO.pc g ?_
    simp (maxSteps := 2000000) -implicitDefEqProofs +contextual (disch := first | assumption | omega | decide +kernel) only [push_cast, ↓capI, br2_true, br2_false, frk_tt, frk_tf, frk_f, frkD_tt, frkD_tf, frkD_f, pk2_true, pk2_false, imp_true, seval, Nat.reduceLeDiff, Nat.reduceEqDiff, reduceCtorEq, ↓reduceIte, fmN, fm0, take_N, toN1, slN_nil, encN, slN, cfg0, take_rest, ibeq_dec, st_M, os_M, encPR, slM_sl, ones_N, cfgJ, len_flat lenN]
    refine T.lp tok mixed cfg0 (fun ((l, r) : List Nd × List UInt8) => dd 2 (kp 2 (dd 17 (nl)))) (fun H0 ((l, r) : List Nd × List UInt8) => [.cells 0 [.sl true [] 0, .str [], .bool false], .cells 0 [.sl l.isEmpty (l.flatMap encN) l.length, .str r, .bool false]]) (fun ((l, r) : List Nd × List UInt8) => l = l0 ∧ r = r0) (fun ((l, r) : List Nd × List UInt8) => 0) ((l0, r0)) ?_ ?_ ?_
    · exact ⟨rfl, rfl⟩
    · exact Gn.canon (J := []) (by first | rfl | (simp [List.append_nil]; done) | (simp [List.append_nil]; rfl)) (by simp [wk, slN, putT, kp, dd, sv, nl]) (by simp [List.length_append]) (by simp [bel_PR, bel_slM, bel_slN, belN, bel_Ns, fmN, fm0, belAll_append, kp, dd, sv, nl]) (by simp [bel_PR, bel_slM, bel_slN, belN, bel_Ns, fmN, fm0, belAll_append])
    rintro ⟨l, r⟩ ⟨rfl, rfl⟩
    simp (maxSteps := 2000000) -implicitDefEqProofs +contextual (disch := first | assumption | omega | decide +kernel) only [push_cast, ↓capI, br2_true, br2_false, frk_tt, frk_tf, frk_f, frkD_tt, frkD_tf, frkD_f, pk2_true, pk2_false, imp_true, seval, Nat.reduceLeDiff, Nat.reduceEqDiff, reduceCtorEq, ↓reduceIte, fmN, fm0, take_N, toN1, slN_nil, encN, slN, cfg0, take_rest, ibeq_dec, st_M, os_M, encPR, slM_sl, ones_N, cfgJ, len_flat lenN]
    refine endK.ret ?_ (by first | rfl | simp [bel_PR, bel_slM, bel_slN, belN, bel_Ns, fmN, fm0, belAll_append]); simp [bel_PR, bel_slM, bel_slN, belN, bel_Ns, fmN, fm0, belAll_append, fzs_ok, imp, lenOK_iff, List.take_of_length_le, evRes, getT, getO, setO, fzs, fz, fzH, Nat.beq, retV, Res.then, ldT, ldR, mkV, getV, fmN, fm0, take_N, toN1, slN_nil, encN, slN, cfg0, take_rest, ibeq_dec, st_M, os_M, encPR, slM_sl, ones_N, cfgJ, len_flat lenN, Tryd.f60,  encPR, tt_68]
  | some q =>
    obtain ⟨p1, r1⟩ := q
    obtain ⟨rfl, rfl⟩ := hr0 _ _ hx
    rw [hx] at g
    have e : pStr nx s = some (strs (r0.length + 1) p1 r0) := by rw [pStr, hx]
    rw [e]
    have hE := he _ _ _ hx
    have hsl := strs_eats (r0.length + 1) p1 r0 hE.2
    have hsl2 := strs_len (r0.length + 1) p1 r0
    generalize hR : strs (r0.length + 1) p1 r0 = R at hsl hsl2
    obtain ⟨P, U⟩ := R
    simp only at hsl hsl2
    refine ⟨flat P, U, ?_, by omega, by omega, fun p t e => by cases e; exact ⟨rfl, rfl⟩⟩
    refine PC.walk tok mixed cfg0 Tryd.func60 rfl Tryd.call60 (by simp [bel_PR, bel_slM, bel_slN, belN, bel_Ns, fmN, fm0, belAll_append]) (by first | rfl | simp [bel_PR, bel_slM, bel_slN, belN, bel_Ns, fmN, fm0, belAll_append]) ?_; simp (maxSteps := 2000000) -implicitDefEqProofs +contextual (disch := first | assumption | omega | decide +kernel) only [push_cast, ↓capI, br2_true, br2_false, frk_tt, frk_tf, frk_f, frkD_tt, frkD_tf, frkD_f, pk2_true, pk2_false, imp_true, seval, Nat.reduceLeDiff, Nat.reduceEqDiff, reduceCtorEq, ↓reduceIte, fmN, fm0, take_N, toN1, slN_nil, encN, slN, cfg0, take_rest, ibeq_dec, st_M, os_M, encPR, slM_sl, ones_N, cfgJ, len_flat lenN, Tryd.ntmps60]
    refine callO.pc g ?_
    simp (maxSteps := 2000000) -implicitDefEqProofs +contextual (disch := first | assumption | omega | decide +kernel) only [push_cast, ↓capI, br2_true, br2_false, frk_tt, frk_tf, frk_f, frkD_tt, frkD_tf, frkD_f, pk2_true, pk2_false, imp_true, seval, Nat.reduceLeDiff, Nat.reduceEqDiff, reduceCtorEq, ↓reduceIte, fmN, fm0, take_N, toN1, slN_nil, encN, slN, cfg0, take_rest, ibeq_dec, st_M, os_M, encPR, slM_sl, ones_N, cfgJ, len_flat lenN]
    refine T.lp tok mixed cfg0 (fun ((p, r) : Pr × List UInt8) => dd 2 (kp 2 (dd 17 (nl)))) (fun H0 ((p, r) : Pr × List UInt8) => [.cells 0 [.sl true [] 0, .str [], .bool false], .cells 0 [.sl (flat p).isEmpty ((flat p).flatMap encN) (flat p).length, .str r, .bool true]]) (fun ((p, r) : Pr × List UInt8) => (flat p).length + r.length ≤ s.length ∧ ∃ m, r.length < m ∧ strs m p r = (P, U)) (fun ((p, r) : Pr × List UInt8) => r.length) ((p1, r0)) ?_ ?_ ?_
    · exact ⟨hE.1, _, Nat.lt_succ_self _, hR⟩
    · exact Gn.canon (J := []) (by first | rfl | (simp [List.append_nil]; done) | (simp [List.append_nil]; rfl)) (by simp [wk, slN, putT, kp, dd, sv, nl]) (by simp [List.length_append]) (by simp [bel_PR, bel_slM, bel_slN, belN, bel_Ns, fmN, fm0, belAll_append, kp, dd, sv, nl]) (by simp [bel_PR, bel_slM, bel_slN, belN, bel_Ns, fmN, fm0, belAll_append])
    rintro ⟨p, r⟩ ⟨hpl, m, hm, he2⟩
    cases m with
    | zero => omega
    | succ m =>
    rw [strs] at he2
    have g2 := pc52 r 42
    rw [show ((42 : UInt8).toNat : Int) = 42 from rfl] at g2
    cases hb : begins r [42]
    · rw [hb] at g2
      rw [if_neg (by rw [hb]; simp)] at he2
      cases he2
      simp (maxSteps := 2000000) -implicitDefEqProofs +contextual (disch := first | assumption | omega | decide +kernel) only [push_cast, ↓capI, br2_true, br2_false, frk_tt, frk_tf, frk_f, frkD_tt, frkD_tf, frkD_f, pk2_true, pk2_false, imp_true, seval, Nat.reduceLeDiff, Nat.reduceEqDiff, reduceCtorEq, ↓reduceIte, fmN, fm0, take_N, toN1, slN_nil, encN, slN, cfg0, take_rest, ibeq_dec, st_M, os_M, encPR, slM_sl, ones_N, cfgJ, len_flat lenN]
      refine callO.pc g2 ?_
      simp (maxSteps := 2000000) -implicitDefEqProofs +contextual (disch := first | assumption | omega | decide +kernel) only [push_cast, ↓capI, br2_true, br2_false, frk_tt, frk_tf, frk_f, frkD_tt, frkD_tf, frkD_f, pk2_true, pk2_false, imp_true, seval, Nat.reduceLeDiff, Nat.reduceEqDiff, reduceCtorEq, ↓reduceIte, fmN, fm0, take_N, toN1, slN_nil, encN, slN, cfg0, take_rest, ibeq_dec, st_M, os_M, encPR, slM_sl, ones_N, cfgJ, len_flat lenN]
      refine endK.ret ?_ (by first | rfl | simp [bel_PR, bel_slM, bel_slN, belN, bel_Ns, fmN, fm0, belAll_append]); simp [bel_PR, bel_slM, bel_slN, belN, bel_Ns, fmN, fm0, belAll_append, fzs_ok, imp, lenOK_iff, List.take_of_length_le, evRes, getT, getO, setO, fzs, fz, fzH, Nat.beq, retV, Res.then, ldT, ldR, mkV, getV, fmN, fm0, take_N, toN1, slN_nil, encN, slN, cfg0, take_rest, ibeq_dec, st_M, os_M, encPR, slM_sl, ones_N, cfgJ, len_flat lenN, Tryd.f60,  encPR, tt_68]
    · rw [hb] at g2
      have hbl := begins_le hb
      simp only [List.length_cons, List.length_nil] at hbl
      have hd : (r.drop 1).length = r.length - 1 := List.length_drop
      have hdt : (r.drop 1).take (r.length - 1) = r.drop 1 := List.take_of_length_le (by omega)
      have hj := pc53m 6 (flat p) [] (by omega) (by simp)
      rw [jn6] at hj
      simp only [slM_sl, List.isEmpty_nil, List.flatMap_nil, List.length_nil] at hj
      rw [if_pos hb] at he2
      simp (maxSteps := 2000000) -implicitDefEqProofs +contextual (disch := first | assumption | omega | decide +kernel) only [push_cast, ↓capI, br2_true, br2_false, frk_tt, frk_tf, frk_f, frkD_tt, frkD_tf, frkD_f, pk2_true, pk2_false, imp_true, seval, Nat.reduceLeDiff, Nat.reduceEqDiff, reduceCtorEq, ↓reduceIte, fmN, fm0, take_N, toN1, slN_nil, encN, slN, cfg0, take_rest, ibeq_dec, st_M, os_M, encPR, slM_sl, ones_N, cfgJ, len_flat lenN]
      refine callO.pc g2 ?_
      simp (maxSteps := 2000000) -implicitDefEqProofs +contextual (disch := first | assumption | omega | decide +kernel) only [push_cast, ↓capI, br2_true, br2_false, frk_tt, frk_tf, frk_f, frkD_tt, frkD_tf, frkD_f, pk2_true, pk2_false, imp_true, seval, Nat.reduceLeDiff, Nat.reduceEqDiff, reduceCtorEq, ↓reduceIte, fmN, fm0, take_N, toN1, slN_nil, encN, slN, cfg0, take_rest, ibeq_dec, st_M, os_M, encPR, slM_sl, ones_N, cfgJ, len_flat lenN, hdt]
      refine callG.pc1 hj ?_
      simp (maxSteps := 2000000) -implicitDefEqProofs +contextual (disch := first | assumption | omega | decide +kernel) only [push_cast, ↓capI, br2_true, br2_false, frk_tt, frk_tf, frk_f, frkD_tt, frkD_tf, frkD_f, pk2_true, pk2_false, imp_true, seval, Nat.reduceLeDiff, Nat.reduceEqDiff, reduceCtorEq, ↓reduceIte, fmN, fm0, take_N, toN1, slN_nil, encN, slN, cfg0, take_rest, ibeq_dec, st_M, os_M, encPR, slM_sl, ones_N, cfgJ, len_flat lenN, hdt]
      refine ⟨(.un (op0 6) p, r.drop 1), ⟨by simp only [flat, List.length_cons]; omega, m, by (try simp only); omega, he2⟩, by (try simp only); omega, ?_⟩; exact Gn.canon (by first | rfl | (simp [List.append_nil]; rfl)) (by simp [wk, slN]) (by simp [List.length_append]) (by simp [bel_PR, bel_slM, bel_slN, belN, bel_Ns, fmN, fm0, belAll_append]) (by simp [bel_PR, bel_slM, bel_slN, belN, bel_Ns, fmN, fm0, belAll_append])
end Go.Proofs.YtginpkchjeooeaaDoor

/- Chapter 41: the reference's text of a path expression; Format. -/
set_option maxRecDepth 100000
set_option maxHeartbeats 4000000
set_option linter.all false
namespace Go.Proofs.YtginpkchjeooeaaDoor
open Go.Vm

theorem prec_top {sw : Int} {p : Pr} (hp : okP sw p) : (3 ≤ prec p ↔ ¬ ((top p).op = 4 ∨ (top p).op = 5)) ∧ (2 ≤ prec p ↔ ¬ (top p).op = 5) ∧ 1 ≤ prec p := by
  cases p with
  | leaf x =>
    obtain ⟨h, _⟩ := hp
    simp only [prec, top]
    omega
  | un x p =>
    obtain ⟨h, _⟩ := hp
    simp only [prec, top]
    omega
  | bin x p q =>
    obtain ⟨h, _⟩ := hp
    simp only [prec, top]
    by_cases h5 : x.op = 5
    · rw [if_pos h5]
      omega
    · rw [if_neg h5]
      omega
theorem pc48 (l : List Nd) (a : Nat) (p : Pr) (r : List Nd) (y z : Int) (h : l.drop a = flat p ++ r) (hm : l.length ≤ 4000000) (hpc : PC Tryd.prog 35 [slN l, .int .i64 a] (.str (tx p))) :
    PC Tryd.prog 48 [slN l, .int .i64 a, .int .i64 y, .int .i64 z] (.str (if (top p).op = y ∨ (top p).op = z then [40] ++ tx p ++ [41] else tx p)) := by
  obtain ⟨t, ht⟩ := flat_top p
  rw [ht, List.cons_append] at h
  obtain ⟨hlt, hX, _⟩ := drop_cons h
  have t1 := tx_len p
  have hn := congrArg List.length h
  rw [List.length_drop, ← List.cons_append, ← ht, List.length_append] at hn
  by_cases hy : (top p).op = y
  · rw [if_pos (.inl hy)]
    refine PC.walk tok mixed cfg0 Tryd.func48 rfl Tryd.call48 (by simp [fmN, fm0, belN, bel_Ns, bel_slN]) (by first | rfl | simp [fmN, fm0, belN, bel_Ns, bel_slN]) ?_; simp (maxSteps := 2000000) -implicitDefEqProofs +contextual (disch := first | assumption | omega | decide +kernel) only [push_cast, ↓capI, br2_true, br2_false, frk_tt, frk_tf, frk_f, frkD_tt, frkD_tf, frkD_f, pk2_true, pk2_false, imp_true, seval, Nat.reduceLeDiff, Nat.reduceEqDiff, reduceCtorEq, ↓reduceIte, fmN, fm0, take_N, toN1, slN_nil, encN, slN, cfg0, get_flat_part lenN, get_flat_drop lenN, len_flat lenN, Tryd.ntmps48]
    simp (maxSteps := 2000000) -implicitDefEqProofs +contextual (disch := first | assumption | omega | decide +kernel) only [push_cast, ↓capI, br2_true, br2_false, frk_tt, frk_tf, frk_f, frkD_tt, frkD_tf, frkD_f, pk2_true, pk2_false, imp_true, seval, Nat.reduceLeDiff, Nat.reduceEqDiff, reduceCtorEq, ↓reduceIte, fmN, fm0, take_N, toN1, slN_nil, encN, slN, cfg0, get_flat_part lenN, get_flat_drop lenN, len_flat lenN, hX, hy]
    refine callO.pc hpc ?_
    simp (maxSteps := 2000000) -implicitDefEqProofs +contextual (disch := first | assumption | omega | decide +kernel) only [push_cast, ↓capI, br2_true, br2_false, frk_tt, frk_tf, frk_f, frkD_tt, frkD_tf, frkD_f, pk2_true, pk2_false, imp_true, seval, Nat.reduceLeDiff, Nat.reduceEqDiff, reduceCtorEq, ↓reduceIte, fmN, fm0, take_N, toN1, slN_nil, encN, slN, cfg0, get_flat_part lenN, get_flat_drop lenN, len_flat lenN]
    (try refine ⟨by (try simp only [List.length_append, List.length_cons, List.length_nil]); omega, fun _ => ?_⟩)
    (try simp (maxSteps := 2000000) -implicitDefEqProofs +contextual (disch := first | assumption | omega | decide +kernel) only [push_cast, ↓capI, br2_true, br2_false, frk_tt, frk_tf, frk_f, frkD_tt, frkD_tf, frkD_f, pk2_true, pk2_false, imp_true, seval, Nat.reduceLeDiff, Nat.reduceEqDiff, reduceCtorEq, ↓reduceIte, fmN, fm0, take_N, toN1, slN_nil, encN, slN, cfg0, get_flat_part lenN, get_flat_drop lenN, len_flat lenN])
    (try refine ⟨by (try simp only [List.length_append, List.length_cons, List.length_nil]); omega, fun _ => ?_⟩)
    refine endK.ret ?_ (by first | rfl | simp [fmN, fm0, belN, bel_Ns, bel_slN]); simp [evRes, getT, retV, Tryd.f48]
  by_cases hz : (top p).op = z
  · rw [if_pos (.inr hz)]
    refine PC.walk tok mixed cfg0 Tryd.func48 rfl Tryd.call48 (by simp [fmN, fm0, belN, bel_Ns, bel_slN]) (by first | rfl | simp [fmN, fm0, belN, bel_Ns, bel_slN]) ?_; simp (maxSteps := 2000000) -implicitDefEqProofs +contextual (disch := first | assumption | omega | decide +kernel) only [push_cast, ↓capI, br2_true, br2_false, frk_tt, frk_tf, frk_f, frkD_tt, frkD_tf, frkD_f, pk2_true, pk2_false, imp_true, seval, Nat.reduceLeDiff, Nat.reduceEqDiff, reduceCtorEq, ↓reduceIte, fmN, fm0, take_N, toN1, slN_nil, encN, slN, cfg0, get_flat_part lenN, get_flat_drop lenN, len_flat lenN, Tryd.ntmps48]
    simp (maxSteps := 2000000) -implicitDefEqProofs +contextual (disch := first | assumption | omega | decide +kernel) only [push_cast, ↓capI, br2_true, br2_false, frk_tt, frk_tf, frk_f, frkD_tt, frkD_tf, frkD_f, pk2_true, pk2_false, imp_true, seval, Nat.reduceLeDiff, Nat.reduceEqDiff, reduceCtorEq, ↓reduceIte, fmN, fm0, take_N, toN1, slN_nil, encN, slN, cfg0, get_flat_part lenN, get_flat_drop lenN, len_flat lenN, hX, hy, hz]
    refine callO.pc hpc ?_
    simp (maxSteps := 2000000) -implicitDefEqProofs +contextual (disch := first | assumption | omega | decide +kernel) only [push_cast, ↓capI, br2_true, br2_false, frk_tt, frk_tf, frk_f, frkD_tt, frkD_tf, frkD_f, pk2_true, pk2_false, imp_true, seval, Nat.reduceLeDiff, Nat.reduceEqDiff, reduceCtorEq, ↓reduceIte, fmN, fm0, take_N, toN1, slN_nil, encN, slN, cfg0, get_flat_part lenN, get_flat_drop lenN, len_flat lenN]
    (try refine ⟨by (try simp only [List.length_append, List.length_cons, List.length_nil]); omega, fun _ => ?_⟩)
    (try simp (maxSteps := 2000000) -implicitDefEqProofs +contextual (disch := first | assumption | omega | decide +kernel) only [push_cast, ↓capI, br2_true, br2_false, frk_tt, frk_tf, frk_f, frkD_tt, frkD_tf, frkD_f, pk2_true, pk2_false, imp_true, seval, Nat.reduceLeDiff, Nat.reduceEqDiff, reduceCtorEq, ↓reduceIte, fmN, fm0, take_N, toN1, slN_nil, encN, slN, cfg0, get_flat_part lenN, get_flat_drop lenN, len_flat lenN])
    (try refine ⟨by (try simp only [List.length_append, List.length_cons, List.length_nil]); omega, fun _ => ?_⟩)
    refine endK.ret ?_ (by first | rfl | simp [fmN, fm0, belN, bel_Ns, bel_slN]); simp [evRes, getT, retV, Tryd.f48]
  · rw [if_neg (fun g => g.elim hy hz)]
    refine PC.walk tok mixed cfg0 Tryd.func48 rfl Tryd.call48 (by simp [fmN, fm0, belN, bel_Ns, bel_slN]) (by first | rfl | simp [fmN, fm0, belN, bel_Ns, bel_slN]) ?_; simp (maxSteps := 2000000) -implicitDefEqProofs +contextual (disch := first | assumption | omega | decide +kernel) only [push_cast, ↓capI, br2_true, br2_false, frk_tt, frk_tf, frk_f, frkD_tt, frkD_tf, frkD_f, pk2_true, pk2_false, imp_true, seval, Nat.reduceLeDiff, Nat.reduceEqDiff, reduceCtorEq, ↓reduceIte, fmN, fm0, take_N, toN1, slN_nil, encN, slN, cfg0, get_flat_part lenN, get_flat_drop lenN, len_flat lenN, Tryd.ntmps48]
    simp (maxSteps := 2000000) -implicitDefEqProofs +contextual (disch := first | assumption | omega | decide +kernel) only [push_cast, ↓capI, br2_true, br2_false, frk_tt, frk_tf, frk_f, frkD_tt, frkD_tf, frkD_f, pk2_true, pk2_false, imp_true, seval, Nat.reduceLeDiff, Nat.reduceEqDiff, reduceCtorEq, ↓reduceIte, fmN, fm0, take_N, toN1, slN_nil, encN, slN, cfg0, get_flat_part lenN, get_flat_drop lenN, len_flat lenN, hX, hy, hz]
    refine callO.pc hpc ?_
    simp (maxSteps := 2000000) -implicitDefEqProofs +contextual (disch := first | assumption | omega | decide +kernel) only [push_cast, ↓capI, br2_true, br2_false, frk_tt, frk_tf, frk_f, frkD_tt, frkD_tf, frkD_f, pk2_true, pk2_false, imp_true, seval, Nat.reduceLeDiff, Nat.reduceEqDiff, reduceCtorEq, ↓reduceIte, fmN, fm0, take_N, toN1, slN_nil, encN, slN, cfg0, get_flat_part lenN, get_flat_drop lenN, len_flat lenN]
    refine endK.ret ?_ (by first | rfl | simp [fmN, fm0, belN, bel_Ns, bel_slN]); simp [evRes, getT, retV, Tryd.f48]
theorem in3 {sw : Int} {p : Pr} (hp : okP sw p) : (if (top p).op = 4 ∨ (top p).op = 5 then [40] ++ tx p ++ [41] else tx p) = inn (prec p) 3 (tx p) := by
  have := (prec_top hp).1
  unfold inn
  by_cases h : (top p).op = 4 ∨ (top p).op = 5
  · rw [if_pos h, if_pos (by omega)]
  · rw [if_neg h, if_neg (by omega)]
theorem in2 {sw : Int} {p : Pr} (hp : okP sw p) : (if (top p).op = 5 ∨ (top p).op = 5 then [40] ++ tx p ++ [41] else tx p) = inn (prec p) 2 (tx p) := by
  have := (prec_top hp).2.1
  unfold inn
  by_cases h : (top p).op = 5
  · rw [if_pos (.inl h), if_pos (by omega)]
  · rw [if_neg (fun g => g.elim h h), if_neg (by omega)]
theorem in1 {sw : Int} {p : Pr} (hp : okP sw p) : inn (prec p) 1 (tx p) = tx p := by
  have := (prec_top hp).2.2
  rw [inn, if_neg (by omega)]
theorem pc35 (l : List Nd) (hm : l.length ≤ 4000000) : ∀ (p : Pr) (a : Nat) (r : List Nd), okP 1000000000 p → l.drop a = flat p ++ r → PC Tryd.prog 35 [slN l, .int .i64 a] (.str (tx p))
  | .leaf x, a, r, hp, hl => by
    have hok := ok_leaf hp
    obtain ⟨h0, hc⟩ := hp
    obtain ⟨hlt, hX, h2⟩ := drop_cons (x := x) (r := r) hl
    rcases h0 with h | h | h
    · refine PC.walk tok mixed cfg0 Tryd.func35 rfl Tryd.call35 (by simp [fmN, fm0, belN, bel_Ns, bel_slN]) (by first | rfl | simp [fmN, fm0, belN, bel_Ns, bel_slN]) ?_; simp (maxSteps := 2000000) -implicitDefEqProofs +contextual (disch := first | assumption | omega | decide +kernel) only [push_cast, ↓capI, br2_true, br2_false, frk_tt, frk_tf, frk_f, frkD_tt, frkD_tf, frkD_f, pk2_true, pk2_false, imp_true, seval, Nat.reduceLeDiff, Nat.reduceEqDiff, reduceCtorEq, ↓reduceIte, fmN, fm0, take_N, toN1, slN_nil, encN, slN, cfg0, get_flat_part lenN, get_flat_drop lenN, len_flat lenN, Tryd.ntmps35]
      simp (maxSteps := 2000000) -implicitDefEqProofs +contextual (disch := first | assumption | omega | decide +kernel) only [push_cast, ↓capI, br2_true, br2_false, frk_tt, frk_tf, frk_f, frkD_tt, frkD_tf, frkD_f, pk2_true, pk2_false, imp_true, seval, Nat.reduceLeDiff, Nat.reduceEqDiff, reduceCtorEq, ↓reduceIte, fmN, fm0, take_N, toN1, slN_nil, encN, slN, cfg0, get_flat_part lenN, get_flat_drop lenN, len_flat lenN, hX, h]
      refine endK.ret ?_ (by first | rfl | simp [fmN, fm0, belN, bel_Ns, bel_slN]); simp [evRes, getT, retV, Tryd.f35,  tx, h]
    · refine PC.walk tok mixed cfg0 Tryd.func35 rfl Tryd.call35 (by simp [fmN, fm0, belN, bel_Ns, bel_slN]) (by first | rfl | simp [fmN, fm0, belN, bel_Ns, bel_slN]) ?_; simp (maxSteps := 2000000) -implicitDefEqProofs +contextual (disch := first | assumption | omega | decide +kernel) only [push_cast, ↓capI, br2_true, br2_false, frk_tt, frk_tf, frk_f, frkD_tt, frkD_tf, frkD_f, pk2_true, pk2_false, imp_true, seval, Nat.reduceLeDiff, Nat.reduceEqDiff, reduceCtorEq, ↓reduceIte, fmN, fm0, take_N, toN1, slN_nil, encN, slN, cfg0, get_flat_part lenN, get_flat_drop lenN, len_flat lenN, Tryd.ntmps35]
      simp (maxSteps := 2000000) -implicitDefEqProofs +contextual (disch := first | assumption | omega | decide +kernel) only [push_cast, ↓capI, br2_true, br2_false, frk_tt, frk_tf, frk_f, frkD_tt, frkD_tf, frkD_f, pk2_true, pk2_false, imp_true, seval, Nat.reduceLeDiff, Nat.reduceEqDiff, reduceCtorEq, ↓reduceIte, fmN, fm0, take_N, toN1, slN_nil, encN, slN, cfg0, get_flat_part lenN, get_flat_drop lenN, len_flat lenN, hX, h]
      refine endK.ret ?_ (by first | rfl | simp [fmN, fm0, belN, bel_Ns, bel_slN]); simp [evRes, getT, retV, Tryd.f35,  tx, h]
    · obtain ⟨b1, b2⟩ := hok h
      have hf := pc50g x.n.toNat (by omega)
      rw [Int.toNat_of_nonneg b1] at hf
      refine PC.walk tok mixed cfg0 Tryd.func35 rfl Tryd.call35 (by simp [fmN, fm0, belN, bel_Ns, bel_slN]) (by first | rfl | simp [fmN, fm0, belN, bel_Ns, bel_slN]) ?_; simp (maxSteps := 2000000) -implicitDefEqProofs +contextual (disch := first | assumption | omega | decide +kernel) only [push_cast, ↓capI, br2_true, br2_false, frk_tt, frk_tf, frk_f, frkD_tt, frkD_tf, frkD_f, pk2_true, pk2_false, imp_true, seval, Nat.reduceLeDiff, Nat.reduceEqDiff, reduceCtorEq, ↓reduceIte, fmN, fm0, take_N, toN1, slN_nil, encN, slN, cfg0, get_flat_part lenN, get_flat_drop lenN, len_flat lenN, Tryd.ntmps35]
      simp (maxSteps := 2000000) -implicitDefEqProofs +contextual (disch := first | assumption | omega | decide +kernel) only [push_cast, ↓capI, br2_true, br2_false, frk_tt, frk_tf, frk_f, frkD_tt, frkD_tf, frkD_f, pk2_true, pk2_false, imp_true, seval, Nat.reduceLeDiff, Nat.reduceEqDiff, reduceCtorEq, ↓reduceIte, fmN, fm0, take_N, toN1, slN_nil, encN, slN, cfg0, get_flat_part lenN, get_flat_drop lenN, len_flat lenN, hX, h]
      refine callO.pc hf ?_
      simp (maxSteps := 2000000) -implicitDefEqProofs +contextual (disch := first | assumption | omega | decide +kernel) only [push_cast, ↓capI, br2_true, br2_false, frk_tt, frk_tf, frk_f, frkD_tt, frkD_tf, frkD_f, pk2_true, pk2_false, imp_true, seval, Nat.reduceLeDiff, Nat.reduceEqDiff, reduceCtorEq, ↓reduceIte, fmN, fm0, take_N, toN1, slN_nil, encN, slN, cfg0, get_flat_part lenN, get_flat_drop lenN, len_flat lenN]
      refine endK.ret ?_ (by first | rfl | simp [fmN, fm0, belN, bel_Ns, bel_slN]); simp [evRes, getT, retV, Tryd.f35,  tx, h]
  | .un x p, a, r, hp, hl => by
    obtain ⟨h4, hp⟩ := hp
    obtain ⟨hlt, hX, h2⟩ := drop_cons (x := x) (r := flat p ++ r) (by rw [hl, flat, List.cons_append])
    have i1 := pc48 l (a + 1) p r 4 5 h2 hm (pc35 l hm p (a + 1) r hp h2)
    rw [show ((a + 1 : Nat) : Int) = a + 1 from rfl, in3 hp] at i1
    have hn := drop_len hlt h2
    have ht := tx_len p
    have hn := inn_len (prec p) 3 (tx p)
    refine PC.walk tok mixed cfg0 Tryd.func35 rfl Tryd.call35 (by simp [fmN, fm0, belN, bel_Ns, bel_slN]) (by first | rfl | simp [fmN, fm0, belN, bel_Ns, bel_slN]) ?_; simp (maxSteps := 2000000) -implicitDefEqProofs +contextual (disch := first | assumption | omega | decide +kernel) only [push_cast, ↓capI, br2_true, br2_false, frk_tt, frk_tf, frk_f, frkD_tt, frkD_tf, frkD_f, pk2_true, pk2_false, imp_true, seval, Nat.reduceLeDiff, Nat.reduceEqDiff, reduceCtorEq, ↓reduceIte, fmN, fm0, take_N, toN1, slN_nil, encN, slN, cfg0, get_flat_part lenN, get_flat_drop lenN, len_flat lenN, Tryd.ntmps35]
    simp (maxSteps := 2000000) -implicitDefEqProofs +contextual (disch := first | assumption | omega | decide +kernel) only [push_cast, ↓capI, br2_true, br2_false, frk_tt, frk_tf, frk_f, frkD_tt, frkD_tf, frkD_f, pk2_true, pk2_false, imp_true, seval, Nat.reduceLeDiff, Nat.reduceEqDiff, reduceCtorEq, ↓reduceIte, fmN, fm0, take_N, toN1, slN_nil, encN, slN, cfg0, get_flat_part lenN, get_flat_drop lenN, len_flat lenN, hX, h4]
    refine callO.pc i1 ?_
    simp (maxSteps := 2000000) -implicitDefEqProofs +contextual (disch := first | assumption | omega | decide +kernel) only [push_cast, ↓capI, br2_true, br2_false, frk_tt, frk_tf, frk_f, frkD_tt, frkD_tf, frkD_f, pk2_true, pk2_false, imp_true, seval, Nat.reduceLeDiff, Nat.reduceEqDiff, reduceCtorEq, ↓reduceIte, fmN, fm0, take_N, toN1, slN_nil, encN, slN, cfg0, get_flat_part lenN, get_flat_drop lenN, len_flat lenN]
    (try refine ⟨by (try simp only [List.length_append, List.length_cons, List.length_nil]); omega, fun _ => ?_⟩)
    refine endK.ret ?_ (by first | rfl | simp [fmN, fm0, belN, bel_Ns, bel_slN]); simp [evRes, getT, retV, Tryd.f35,  tx]
  | .bin x p q, a, r, hp, hl => by
    obtain ⟨h4, hp, hq⟩ := hp
    obtain ⟨hlt, hX, h2⟩ := drop_cons (x := x) (r := flat p ++ (flat q ++ r)) (by rw [hl, flat, List.cons_append, List.append_assoc])
    have j1 := pc35 l hm p (a + 1) _ hp h2
    have j2 := pc35 l hm q (a + 1 + (flat p).length) r hq (drop_app h2)
    have i3 := end40 p l (a + 1) _ hp h2 hlt hm
    have hn := drop_len hlt h2
    have hn2 := drop_len (by omega) (drop_app h2)
    have hnn : (flat p).length ≤ 4000000 := by omega
    have t1 := tx_len p
    have t2 := tx_len q
    have n1 := inn_len (prec p) 2 (tx p)
    have n2 := inn_len (prec p) 1 (tx p)
    have n3 := inn_len (prec q) 2 (tx q)
    have n4 := inn_len (prec q) 3 (tx q)
    rcases h4 with h | h
    · have i1 := pc48 l (a + 1) p _ 5 5 h2 hm j1
      have i2 := pc48 l (a + 1 + (flat p).length) q _ 4 5 (drop_app h2) hm j2
      rw [in2 hp] at i1
      rw [in3 hq] at i2
      rw [show ((a + 1 + (flat p).length : Nat) : Int) = (a : Int) + 1 + ((flat p).length : Nat) by omega] at i2
      rw [show ((a + 1 : Nat) : Int) = a + 1 from rfl] at i1 i3
      refine PC.walk tok mixed cfg0 Tryd.func35 rfl Tryd.call35 (by simp [fmN, fm0, belN, bel_Ns, bel_slN]) (by first | rfl | simp [fmN, fm0, belN, bel_Ns, bel_slN]) ?_; simp (maxSteps := 2000000) -implicitDefEqProofs +contextual (disch := first | assumption | omega | decide +kernel) only [push_cast, ↓capI, br2_true, br2_false, frk_tt, frk_tf, frk_f, frkD_tt, frkD_tf, frkD_f, pk2_true, pk2_false, imp_true, seval, Nat.reduceLeDiff, Nat.reduceEqDiff, reduceCtorEq, ↓reduceIte, fmN, fm0, take_N, toN1, slN_nil, encN, slN, cfg0, get_flat_part lenN, get_flat_drop lenN, len_flat lenN, Tryd.ntmps35]
      simp (maxSteps := 2000000) -implicitDefEqProofs +contextual (disch := first | assumption | omega | decide +kernel) only [push_cast, ↓capI, br2_true, br2_false, frk_tt, frk_tf, frk_f, frkD_tt, frkD_tf, frkD_f, pk2_true, pk2_false, imp_true, seval, Nat.reduceLeDiff, Nat.reduceEqDiff, reduceCtorEq, ↓reduceIte, fmN, fm0, take_N, toN1, slN_nil, encN, slN, cfg0, get_flat_part lenN, get_flat_drop lenN, len_flat lenN, hX, h]
      refine callO.pc i1 ?_
      simp (maxSteps := 2000000) -implicitDefEqProofs +contextual (disch := first | assumption | omega | decide +kernel) only [push_cast, ↓capI, br2_true, br2_false, frk_tt, frk_tf, frk_f, frkD_tt, frkD_tf, frkD_f, pk2_true, pk2_false, imp_true, seval, Nat.reduceLeDiff, Nat.reduceEqDiff, reduceCtorEq, ↓reduceIte, fmN, fm0, take_N, toN1, slN_nil, encN, slN, cfg0, get_flat_part lenN, get_flat_drop lenN, len_flat lenN]
      (try refine ⟨by (try simp only [List.length_append, List.length_cons, List.length_nil]); omega, fun _ => ?_⟩)
      refine callO.pc i3 ?_
      simp (maxSteps := 2000000) -implicitDefEqProofs +contextual (disch := first | assumption | omega | decide +kernel) only [push_cast, ↓capI, br2_true, br2_false, frk_tt, frk_tf, frk_f, frkD_tt, frkD_tf, frkD_f, pk2_true, pk2_false, imp_true, seval, Nat.reduceLeDiff, Nat.reduceEqDiff, reduceCtorEq, ↓reduceIte, fmN, fm0, take_N, toN1, slN_nil, encN, slN, cfg0, get_flat_part lenN, get_flat_drop lenN, len_flat lenN]
      refine callO.pc i2 ?_
      simp (maxSteps := 2000000) -implicitDefEqProofs +contextual (disch := first | assumption | omega | decide +kernel) only [push_cast, ↓capI, br2_true, br2_false, frk_tt, frk_tf, frk_f, frkD_tt, frkD_tf, frkD_f, pk2_true, pk2_false, imp_true, seval, Nat.reduceLeDiff, Nat.reduceEqDiff, reduceCtorEq, ↓reduceIte, fmN, fm0, take_N, toN1, slN_nil, encN, slN, cfg0, get_flat_part lenN, get_flat_drop lenN, len_flat lenN]
      (try refine ⟨by (try simp only [List.length_append, List.length_cons, List.length_nil]); omega, fun _ => ?_⟩)
      refine endK.ret ?_ (by first | rfl | simp [fmN, fm0, belN, bel_Ns, bel_slN]); simp [evRes, getT, retV, Tryd.f35,  tx, h]
    · have i2 := pc48 l (a + 1 + (flat p).length) q _ 5 5 (drop_app h2) hm j2
      rw [in2 hq] at i2
      rw [show ((a + 1 + (flat p).length : Nat) : Int) = (a : Int) + 1 + ((flat p).length : Nat) by omega] at i2
      rw [show ((a + 1 : Nat) : Int) = a + 1 from rfl] at j1 i3
      refine PC.walk tok mixed cfg0 Tryd.func35 rfl Tryd.call35 (by simp [fmN, fm0, belN, bel_Ns, bel_slN]) (by first | rfl | simp [fmN, fm0, belN, bel_Ns, bel_slN]) ?_; simp (maxSteps := 2000000) -implicitDefEqProofs +contextual (disch := first | assumption | omega | decide +kernel) only [push_cast, ↓capI, br2_true, br2_false, frk_tt, frk_tf, frk_f, frkD_tt, frkD_tf, frkD_f, pk2_true, pk2_false, imp_true, seval, Nat.reduceLeDiff, Nat.reduceEqDiff, reduceCtorEq, ↓reduceIte, fmN, fm0, take_N, toN1, slN_nil, encN, slN, cfg0, get_flat_part lenN, get_flat_drop lenN, len_flat lenN, Tryd.ntmps35]
      simp (maxSteps := 2000000) -implicitDefEqProofs +contextual (disch := first | assumption | omega | decide +kernel) only [push_cast, ↓capI, br2_true, br2_false, frk_tt, frk_tf, frk_f, frkD_tt, frkD_tf, frkD_f, pk2_true, pk2_false, imp_true, seval, Nat.reduceLeDiff, Nat.reduceEqDiff, reduceCtorEq, ↓reduceIte, fmN, fm0, take_N, toN1, slN_nil, encN, slN, cfg0, get_flat_part lenN, get_flat_drop lenN, len_flat lenN, hX, h]
      refine callO.pc j1 ?_
      simp (maxSteps := 2000000) -implicitDefEqProofs +contextual (disch := first | assumption | omega | decide +kernel) only [push_cast, ↓capI, br2_true, br2_false, frk_tt, frk_tf, frk_f, frkD_tt, frkD_tf, frkD_f, pk2_true, pk2_false, imp_true, seval, Nat.reduceLeDiff, Nat.reduceEqDiff, reduceCtorEq, ↓reduceIte, fmN, fm0, take_N, toN1, slN_nil, encN, slN, cfg0, get_flat_part lenN, get_flat_drop lenN, len_flat lenN]
      (try refine ⟨by (try simp only [List.length_append, List.length_cons, List.length_nil]); omega, fun _ => ?_⟩)
      refine callO.pc i3 ?_
      simp (maxSteps := 2000000) -implicitDefEqProofs +contextual (disch := first | assumption | omega | decide +kernel) only [push_cast, ↓capI, br2_true, br2_false, frk_tt, frk_tf, frk_f, frkD_tt, frkD_tf, frkD_f, pk2_true, pk2_false, imp_true, seval, Nat.reduceLeDiff, Nat.reduceEqDiff, reduceCtorEq, ↓reduceIte, fmN, fm0, take_N, toN1, slN_nil, encN, slN, cfg0, get_flat_part lenN, get_flat_drop lenN, len_flat lenN]
      refine callO.pc i2 ?_
      simp (maxSteps := 2000000) -implicitDefEqProofs +contextual (disch := first | assumption | omega | decide +kernel) only [push_cast, ↓capI, br2_true, br2_false, frk_tt, frk_tf, frk_f, frkD_tt, frkD_tf, frkD_f, pk2_true, pk2_false, imp_true, seval, Nat.reduceLeDiff, Nat.reduceEqDiff, reduceCtorEq, ↓reduceIte, fmN, fm0, take_N, toN1, slN_nil, encN, slN, cfg0, get_flat_part lenN, get_flat_drop lenN, len_flat lenN]
      (try refine ⟨by (try simp only [List.length_append, List.length_cons, List.length_nil]); omega, fun _ => ?_⟩)
      refine endK.ret ?_ (by first | rfl | simp [fmN, fm0, belN, bel_Ns, bel_slN]); simp [evRes, getT, retV, Tryd.f35,  tx, h, in1 hp]
theorem pc18 (l : List Nd) (hl : l.length ≤ 4000000) (s : List UInt8) (e : Int) (h : fmtL l s e) : PC Tryd.prog 18 [slN l] (.tup [.str s, .int .i64 e]) := by
  obtain ⟨he, ⟨hc, p, hp, hf, h24, hs⟩ | ⟨hc, hs⟩⟩ := h
  · have i1 := pc35 l hl p 0 [] hp (by rw [List.append_nil, ← hf, List.drop_zero])
    have i0 := pc12 1000000000 l hl
    rw [hc] at i0
    refine PC.walk tok mixed cfg0 Tryd.func18 rfl Tryd.call18 (by simp [fmN, fm0, belN, bel_Ns, bel_slN]) (by first | rfl | simp [fmN, fm0, belN, bel_Ns, bel_slN]) ?_; simp (maxSteps := 2000000) -implicitDefEqProofs +contextual (disch := first | assumption | omega | decide +kernel) only [push_cast, ↓capI, br2_true, br2_false, frk_tt, frk_tf, frk_f, frkD_tt, frkD_tf, frkD_f, pk2_true, pk2_false, imp_true, seval, Nat.reduceLeDiff, Nat.reduceEqDiff, reduceCtorEq, ↓reduceIte, fmN, fm0, take_N, toN1, slN_nil, encN, slN, cfg0, get_flat_part lenN, get_flat_drop lenN, len_flat lenN, Tryd.ntmps18]
    refine callO.pc i0 ?_
    simp (maxSteps := 2000000) -implicitDefEqProofs +contextual (disch := first | assumption | omega | decide +kernel) only [push_cast, ↓capI, br2_true, br2_false, frk_tt, frk_tf, frk_f, frkD_tt, frkD_tf, frkD_f, pk2_true, pk2_false, imp_true, seval, Nat.reduceLeDiff, Nat.reduceEqDiff, reduceCtorEq, ↓reduceIte, fmN, fm0, take_N, toN1, slN_nil, encN, slN, cfg0, get_flat_part lenN, get_flat_drop lenN, len_flat lenN]
    refine callO.pc i1 ?_
    simp (maxSteps := 2000000) -implicitDefEqProofs +contextual (disch := first | assumption | omega | decide +kernel) only [push_cast, ↓capI, br2_true, br2_false, frk_tt, frk_tf, frk_f, frkD_tt, frkD_tf, frkD_f, pk2_true, pk2_false, imp_true, seval, Nat.reduceLeDiff, Nat.reduceEqDiff, reduceCtorEq, ↓reduceIte, fmN, fm0, take_N, toN1, slN_nil, encN, slN, cfg0, get_flat_part lenN, get_flat_drop lenN, len_flat lenN]
    refine endK.ret ?_ (by first | rfl | simp [fmN, fm0, belN, bel_Ns, bel_slN]); simp [evRes, getT, retV, Tryd.f18,  he, hc, hs]
  · refine PC.walk tok mixed cfg0 Tryd.func18 rfl Tryd.call18 (by simp [fmN, fm0, belN, bel_Ns, bel_slN]) (by first | rfl | simp [fmN, fm0, belN, bel_Ns, bel_slN]) ?_; simp (maxSteps := 2000000) -implicitDefEqProofs +contextual (disch := first | assumption | omega | decide +kernel) only [push_cast, ↓capI, br2_true, br2_false, frk_tt, frk_tf, frk_f, frkD_tt, frkD_tf, frkD_f, pk2_true, pk2_false, imp_true, seval, Nat.reduceLeDiff, Nat.reduceEqDiff, reduceCtorEq, ↓reduceIte, fmN, fm0, take_N, toN1, slN_nil, encN, slN, cfg0, get_flat_part lenN, get_flat_drop lenN, len_flat lenN, Tryd.ntmps18]
    refine callO.pc (pc12 1000000000 l hl) ?_
    simp (maxSteps := 2000000) -implicitDefEqProofs +contextual (disch := first | assumption | omega | decide +kernel) only [push_cast, ↓capI, br2_true, br2_false, frk_tt, frk_tf, frk_f, frkD_tt, frkD_tf, frkD_f, pk2_true, pk2_false, imp_true, seval, Nat.reduceLeDiff, Nat.reduceEqDiff, reduceCtorEq, ↓reduceIte, fmN, fm0, take_N, toN1, slN_nil, encN, slN, cfg0, get_flat_part lenN, get_flat_drop lenN, len_flat lenN, hc]
    refine endK.ret ?_ (by first | rfl | simp [fmN, fm0, belN, bel_Ns, bel_slN]); simp [evRes, getT, retV, Tryd.f18,  he, hs]
end Go.Proofs.YtginpkchjeooeaaDoor

/- Chapter 41: Parse, by the program. -/
set_option maxRecDepth 100000
set_option maxHeartbeats 4000000
set_option linter.all false
namespace Go.Proofs.YtginpkchjeooeaaDoor
open Go.Vm

theorem nodesJ (p : Pr) (h : nice p) (hl : (flat p).length ≤ 4000000) : PCJ Tryd.prog (nodF p) [.agg (clX p), .sl true [] 0] (.buf 0 (flat p).length 0 (flat p).length 2) [.cells (flat p).length ((flat p).flatMap encN)] :=
  GCall.frame (nodes0 p h hl) (by simp [fmN, fm0, belN, bel_Ns, bel_slN, bel_clX, bel_encX, bel_MI, bel_slM])
theorem sh_Ns {k : Nat} {l : List Nd} : shs k (l.flatMap encN) = l.flatMap encN := shs_ok (bel_Ns l)
theorem pc19 (s : List UInt8) : PC Tryd.prog 19 [.str s] (encMI (parP s)) := by
  by_cases h : 16384 < s.length
  · have e : parP s = ([], 4) := by rw [parP, if_pos h]
    rw [e]
    refine PC.walk tok mixed cfg0 Tryd.func19 rfl Tryd.call19 (by simp [fmN, fm0, belN, bel_Ns, bel_slN, bel_clX, bel_encX, bel_MI, bel_slM]) (by first | rfl | simp [fmN, fm0, belN, bel_Ns, bel_slN, bel_clX, bel_encX, bel_MI, bel_slM]) ?_; simp (maxSteps := 2000000) -implicitDefEqProofs +contextual (disch := first | assumption | omega | decide +kernel) only [push_cast, ↓capI, br2_true, br2_false, frk_tt, frk_tf, frk_f, frkD_tt, frkD_tf, frkD_f, pk2_true, pk2_false, imp_true, seval, Nat.reduceLeDiff, Nat.reduceEqDiff, reduceCtorEq, ↓reduceIte, fmN, fm0, take_N, toN1, slN_nil, encN, slN, cfg0, cfgS, cfgP, get_flat_part lenN, get_flat_drop lenN, len_flat lenN, V.rn, rns, qn, setPs, rnOs, Ob.rn, List.set_cons_zero, List.size_toArray, encX, rn_clX, List.flatMap_append, Tryd.ntmps19]
    refine endK.ret ?_ (by first | rfl | simp [fmN, fm0, belN, bel_Ns, bel_slN, bel_clX, bel_encX, bel_MI, bel_slM]); simp [evRes, getT, retV, Tryd.f19,  encMI, slM_nil]
  have e : parP s = parQ s (pOr (s.length + 1) s) := by rw [parP, if_neg h]
  rw [e]
  obtain ⟨p, r, g, hl, hr⟩ := pg36 s (by omega)
  rw [encX] at g
  have heat := pOr_eats (s.length + 1) s
  cases hx : pOr (s.length + 1) s with
  | none =>
    rw [hx] at g
    refine PC.walk tok mixed cfg0 Tryd.func19 rfl Tryd.call19 (by simp [fmN, fm0, belN, bel_Ns, bel_slN, bel_clX, bel_encX, bel_MI, bel_slM]) (by first | rfl | simp [fmN, fm0, belN, bel_Ns, bel_slN, bel_clX, bel_encX, bel_MI, bel_slM]) ?_; simp (maxSteps := 2000000) -implicitDefEqProofs +contextual (disch := first | assumption | omega | decide +kernel) only [push_cast, ↓capI, br2_true, br2_false, frk_tt, frk_tf, frk_f, frkD_tt, frkD_tf, frkD_f, pk2_true, pk2_false, imp_true, seval, Nat.reduceLeDiff, Nat.reduceEqDiff, reduceCtorEq, ↓reduceIte, fmN, fm0, take_N, toN1, slN_nil, encN, slN, cfg0, cfgS, cfgP, get_flat_part lenN, get_flat_drop lenN, len_flat lenN, V.rn, rns, qn, setPs, rnOs, Ob.rn, List.set_cons_zero, List.size_toArray, encX, rn_clX, List.flatMap_append, Tryd.ntmps19]
    refine callO.part0 [0] g (by decide) rfl rfl ⟨by rfl, by simp, trivial⟩ ?_
    simp (maxSteps := 2000000) -implicitDefEqProofs +contextual (disch := first | assumption | omega | decide +kernel) only [push_cast, ↓capI, br2_true, br2_false, frk_tt, frk_tf, frk_f, frkD_tt, frkD_tf, frkD_f, pk2_true, pk2_false, imp_true, seval, Nat.reduceLeDiff, Nat.reduceEqDiff, reduceCtorEq, ↓reduceIte, fmN, fm0, take_N, toN1, slN_nil, encN, slN, cfg0, cfgS, cfgP, get_flat_part lenN, get_flat_drop lenN, len_flat lenN, V.rn, rns, qn, setPs, rnOs, Ob.rn, List.set_cons_zero, List.size_toArray, encX, rn_clX, List.flatMap_append]
    refine endK.ret ?_ (by first | rfl | simp [fmN, fm0, belN, bel_Ns, bel_slN, bel_clX, bel_encX, bel_MI, bel_slM]); simp [evRes, getT, retV, Tryd.f19,  parQ, encMI, slM_nil]
  | some q =>
    obtain ⟨p1, t⟩ := q
    rw [hx] at g
    obtain ⟨e1, e2⟩ := hr p1 t hx
    subst e1 e2
    obtain ⟨hlen, hok⟩ := heat p _ hx
    have hni := pOr_nice _ _ _ _ hx
    cases r with
    | cons c u =>
      have hne : (c :: u = []) = False := eq_false (List.cons_ne_nil _ _)
      refine PC.walk tok mixed cfg0 Tryd.func19 rfl Tryd.call19 (by simp [fmN, fm0, belN, bel_Ns, bel_slN, bel_clX, bel_encX, bel_MI, bel_slM]) (by first | rfl | simp [fmN, fm0, belN, bel_Ns, bel_slN, bel_clX, bel_encX, bel_MI, bel_slM]) ?_; simp (maxSteps := 2000000) -implicitDefEqProofs +contextual (disch := first | assumption | omega | decide +kernel) only [push_cast, ↓capI, br2_true, br2_false, frk_tt, frk_tf, frk_f, frkD_tt, frkD_tf, frkD_f, pk2_true, pk2_false, imp_true, seval, Nat.reduceLeDiff, Nat.reduceEqDiff, reduceCtorEq, ↓reduceIte, fmN, fm0, take_N, toN1, slN_nil, encN, slN, cfg0, cfgS, cfgP, get_flat_part lenN, get_flat_drop lenN, len_flat lenN, V.rn, rns, qn, setPs, rnOs, Ob.rn, List.set_cons_zero, List.size_toArray, encX, rn_clX, List.flatMap_append, Tryd.ntmps19]
      refine callO.part0 [0] g (by decide) rfl rfl ⟨by rfl, by simp, trivial⟩ ?_
      simp (maxSteps := 2000000) -implicitDefEqProofs +contextual (disch := first | assumption | omega | decide +kernel) only [push_cast, ↓capI, br2_true, br2_false, frk_tt, frk_tf, frk_f, frkD_tt, frkD_tf, frkD_f, pk2_true, pk2_false, imp_true, seval, Nat.reduceLeDiff, Nat.reduceEqDiff, reduceCtorEq, ↓reduceIte, fmN, fm0, take_N, toN1, slN_nil, encN, slN, cfg0, cfgS, cfgP, get_flat_part lenN, get_flat_drop lenN, len_flat lenN, V.rn, rns, qn, setPs, rnOs, Ob.rn, List.set_cons_zero, List.size_toArray, encX, rn_clX, List.flatMap_append, hne]
      refine endK.ret ?_ (by first | rfl | simp [fmN, fm0, belN, bel_Ns, bel_slN, bel_clX, bel_encX, bel_MI, bel_slM]); simp [evRes, getT, retV, Tryd.f19,  parQ, encMI, slM_nil]
    | nil =>
      have g2 := nodesJ p hni (by omega)
      by_cases h24 : 24 < (flat p).length
      · refine PC.walk tok mixed cfg0 Tryd.func19 rfl Tryd.call19 (by simp [fmN, fm0, belN, bel_Ns, bel_slN, bel_clX, bel_encX, bel_MI, bel_slM]) (by first | rfl | simp [fmN, fm0, belN, bel_Ns, bel_slN, bel_clX, bel_encX, bel_MI, bel_slM]) ?_; simp (maxSteps := 2000000) -implicitDefEqProofs +contextual (disch := first | assumption | omega | decide +kernel) only [push_cast, ↓capI, br2_true, br2_false, frk_tt, frk_tf, frk_f, frkD_tt, frkD_tf, frkD_f, pk2_true, pk2_false, imp_true, seval, Nat.reduceLeDiff, Nat.reduceEqDiff, reduceCtorEq, ↓reduceIte, fmN, fm0, take_N, toN1, slN_nil, encN, slN, cfg0, cfgS, cfgP, get_flat_part lenN, get_flat_drop lenN, len_flat lenN, V.rn, rns, qn, setPs, rnOs, Ob.rn, List.set_cons_zero, List.size_toArray, encX, rn_clX, List.flatMap_append, Tryd.ntmps19]
        refine callO.part0 [0] g (by decide) rfl rfl ⟨by rfl, by simp, trivial⟩ ?_
        simp (maxSteps := 2000000) -implicitDefEqProofs +contextual (disch := first | assumption | omega | decide +kernel) only [push_cast, ↓capI, br2_true, br2_false, frk_tt, frk_tf, frk_f, frkD_tt, frkD_tf, frkD_f, pk2_true, pk2_false, imp_true, seval, Nat.reduceLeDiff, Nat.reduceEqDiff, reduceCtorEq, ↓reduceIte, fmN, fm0, take_N, toN1, slN_nil, encN, slN, cfg0, cfgS, cfgP, get_flat_part lenN, get_flat_drop lenN, len_flat lenN, V.rn, rns, qn, setPs, rnOs, Ob.rn, List.set_cons_zero, List.size_toArray, encX, rn_clX, List.flatMap_append, h24]
        refine callI.of (mtX p) (callO.pcj g2 ?_)
        simp (maxSteps := 2000000) -implicitDefEqProofs +contextual (disch := first | assumption | omega | decide +kernel) only [push_cast, ↓capI, br2_true, br2_false, frk_tt, frk_tf, frk_f, frkD_tt, frkD_tf, frkD_f, pk2_true, pk2_false, imp_true, seval, Nat.reduceLeDiff, Nat.reduceEqDiff, reduceCtorEq, ↓reduceIte, fmN, fm0, take_N, toN1, slN_nil, encN, slN, cfg0, cfgS, cfgP, get_flat_part lenN, get_flat_drop lenN, len_flat lenN, V.rn, rns, qn, setPs, rnOs, Ob.rn, List.set_cons_zero, List.size_toArray, encX, rn_clX, List.flatMap_append, h24, V.sh, shOs, Ob.sh, sh_Ns]
        refine endK.ret ?_ (by first | rfl | simp [fmN, fm0, belN, bel_Ns, bel_slN, bel_clX, bel_encX, bel_MI, bel_slM]); simp [evRes, getT, retV, Tryd.f19,  parQ, encMI, slM_nil, h24]
      · have i1 := pc34 p hok (by omega)
        rw [encX] at i1
        have hsz : (flat p).length * 2 = ((flat p).flatMap encN).length := by rw [len_flat lenN]
        have htk : ((flat p).flatMap encN).take ((flat p).length * 2) = (flat p).flatMap encN := take_N
        by_cases ht : tx p = s
        · refine PC.walk tok mixed cfg0 Tryd.func19 rfl Tryd.call19 (by simp [fmN, fm0, belN, bel_Ns, bel_slN, bel_clX, bel_encX, bel_MI, bel_slM]) (by first | rfl | simp [fmN, fm0, belN, bel_Ns, bel_slN, bel_clX, bel_encX, bel_MI, bel_slM]) ?_; simp (maxSteps := 2000000) -implicitDefEqProofs +contextual (disch := first | assumption | omega | decide +kernel) only [push_cast, ↓capI, br2_true, br2_false, frk_tt, frk_tf, frk_f, frkD_tt, frkD_tf, frkD_f, pk2_true, pk2_false, imp_true, seval, Nat.reduceLeDiff, Nat.reduceEqDiff, reduceCtorEq, ↓reduceIte, fmN, fm0, take_N, toN1, slN_nil, encN, slN, cfg0, cfgS, cfgP, get_flat_part lenN, get_flat_drop lenN, len_flat lenN, V.rn, rns, qn, setPs, rnOs, Ob.rn, List.set_cons_zero, List.size_toArray, encX, rn_clX, List.flatMap_append, Tryd.ntmps19]
          refine callO.part0 [0] g (by decide) rfl rfl ⟨by rfl, by simp, trivial⟩ ?_
          simp (maxSteps := 2000000) -implicitDefEqProofs +contextual (disch := first | assumption | omega | decide +kernel) only [push_cast, ↓capI, br2_true, br2_false, frk_tt, frk_tf, frk_f, frkD_tt, frkD_tf, frkD_f, pk2_true, pk2_false, imp_true, seval, Nat.reduceLeDiff, Nat.reduceEqDiff, reduceCtorEq, ↓reduceIte, fmN, fm0, take_N, toN1, slN_nil, encN, slN, cfg0, cfgS, cfgP, get_flat_part lenN, get_flat_drop lenN, len_flat lenN, V.rn, rns, qn, setPs, rnOs, Ob.rn, List.set_cons_zero, List.size_toArray, encX, rn_clX, List.flatMap_append, h24]
          refine callI.of (mtX p) (callO.pcj g2 ?_)
          simp (maxSteps := 2000000) -implicitDefEqProofs +contextual (disch := first | assumption | omega | decide +kernel) only [push_cast, ↓capI, br2_true, br2_false, frk_tt, frk_tf, frk_f, frkD_tt, frkD_tf, frkD_f, pk2_true, pk2_false, imp_true, seval, Nat.reduceLeDiff, Nat.reduceEqDiff, reduceCtorEq, ↓reduceIte, fmN, fm0, take_N, toN1, slN_nil, encN, slN, cfg0, cfgS, cfgP, get_flat_part lenN, get_flat_drop lenN, len_flat lenN, V.rn, rns, qn, setPs, rnOs, Ob.rn, List.set_cons_zero, List.size_toArray, encX, rn_clX, List.flatMap_append, h24, V.sh, shOs, Ob.sh, sh_Ns]
          refine callO.pc i1 ?_
          simp (maxSteps := 2000000) -implicitDefEqProofs +contextual (disch := first | assumption | omega | decide +kernel) only [push_cast, ↓capI, br2_true, br2_false, frk_tt, frk_tf, frk_f, frkD_tt, frkD_tf, frkD_f, pk2_true, pk2_false, imp_true, seval, Nat.reduceLeDiff, Nat.reduceEqDiff, reduceCtorEq, ↓reduceIte, fmN, fm0, take_N, toN1, slN_nil, encN, slN, cfg0, cfgS, cfgP, get_flat_part lenN, get_flat_drop lenN, len_flat lenN, V.rn, rns, qn, setPs, rnOs, Ob.rn, List.set_cons_zero, List.size_toArray, encX, rn_clX, List.flatMap_append, ht]
          refine endK.gn (Gn.freeze (id := 1) rfl) ?_; refine endK.ret ?_ (by first | rfl | simp [fmN, fm0, belN, bel_Ns, bel_slN, bel_clX, bel_encX, bel_MI, bel_slM]); simp [fmN, fm0, belN, bel_Ns, bel_slN, bel_clX, bel_encX, bel_MI, bel_slM, fzs_ok, imp, lenOK_iff, List.take_of_length_le, evRes, getT, getO, setO, fzs, fz, fzH, Nat.beq, retV, Res.then, ldT, ldR, mkV, getV, fmN, fm0, take_N, toN1, slN_nil, encN, slN, cfg0, cfgS, cfgP, get_flat_part lenN, get_flat_drop lenN, len_flat lenN, V.rn, rns, qn, setPs, rnOs, Ob.rn, List.set_cons_zero, List.size_toArray, encX, rn_clX, List.flatMap_append, Tryd.f19,  parQ, encMI, slM_cons (flat_ne p), h24, ht, slN, htk]
        · refine PC.walk tok mixed cfg0 Tryd.func19 rfl Tryd.call19 (by simp [fmN, fm0, belN, bel_Ns, bel_slN, bel_clX, bel_encX, bel_MI, bel_slM]) (by first | rfl | simp [fmN, fm0, belN, bel_Ns, bel_slN, bel_clX, bel_encX, bel_MI, bel_slM]) ?_; simp (maxSteps := 2000000) -implicitDefEqProofs +contextual (disch := first | assumption | omega | decide +kernel) only [push_cast, ↓capI, br2_true, br2_false, frk_tt, frk_tf, frk_f, frkD_tt, frkD_tf, frkD_f, pk2_true, pk2_false, imp_true, seval, Nat.reduceLeDiff, Nat.reduceEqDiff, reduceCtorEq, ↓reduceIte, fmN, fm0, take_N, toN1, slN_nil, encN, slN, cfg0, cfgS, cfgP, get_flat_part lenN, get_flat_drop lenN, len_flat lenN, V.rn, rns, qn, setPs, rnOs, Ob.rn, List.set_cons_zero, List.size_toArray, encX, rn_clX, List.flatMap_append, Tryd.ntmps19]
          refine callO.part0 [0] g (by decide) rfl rfl ⟨by rfl, by simp, trivial⟩ ?_
          simp (maxSteps := 2000000) -implicitDefEqProofs +contextual (disch := first | assumption | omega | decide +kernel) only [push_cast, ↓capI, br2_true, br2_false, frk_tt, frk_tf, frk_f, frkD_tt, frkD_tf, frkD_f, pk2_true, pk2_false, imp_true, seval, Nat.reduceLeDiff, Nat.reduceEqDiff, reduceCtorEq, ↓reduceIte, fmN, fm0, take_N, toN1, slN_nil, encN, slN, cfg0, cfgS, cfgP, get_flat_part lenN, get_flat_drop lenN, len_flat lenN, V.rn, rns, qn, setPs, rnOs, Ob.rn, List.set_cons_zero, List.size_toArray, encX, rn_clX, List.flatMap_append, h24]
          refine callI.of (mtX p) (callO.pcj g2 ?_)
          simp (maxSteps := 2000000) -implicitDefEqProofs +contextual (disch := first | assumption | omega | decide +kernel) only [push_cast, ↓capI, br2_true, br2_false, frk_tt, frk_tf, frk_f, frkD_tt, frkD_tf, frkD_f, pk2_true, pk2_false, imp_true, seval, Nat.reduceLeDiff, Nat.reduceEqDiff, reduceCtorEq, ↓reduceIte, fmN, fm0, take_N, toN1, slN_nil, encN, slN, cfg0, cfgS, cfgP, get_flat_part lenN, get_flat_drop lenN, len_flat lenN, V.rn, rns, qn, setPs, rnOs, Ob.rn, List.set_cons_zero, List.size_toArray, encX, rn_clX, List.flatMap_append, h24, V.sh, shOs, Ob.sh, sh_Ns]
          refine callO.pc i1 ?_
          simp (maxSteps := 2000000) -implicitDefEqProofs +contextual (disch := first | assumption | omega | decide +kernel) only [push_cast, ↓capI, br2_true, br2_false, frk_tt, frk_tf, frk_f, frkD_tt, frkD_tf, frkD_f, pk2_true, pk2_false, imp_true, seval, Nat.reduceLeDiff, Nat.reduceEqDiff, reduceCtorEq, ↓reduceIte, fmN, fm0, take_N, toN1, slN_nil, encN, slN, cfg0, cfgS, cfgP, get_flat_part lenN, get_flat_drop lenN, len_flat lenN, V.rn, rns, qn, setPs, rnOs, Ob.rn, List.set_cons_zero, List.size_toArray, encX, rn_clX, List.flatMap_append, ht]
          refine endK.ret ?_ (by first | rfl | simp [fmN, fm0, belN, bel_Ns, bel_slN, bel_clX, bel_encX, bel_MI, bel_slM]); simp [evRes, getT, retV, Tryd.f19,  parQ, encMI, slM_nil, h24, ht]
end Go.Proofs.YtginpkchjeooeaaDoor

/- Chapter 41: the reference's parser: atoms; Parse; Equal. -/
set_option maxRecDepth 100000
set_option maxHeartbeats 4000000
set_option linter.all false
namespace Go.Proofs.YtginpkchjeooeaaDoor
open Go.Vm

theorem digs_get : ∀ {s : List UInt8} {i : Nat}, i < (digs s).length → ∃ h : i < s.length, isDig s[i] = true
  | [], i, h => by cases h
  | c :: s, i, h => by
    rw [digs, List.takeWhile_cons] at h
    cases hc : isDig c
    · rw [hc, if_neg (by simp)] at h; cases h
    · rw [hc, if_pos rfl, List.length_cons] at h
      cases i with
      | zero => exact ⟨Nat.succ_pos _, hc⟩
      | succ i =>
        obtain ⟨h1, h2⟩ := digs_get (s := s) (i := i) (Nat.lt_of_succ_lt_succ h)
        exact ⟨Nat.succ_lt_succ h1, h2⟩
theorem digs_end : ∀ {s : List UInt8} (h : (digs s).length < s.length), isDig s[(digs s).length] = false
  | [], h => by cases h
  | c :: s, h => by
    cases hc : isDig c
    · have e : digs (c :: s) = [] := by rw [digs, List.takeWhile_cons, if_neg (by rw [hc]; simp)]
      simp only [e, List.length_nil, List.getElem_cons_zero]
      exact hc
    · have e : digs (c :: s) = c :: digs s := by rw [digs, List.takeWhile_cons, if_pos hc]; rfl
      rw [e, List.length_cons, List.length_cons] at h
      have ih := digs_end (s := s) (Nat.lt_of_succ_lt_succ h)
      simp only [e, List.length_cons, List.getElem_cons_succ]
      exact ih
theorem pc52n (s : List UInt8) (c : UInt8) (k : Int) (hk : (c.toNat : Int) = k) (b : Bool) (h : begins s [c] = b) : PC Tryd.prog 52 [.str s, .int .u8 k] (.bool b) := by
  have := pc52 s c
  rw [hk, h] at this
  exact this
/-- the text does not begin with an opening and a closing parenthesis -/
theorem no2 {s : List UInt8} (h : begins s [40, 41] = false) : (2 ≤ s.length ∧ ¬ s.take 2 = [40, 41]) ∨ ¬ 2 ≤ s.length := by
  by_cases h2 : 2 ≤ s.length
  · refine .inl ⟨h2, fun e => ?_⟩
    simp [begins, h2, e] at h
  · exact .inr h2
theorem yes2 {s : List UInt8} (h : begins s [40, 41] = true) : 2 ≤ s.length ∧ s.take 2 = [40, 41] := by
  simpa [begins] using h
theorem pcR64n (s : List UInt8) (hs : s.length ≤ 100000) (f1 : begins s [40, 41] = false) (f2 : begins s [46] = false) (f3 : begins s [40] = false) : AnsR 64 s (pNumb s) := by
  have hl := dropD_len s
  have hlen : s.length - (dropD s).length = (digs s).length := by omega
  have ht := (take_digs s).1
  have hd := (take_digs s).2
  rw [hlen] at ht hd
  have h69 := pc69 (digs s) (by omega) (digs_all s)
  have hg := fun i => @digs_get s i
  have he := @digs_end s
  rw [encIB] at h69
  have g2 := pc52n s 46 46 rfl _ f2
  have g3 := pc52n s 40 40 rfl _ f3
  have eS : (pNumb s).isSome = (parseI (digs s)).2 := by
    rw [pNumb]
    cases (parseI (digs s)).2 <;> rfl
  refine ⟨[⟨3, (parseI (digs s)).1⟩], dropD s, ?_, by rw [List.length_singleton]; omega, by omega, fun p t e => ?_⟩
  case refine_2 =>
    rw [pNumb] at e
    split at e
    · cases e; exact ⟨rfl, rfl⟩
    · cases e
  rw [eS]
  generalize parseI (digs s) = r at h69 ⊢
  obtain ⟨v, ok⟩ := r
  simp only at h69 ⊢
  have hkl : (digs s).length ≤ s.length := by omega
  generalize hdd : dropD s = q at hd hl ⊢
  generalize digs s = d at *
  generalize hk : d.length = k at *
  have hql : min s.length (s.length - k) = s.length - k := by omega
  have hqt : q.take (s.length - k) = q := List.take_of_length_le (by omega)
  rcases no2 f1 with ⟨n1, n2⟩ | n1
  all_goals
    refine PC.walk tok mixed cfg0 Tryd.func64 rfl Tryd.call64 (by simp [bel_PR, bel_slM, bel_slN, belN, bel_Ns, fmN, fm0, belAll_append, bel_MI]) (by first | rfl | simp [bel_PR, bel_slM, bel_slN, belN, bel_Ns, fmN, fm0, belAll_append, bel_MI]) ?_; simp (maxSteps := 2000000) -implicitDefEqProofs +contextual (disch := first | assumption | omega | decide +kernel) only [push_cast, ↓capI, br2_true, br2_false, frk_tt, frk_tf, frk_f, frkD_tt, frkD_tf, frkD_f, pk2_true, pk2_false, imp_true, seval, Nat.reduceLeDiff, Nat.reduceEqDiff, reduceCtorEq, ↓reduceIte, fmN, fm0, take_N, toN1, slN_nil, encN, slN, cfg0, take_rest, ibeq_dec, st_M, os_M, encPR, slM_sl, ones_N, cfgJ, len_flat lenN, Tryd.ntmps64]
    (try simp (maxSteps := 2000000) -implicitDefEqProofs +contextual (disch := first | assumption | omega | decide +kernel) only [push_cast, ↓capI, br2_true, br2_false, frk_tt, frk_tf, frk_f, frkD_tt, frkD_tf, frkD_f, pk2_true, pk2_false, imp_true, seval, Nat.reduceLeDiff, Nat.reduceEqDiff, reduceCtorEq, ↓reduceIte, fmN, fm0, take_N, toN1, slN_nil, encN, slN, cfg0, take_rest, ibeq_dec, st_M, os_M, encPR, slM_sl, ones_N, cfgJ, len_flat lenN, n1, n2])
    (try simp (maxSteps := 2000000) -implicitDefEqProofs +contextual (disch := first | assumption | omega | decide +kernel) only [push_cast, ↓capI, br2_true, br2_false, frk_tt, frk_tf, frk_f, frkD_tt, frkD_tf, frkD_f, pk2_true, pk2_false, imp_true, seval, Nat.reduceLeDiff, Nat.reduceEqDiff, reduceCtorEq, ↓reduceIte, fmN, fm0, take_N, toN1, slN_nil, encN, slN, cfg0, take_rest, ibeq_dec, st_M, os_M, encPR, slM_sl, ones_N, cfgJ, len_flat lenN, n1])
    refine callO.pc g2 ?_
    simp (maxSteps := 2000000) -implicitDefEqProofs +contextual (disch := first | assumption | omega | decide +kernel) only [push_cast, ↓capI, br2_true, br2_false, frk_tt, frk_tf, frk_f, frkD_tt, frkD_tf, frkD_f, pk2_true, pk2_false, imp_true, seval, Nat.reduceLeDiff, Nat.reduceEqDiff, reduceCtorEq, ↓reduceIte, fmN, fm0, take_N, toN1, slN_nil, encN, slN, cfg0, take_rest, ibeq_dec, st_M, os_M, encPR, slM_sl, ones_N, cfgJ, len_flat lenN]
    refine callO.pc g3 ?_
    simp (maxSteps := 2000000) -implicitDefEqProofs +contextual (disch := first | assumption | omega | decide +kernel) only [push_cast, ↓capI, br2_true, br2_false, frk_tt, frk_tf, frk_f, frkD_tt, frkD_tf, frkD_f, pk2_true, pk2_false, imp_true, seval, Nat.reduceLeDiff, Nat.reduceEqDiff, reduceCtorEq, ↓reduceIte, fmN, fm0, take_N, toN1, slN_nil, encN, slN, cfg0, take_rest, ibeq_dec, st_M, os_M, encPR, slM_sl, ones_N, cfgJ, len_flat lenN]
    refine T.lp tok mixed cfg0 (fun (i : Nat) => kp 1 (dd 1 (kp 1 (dd 1 (sv (.int .i64 i) (dd 75 (nl))))))) (fun H0 (i : Nat) => [.cells 0 [.sl true [] 0, .str [], .bool false]]) (fun (i : Nat) => i ≤ k) (fun (i : Nat) => k - i) (0) ?_ ?_ ?_
    · exact Nat.zero_le _
    · exact Gn.canon (J := []) (by first | rfl | (simp [List.append_nil]; done) | (simp [List.append_nil]; rfl)) (by simp [wk, slN, putT, kp, dd, sv, nl]) (by simp [List.length_append]) (by simp [bel_PR, bel_slM, bel_slN, belN, bel_Ns, fmN, fm0, belAll_append, bel_MI, kp, dd, sv, nl]) (by simp [bel_PR, bel_slM, bel_slN, belN, bel_Ns, fmN, fm0, belAll_append, bel_MI])
    intro i hi
    by_cases hlt : i < k
    · obtain ⟨h1, h2⟩ := hg i hlt
      have hgd : s.getD i 0 = s[i] := by rw [List.getD_eq_getElem?_getD, List.getElem?_eq_getElem h1]; rfl
      obtain ⟨h48, h57⟩ := dig_range h2
      simp (maxSteps := 2000000) -implicitDefEqProofs +contextual (disch := first | assumption | omega | decide +kernel) only [push_cast, ↓capI, br2_true, br2_false, frk_tt, frk_tf, frk_f, frkD_tt, frkD_tf, frkD_f, pk2_true, pk2_false, imp_true, seval, Nat.reduceLeDiff, Nat.reduceEqDiff, reduceCtorEq, ↓reduceIte, fmN, fm0, take_N, toN1, slN_nil, encN, slN, cfg0, take_rest, ibeq_dec, st_M, os_M, encPR, slM_sl, ones_N, cfgJ, len_flat lenN, h1, hgd, h48, h57]
      refine ⟨i + 1, by omega, by (try simp only); omega, ?_⟩; exact Gn.canon (by first | rfl | (simp [List.append_nil]; rfl)) (by simp [wk, slN]) (by simp [List.length_append]) (by simp [bel_PR, bel_slM, bel_slN, belN, bel_Ns, fmN, fm0, belAll_append, bel_MI]) (by simp [bel_PR, bel_slM, bel_slN, belN, bel_Ns, fmN, fm0, belAll_append, bel_MI])
    have hik : i = k := by omega
    subst hik
    by_cases h1 : i < s.length
    · have h2 := he h1
      have hgd : s.getD i 0 = s[i] := by rw [List.getD_eq_getElem?_getD, List.getElem?_eq_getElem h1]; rfl
      have hb := s[i].toNat_lt
      simp only [isDig, Bool.and_eq_false_iff, decide_eq_false_iff_not] at h2
      by_cases h48 : 48 ≤ s[i].toNat
      · have h57 : ¬ s[i].toNat ≤ 57 := by omega
        simp (maxSteps := 2000000) -implicitDefEqProofs +contextual (disch := first | assumption | omega | decide +kernel) only [push_cast, ↓capI, br2_true, br2_false, frk_tt, frk_tf, frk_f, frkD_tt, frkD_tf, frkD_f, pk2_true, pk2_false, imp_true, seval, Nat.reduceLeDiff, Nat.reduceEqDiff, reduceCtorEq, ↓reduceIte, fmN, fm0, take_N, toN1, slN_nil, encN, slN, cfg0, take_rest, ibeq_dec, st_M, os_M, encPR, slM_sl, ones_N, cfgJ, len_flat lenN, h1, hgd, h48, h57]
        refine callO.pc (by rw [Nat.sub_zero, ht]; exact h69) ?_
        simp (maxSteps := 2000000) -implicitDefEqProofs +contextual (disch := first | assumption | omega | decide +kernel) only [push_cast, ↓capI, br2_true, br2_false, frk_tt, frk_tf, frk_f, frkD_tt, frkD_tf, frkD_f, pk2_true, pk2_false, imp_true, seval, Nat.reduceLeDiff, Nat.reduceEqDiff, reduceCtorEq, ↓reduceIte, fmN, fm0, take_N, toN1, slN_nil, encN, slN, cfg0, take_rest, ibeq_dec, st_M, os_M, encPR, slM_sl, ones_N, cfgJ, len_flat lenN, hd, hqt]
        refine endK.ret ?_ (by first | rfl | simp [bel_PR, bel_slM, bel_slN, belN, bel_Ns, fmN, fm0, belAll_append, bel_MI]); simp [bel_PR, bel_slM, bel_slN, belN, bel_Ns, fmN, fm0, belAll_append, bel_MI, fzs_ok, imp, lenOK_iff, List.take_of_length_le, evRes, getT, getO, setO, fzs, fz, fzH, Nat.beq, retV, Res.then, ldT, ldR, mkV, getV, fmN, fm0, take_N, toN1, slN_nil, encN, slN, cfg0, take_rest, ibeq_dec, st_M, os_M, encPR, slM_sl, ones_N, cfgJ, len_flat lenN, Tryd.f64,  encPR, tt_68, slM_sl, fmN, fm0]
      · simp (maxSteps := 2000000) -implicitDefEqProofs +contextual (disch := first | assumption | omega | decide +kernel) only [push_cast, ↓capI, br2_true, br2_false, frk_tt, frk_tf, frk_f, frkD_tt, frkD_tf, frkD_f, pk2_true, pk2_false, imp_true, seval, Nat.reduceLeDiff, Nat.reduceEqDiff, reduceCtorEq, ↓reduceIte, fmN, fm0, take_N, toN1, slN_nil, encN, slN, cfg0, take_rest, ibeq_dec, st_M, os_M, encPR, slM_sl, ones_N, cfgJ, len_flat lenN, h1, hgd, h48]
        refine callO.pc (by rw [Nat.sub_zero, ht]; exact h69) ?_
        simp (maxSteps := 2000000) -implicitDefEqProofs +contextual (disch := first | assumption | omega | decide +kernel) only [push_cast, ↓capI, br2_true, br2_false, frk_tt, frk_tf, frk_f, frkD_tt, frkD_tf, frkD_f, pk2_true, pk2_false, imp_true, seval, Nat.reduceLeDiff, Nat.reduceEqDiff, reduceCtorEq, ↓reduceIte, fmN, fm0, take_N, toN1, slN_nil, encN, slN, cfg0, take_rest, ibeq_dec, st_M, os_M, encPR, slM_sl, ones_N, cfgJ, len_flat lenN, hd, hqt]
        refine endK.ret ?_ (by first | rfl | simp [bel_PR, bel_slM, bel_slN, belN, bel_Ns, fmN, fm0, belAll_append, bel_MI]); simp [bel_PR, bel_slM, bel_slN, belN, bel_Ns, fmN, fm0, belAll_append, bel_MI, fzs_ok, imp, lenOK_iff, List.take_of_length_le, evRes, getT, getO, setO, fzs, fz, fzH, Nat.beq, retV, Res.then, ldT, ldR, mkV, getV, fmN, fm0, take_N, toN1, slN_nil, encN, slN, cfg0, take_rest, ibeq_dec, st_M, os_M, encPR, slM_sl, ones_N, cfgJ, len_flat lenN, Tryd.f64,  encPR, tt_68, slM_sl, fmN, fm0]
    · simp (maxSteps := 2000000) -implicitDefEqProofs +contextual (disch := first | assumption | omega | decide +kernel) only [push_cast, ↓capI, br2_true, br2_false, frk_tt, frk_tf, frk_f, frkD_tt, frkD_tf, frkD_f, pk2_true, pk2_false, imp_true, seval, Nat.reduceLeDiff, Nat.reduceEqDiff, reduceCtorEq, ↓reduceIte, fmN, fm0, take_N, toN1, slN_nil, encN, slN, cfg0, take_rest, ibeq_dec, st_M, os_M, encPR, slM_sl, ones_N, cfgJ, len_flat lenN, h1]
      refine callO.pc (by rw [Nat.sub_zero, ht]; exact h69) ?_
      simp (maxSteps := 2000000) -implicitDefEqProofs +contextual (disch := first | assumption | omega | decide +kernel) only [push_cast, ↓capI, br2_true, br2_false, frk_tt, frk_tf, frk_f, frkD_tt, frkD_tf, frkD_f, pk2_true, pk2_false, imp_true, seval, Nat.reduceLeDiff, Nat.reduceEqDiff, reduceCtorEq, ↓reduceIte, fmN, fm0, take_N, toN1, slN_nil, encN, slN, cfg0, take_rest, ibeq_dec, st_M, os_M, encPR, slM_sl, ones_N, cfgJ, len_flat lenN, hd, hqt]
      refine endK.ret ?_ (by first | rfl | simp [bel_PR, bel_slM, bel_slN, belN, bel_Ns, fmN, fm0, belAll_append, bel_MI]); simp [bel_PR, bel_slM, bel_slN, belN, bel_Ns, fmN, fm0, belAll_append, bel_MI, fzs_ok, imp, lenOK_iff, List.take_of_length_le, evRes, getT, getO, setO, fzs, fz, fzH, Nat.beq, retV, Res.then, ldT, ldR, mkV, getV, fmN, fm0, take_N, toN1, slN_nil, encN, slN, cfg0, take_rest, ibeq_dec, st_M, os_M, encPR, slM_sl, ones_N, cfgJ, len_flat lenN, Tryd.f64,  encPR, tt_68, slM_sl, fmN, fm0]
theorem pcR64 : ∀ k, k ≤ 100001 → ∀ s : List UInt8, s.length < k → AnsR 64 s (pAtm k s)
  | 0, _, s, h => absurd h (Nat.not_lt_zero _)
  | k + 1, hk, s, hs => by
    have ih := pcR64 k (by omega)
    rw [pAtm]
    by_cases h1 : begins s [40, 41] = true
    · obtain ⟨n1, n2⟩ := yes2 h1
      have hd2 : (s.drop 2).take (s.length - 2) = s.drop 2 := List.take_of_length_le (by rw [List.length_drop]; exact Nat.le_refl _)
      rw [if_pos h1]
      refine ⟨[op0 1], s.drop 2, ?_, by rw [List.length_singleton, List.length_drop]; omega, by rw [List.length_drop]; omega, fun p t e => by cases e; exact ⟨rfl, rfl⟩⟩
      refine PC.walk tok mixed cfg0 Tryd.func64 rfl Tryd.call64 (by simp [bel_PR, bel_slM, bel_slN, belN, bel_Ns, fmN, fm0, belAll_append, bel_MI]) (by first | rfl | simp [bel_PR, bel_slM, bel_slN, belN, bel_Ns, fmN, fm0, belAll_append, bel_MI]) ?_; simp (maxSteps := 2000000) -implicitDefEqProofs +contextual (disch := first | assumption | omega | decide +kernel) only [push_cast, ↓capI, br2_true, br2_false, frk_tt, frk_tf, frk_f, frkD_tt, frkD_tf, frkD_f, pk2_true, pk2_false, imp_true, seval, Nat.reduceLeDiff, Nat.reduceEqDiff, reduceCtorEq, ↓reduceIte, fmN, fm0, take_N, toN1, slN_nil, encN, slN, cfg0, take_rest, ibeq_dec, st_M, os_M, encPR, slM_sl, ones_N, cfgJ, len_flat lenN, Tryd.ntmps64]
      simp (maxSteps := 2000000) -implicitDefEqProofs +contextual (disch := first | assumption | omega | decide +kernel) only [push_cast, ↓capI, br2_true, br2_false, frk_tt, frk_tf, frk_f, frkD_tt, frkD_tf, frkD_f, pk2_true, pk2_false, imp_true, seval, Nat.reduceLeDiff, Nat.reduceEqDiff, reduceCtorEq, ↓reduceIte, fmN, fm0, take_N, toN1, slN_nil, encN, slN, cfg0, take_rest, ibeq_dec, st_M, os_M, encPR, slM_sl, ones_N, cfgJ, len_flat lenN, n1, n2, hd2]
      refine endK.ret ?_ (by first | rfl | simp [bel_PR, bel_slM, bel_slN, belN, bel_Ns, fmN, fm0, belAll_append, bel_MI]); simp [bel_PR, bel_slM, bel_slN, belN, bel_Ns, fmN, fm0, belAll_append, bel_MI, fzs_ok, imp, lenOK_iff, List.take_of_length_le, evRes, getT, getO, setO, fzs, fz, fzH, Nat.beq, retV, Res.then, ldT, ldR, mkV, getV, fmN, fm0, take_N, toN1, slN_nil, encN, slN, cfg0, take_rest, ibeq_dec, st_M, os_M, encPR, slM_sl, ones_N, cfgJ, len_flat lenN, Tryd.f64,  encPR, tt_68, slM_sl, fmN, fm0, op0, hd2]
    have f1 := Bool.eq_false_iff.2 h1
    rw [if_neg h1]
    by_cases h2 : begins s [46] = true
    · have hl := begins_le h2
      simp only [List.length_cons, List.length_nil] at hl
      have g2 := pc52n s 46 46 rfl _ h2
      have hd1 : (s.drop 1).take (s.length - 1) = s.drop 1 := List.take_of_length_le (by rw [List.length_drop]; exact Nat.le_refl _)
      rw [if_pos h2]
      refine ⟨[op0 2], s.drop 1, ?_, by rw [List.length_singleton, List.length_drop]; omega, by rw [List.length_drop]; omega, fun p t e => by cases e; exact ⟨rfl, rfl⟩⟩
      rcases no2 f1 with ⟨n1, n2⟩ | n1
      all_goals
        refine PC.walk tok mixed cfg0 Tryd.func64 rfl Tryd.call64 (by simp [bel_PR, bel_slM, bel_slN, belN, bel_Ns, fmN, fm0, belAll_append, bel_MI]) (by first | rfl | simp [bel_PR, bel_slM, bel_slN, belN, bel_Ns, fmN, fm0, belAll_append, bel_MI]) ?_; simp (maxSteps := 2000000) -implicitDefEqProofs +contextual (disch := first | assumption | omega | decide +kernel) only [push_cast, ↓capI, br2_true, br2_false, frk_tt, frk_tf, frk_f, frkD_tt, frkD_tf, frkD_f, pk2_true, pk2_false, imp_true, seval, Nat.reduceLeDiff, Nat.reduceEqDiff, reduceCtorEq, ↓reduceIte, fmN, fm0, take_N, toN1, slN_nil, encN, slN, cfg0, take_rest, ibeq_dec, st_M, os_M, encPR, slM_sl, ones_N, cfgJ, len_flat lenN, Tryd.ntmps64]
        (try simp (maxSteps := 2000000) -implicitDefEqProofs +contextual (disch := first | assumption | omega | decide +kernel) only [push_cast, ↓capI, br2_true, br2_false, frk_tt, frk_tf, frk_f, frkD_tt, frkD_tf, frkD_f, pk2_true, pk2_false, imp_true, seval, Nat.reduceLeDiff, Nat.reduceEqDiff, reduceCtorEq, ↓reduceIte, fmN, fm0, take_N, toN1, slN_nil, encN, slN, cfg0, take_rest, ibeq_dec, st_M, os_M, encPR, slM_sl, ones_N, cfgJ, len_flat lenN, n1, n2])
        (try simp (maxSteps := 2000000) -implicitDefEqProofs +contextual (disch := first | assumption | omega | decide +kernel) only [push_cast, ↓capI, br2_true, br2_false, frk_tt, frk_tf, frk_f, frkD_tt, frkD_tf, frkD_f, pk2_true, pk2_false, imp_true, seval, Nat.reduceLeDiff, Nat.reduceEqDiff, reduceCtorEq, ↓reduceIte, fmN, fm0, take_N, toN1, slN_nil, encN, slN, cfg0, take_rest, ibeq_dec, st_M, os_M, encPR, slM_sl, ones_N, cfgJ, len_flat lenN, n1])
        refine callO.pc g2 ?_
        simp (maxSteps := 2000000) -implicitDefEqProofs +contextual (disch := first | assumption | omega | decide +kernel) only [push_cast, ↓capI, br2_true, br2_false, frk_tt, frk_tf, frk_f, frkD_tt, frkD_tf, frkD_f, pk2_true, pk2_false, imp_true, seval, Nat.reduceLeDiff, Nat.reduceEqDiff, reduceCtorEq, ↓reduceIte, fmN, fm0, take_N, toN1, slN_nil, encN, slN, cfg0, take_rest, ibeq_dec, st_M, os_M, encPR, slM_sl, ones_N, cfgJ, len_flat lenN, hd1]
        refine endK.ret ?_ (by first | rfl | simp [bel_PR, bel_slM, bel_slN, belN, bel_Ns, fmN, fm0, belAll_append, bel_MI]); simp [bel_PR, bel_slM, bel_slN, belN, bel_Ns, fmN, fm0, belAll_append, bel_MI, fzs_ok, imp, lenOK_iff, List.take_of_length_le, evRes, getT, getO, setO, fzs, fz, fzH, Nat.beq, retV, Res.then, ldT, ldR, mkV, getV, fmN, fm0, take_N, toN1, slN_nil, encN, slN, cfg0, take_rest, ibeq_dec, st_M, os_M, encPR, slM_sl, ones_N, cfgJ, len_flat lenN, Tryd.f64,  encPR, tt_68, slM_sl, fmN, fm0, op0, hd1]
    have f2 := Bool.eq_false_iff.2 h2
    have g2 := pc52n s 46 46 rfl _ f2
    rw [if_neg h2]
    by_cases h3 : begins s [40] = true
    · have hl := begins_le h3
      simp only [List.length_cons, List.length_nil] at hl
      have hd : (s.drop 1).length = s.length - 1 := List.length_drop
      have hd1 : (s.drop 1).take (s.length - 1) = s.drop 1 := List.take_of_length_le (by omega)
      have g3 := pc52n s 40 40 rfl _ h3
      have eA := pAtm_eats k
      have eS := pStr_eats eA
      have eC : Eats (lstP (pStr (pAtm k)) 4 44) := lstP_eats eS (.inl rfl)
      obtain ⟨l, r, g, e0, e1, e2⟩ := pcL37 (n := k) (by omega) eC (fun s hs => pcL51 (n := k) (by omega) eS (fun s hs => pcR60 (n := k) (by omega) eA ih s hs) s hs) (s.drop 1) (by omega)
      rw [if_pos h3]
      cases hn : lstP (lstP (pStr (pAtm k)) 4 44) 5 124 (s.drop 1) with
      | none =>
        rw [hn] at g
        refine ⟨[], [], ?_, Nat.zero_le _, Nat.zero_le _, fun p t e => by cases e⟩
        rcases no2 f1 with ⟨n1, n2⟩ | n1
        all_goals
          refine PC.walk tok mixed cfg0 Tryd.func64 rfl Tryd.call64 (by simp [bel_PR, bel_slM, bel_slN, belN, bel_Ns, fmN, fm0, belAll_append, bel_MI]) (by first | rfl | simp [bel_PR, bel_slM, bel_slN, belN, bel_Ns, fmN, fm0, belAll_append, bel_MI]) ?_; simp (maxSteps := 2000000) -implicitDefEqProofs +contextual (disch := first | assumption | omega | decide +kernel) only [push_cast, ↓capI, br2_true, br2_false, frk_tt, frk_tf, frk_f, frkD_tt, frkD_tf, frkD_f, pk2_true, pk2_false, imp_true, seval, Nat.reduceLeDiff, Nat.reduceEqDiff, reduceCtorEq, ↓reduceIte, fmN, fm0, take_N, toN1, slN_nil, encN, slN, cfg0, take_rest, ibeq_dec, st_M, os_M, encPR, slM_sl, ones_N, cfgJ, len_flat lenN, Tryd.ntmps64]
          (try simp (maxSteps := 2000000) -implicitDefEqProofs +contextual (disch := first | assumption | omega | decide +kernel) only [push_cast, ↓capI, br2_true, br2_false, frk_tt, frk_tf, frk_f, frkD_tt, frkD_tf, frkD_f, pk2_true, pk2_false, imp_true, seval, Nat.reduceLeDiff, Nat.reduceEqDiff, reduceCtorEq, ↓reduceIte, fmN, fm0, take_N, toN1, slN_nil, encN, slN, cfg0, take_rest, ibeq_dec, st_M, os_M, encPR, slM_sl, ones_N, cfgJ, len_flat lenN, n1, n2])
          (try simp (maxSteps := 2000000) -implicitDefEqProofs +contextual (disch := first | assumption | omega | decide +kernel) only [push_cast, ↓capI, br2_true, br2_false, frk_tt, frk_tf, frk_f, frkD_tt, frkD_tf, frkD_f, pk2_true, pk2_false, imp_true, seval, Nat.reduceLeDiff, Nat.reduceEqDiff, reduceCtorEq, ↓reduceIte, fmN, fm0, take_N, toN1, slN_nil, encN, slN, cfg0, take_rest, ibeq_dec, st_M, os_M, encPR, slM_sl, ones_N, cfgJ, len_flat lenN, n1])
          refine callO.pc g2 ?_
          simp (maxSteps := 2000000) -implicitDefEqProofs +contextual (disch := first | assumption | omega | decide +kernel) only [push_cast, ↓capI, br2_true, br2_false, frk_tt, frk_tf, frk_f, frkD_tt, frkD_tf, frkD_f, pk2_true, pk2_false, imp_true, seval, Nat.reduceLeDiff, Nat.reduceEqDiff, reduceCtorEq, ↓reduceIte, fmN, fm0, take_N, toN1, slN_nil, encN, slN, cfg0, take_rest, ibeq_dec, st_M, os_M, encPR, slM_sl, ones_N, cfgJ, len_flat lenN]
          refine callO.pc g3 ?_
          simp (maxSteps := 2000000) -implicitDefEqProofs +contextual (disch := first | assumption | omega | decide +kernel) only [push_cast, ↓capI, br2_true, br2_false, frk_tt, frk_tf, frk_f, frkD_tt, frkD_tf, frkD_f, pk2_true, pk2_false, imp_true, seval, Nat.reduceLeDiff, Nat.reduceEqDiff, reduceCtorEq, ↓reduceIte, fmN, fm0, take_N, toN1, slN_nil, encN, slN, cfg0, take_rest, ibeq_dec, st_M, os_M, encPR, slM_sl, ones_N, cfgJ, len_flat lenN, hd1]
          refine callO.pc g ?_
          simp (maxSteps := 2000000) -implicitDefEqProofs +contextual (disch := first | assumption | omega | decide +kernel) only [push_cast, ↓capI, br2_true, br2_false, frk_tt, frk_tf, frk_f, frkD_tt, frkD_tf, frkD_f, pk2_true, pk2_false, imp_true, seval, Nat.reduceLeDiff, Nat.reduceEqDiff, reduceCtorEq, ↓reduceIte, fmN, fm0, take_N, toN1, slN_nil, encN, slN, cfg0, take_rest, ibeq_dec, st_M, os_M, encPR, slM_sl, ones_N, cfgJ, len_flat lenN]
          refine endK.ret ?_ (by first | rfl | simp [bel_PR, bel_slM, bel_slN, belN, bel_Ns, fmN, fm0, belAll_append, bel_MI]); simp [bel_PR, bel_slM, bel_slN, belN, bel_Ns, fmN, fm0, belAll_append, bel_MI, fzs_ok, imp, lenOK_iff, List.take_of_length_le, evRes, getT, getO, setO, fzs, fz, fzH, Nat.beq, retV, Res.then, ldT, ldR, mkV, getV, fmN, fm0, take_N, toN1, slN_nil, encN, slN, cfg0, take_rest, ibeq_dec, st_M, os_M, encPR, slM_sl, ones_N, cfgJ, len_flat lenN, Tryd.f64,  encPR, tt_68, slM_sl, fmN, fm0]
      | some q =>
        obtain ⟨p, u⟩ := q
        rw [hn] at g
        obtain ⟨q1, q2⟩ := e2 p u hn
        subst q1 q2
        simp only
        cases hb : begins r [41]
        · have g5 := pc52n r 41 41 rfl _ hb
          rw [if_neg (by simp)]
          refine ⟨[], [], ?_, Nat.zero_le _, Nat.zero_le _, fun p t e => by cases e⟩
          rcases no2 f1 with ⟨n1, n2⟩ | n1
          all_goals
            refine PC.walk tok mixed cfg0 Tryd.func64 rfl Tryd.call64 (by simp [bel_PR, bel_slM, bel_slN, belN, bel_Ns, fmN, fm0, belAll_append, bel_MI]) (by first | rfl | simp [bel_PR, bel_slM, bel_slN, belN, bel_Ns, fmN, fm0, belAll_append, bel_MI]) ?_; simp (maxSteps := 2000000) -implicitDefEqProofs +contextual (disch := first | assumption | omega | decide +kernel) only [push_cast, ↓capI, br2_true, br2_false, frk_tt, frk_tf, frk_f, frkD_tt, frkD_tf, frkD_f, pk2_true, pk2_false, imp_true, seval, Nat.reduceLeDiff, Nat.reduceEqDiff, reduceCtorEq, ↓reduceIte, fmN, fm0, take_N, toN1, slN_nil, encN, slN, cfg0, take_rest, ibeq_dec, st_M, os_M, encPR, slM_sl, ones_N, cfgJ, len_flat lenN, Tryd.ntmps64]
            (try simp (maxSteps := 2000000) -implicitDefEqProofs +contextual (disch := first | assumption | omega | decide +kernel) only [push_cast, ↓capI, br2_true, br2_false, frk_tt, frk_tf, frk_f, frkD_tt, frkD_tf, frkD_f, pk2_true, pk2_false, imp_true, seval, Nat.reduceLeDiff, Nat.reduceEqDiff, reduceCtorEq, ↓reduceIte, fmN, fm0, take_N, toN1, slN_nil, encN, slN, cfg0, take_rest, ibeq_dec, st_M, os_M, encPR, slM_sl, ones_N, cfgJ, len_flat lenN, n1, n2])
            (try simp (maxSteps := 2000000) -implicitDefEqProofs +contextual (disch := first | assumption | omega | decide +kernel) only [push_cast, ↓capI, br2_true, br2_false, frk_tt, frk_tf, frk_f, frkD_tt, frkD_tf, frkD_f, pk2_true, pk2_false, imp_true, seval, Nat.reduceLeDiff, Nat.reduceEqDiff, reduceCtorEq, ↓reduceIte, fmN, fm0, take_N, toN1, slN_nil, encN, slN, cfg0, take_rest, ibeq_dec, st_M, os_M, encPR, slM_sl, ones_N, cfgJ, len_flat lenN, n1])
            refine callO.pc g2 ?_
            simp (maxSteps := 2000000) -implicitDefEqProofs +contextual (disch := first | assumption | omega | decide +kernel) only [push_cast, ↓capI, br2_true, br2_false, frk_tt, frk_tf, frk_f, frkD_tt, frkD_tf, frkD_f, pk2_true, pk2_false, imp_true, seval, Nat.reduceLeDiff, Nat.reduceEqDiff, reduceCtorEq, ↓reduceIte, fmN, fm0, take_N, toN1, slN_nil, encN, slN, cfg0, take_rest, ibeq_dec, st_M, os_M, encPR, slM_sl, ones_N, cfgJ, len_flat lenN]
            refine callO.pc g3 ?_
            simp (maxSteps := 2000000) -implicitDefEqProofs +contextual (disch := first | assumption | omega | decide +kernel) only [push_cast, ↓capI, br2_true, br2_false, frk_tt, frk_tf, frk_f, frkD_tt, frkD_tf, frkD_f, pk2_true, pk2_false, imp_true, seval, Nat.reduceLeDiff, Nat.reduceEqDiff, reduceCtorEq, ↓reduceIte, fmN, fm0, take_N, toN1, slN_nil, encN, slN, cfg0, take_rest, ibeq_dec, st_M, os_M, encPR, slM_sl, ones_N, cfgJ, len_flat lenN, hd1]
            refine callO.pc g ?_
            simp (maxSteps := 2000000) -implicitDefEqProofs +contextual (disch := first | assumption | omega | decide +kernel) only [push_cast, ↓capI, br2_true, br2_false, frk_tt, frk_tf, frk_f, frkD_tt, frkD_tf, frkD_f, pk2_true, pk2_false, imp_true, seval, Nat.reduceLeDiff, Nat.reduceEqDiff, reduceCtorEq, ↓reduceIte, fmN, fm0, take_N, toN1, slN_nil, encN, slN, cfg0, take_rest, ibeq_dec, st_M, os_M, encPR, slM_sl, ones_N, cfgJ, len_flat lenN]
            refine callO.pc g5 ?_
            simp (maxSteps := 2000000) -implicitDefEqProofs +contextual (disch := first | assumption | omega | decide +kernel) only [push_cast, ↓capI, br2_true, br2_false, frk_tt, frk_tf, frk_f, frkD_tt, frkD_tf, frkD_f, pk2_true, pk2_false, imp_true, seval, Nat.reduceLeDiff, Nat.reduceEqDiff, reduceCtorEq, ↓reduceIte, fmN, fm0, take_N, toN1, slN_nil, encN, slN, cfg0, take_rest, ibeq_dec, st_M, os_M, encPR, slM_sl, ones_N, cfgJ, len_flat lenN]
            refine endK.ret ?_ (by first | rfl | simp [bel_PR, bel_slM, bel_slN, belN, bel_Ns, fmN, fm0, belAll_append, bel_MI]); simp [bel_PR, bel_slM, bel_slN, belN, bel_Ns, fmN, fm0, belAll_append, bel_MI, fzs_ok, imp, lenOK_iff, List.take_of_length_le, evRes, getT, getO, setO, fzs, fz, fzH, Nat.beq, retV, Res.then, ldT, ldR, mkV, getV, fmN, fm0, take_N, toN1, slN_nil, encN, slN, cfg0, take_rest, ibeq_dec, st_M, os_M, encPR, slM_sl, ones_N, cfgJ, len_flat lenN, Tryd.f64,  encPR, tt_68, slM_sl, fmN, fm0]
        · have g5 := pc52n r 41 41 rfl _ hb
          have hbl := begins_le hb
          simp only [List.length_cons, List.length_nil] at hbl
          have hdr : (r.drop 1).take (r.length - 1) = r.drop 1 := List.take_of_length_le (by rw [List.length_drop]; exact Nat.le_refl _)
          rw [if_pos rfl]
          refine ⟨flat p, r.drop 1, ?_, by rw [List.length_drop]; omega, by rw [List.length_drop]; omega, fun p t e => by cases e; exact ⟨rfl, rfl⟩⟩
          obtain ⟨n1, n2⟩ := (no2 f1).resolve_right (by omega)
          refine PC.walk tok mixed cfg0 Tryd.func64 rfl Tryd.call64 (by simp [bel_PR, bel_slM, bel_slN, belN, bel_Ns, fmN, fm0, belAll_append, bel_MI]) (by first | rfl | simp [bel_PR, bel_slM, bel_slN, belN, bel_Ns, fmN, fm0, belAll_append, bel_MI]) ?_; simp (maxSteps := 2000000) -implicitDefEqProofs +contextual (disch := first | assumption | omega | decide +kernel) only [push_cast, ↓capI, br2_true, br2_false, frk_tt, frk_tf, frk_f, frkD_tt, frkD_tf, frkD_f, pk2_true, pk2_false, imp_true, seval, Nat.reduceLeDiff, Nat.reduceEqDiff, reduceCtorEq, ↓reduceIte, fmN, fm0, take_N, toN1, slN_nil, encN, slN, cfg0, take_rest, ibeq_dec, st_M, os_M, encPR, slM_sl, ones_N, cfgJ, len_flat lenN, Tryd.ntmps64]
          (try simp (maxSteps := 2000000) -implicitDefEqProofs +contextual (disch := first | assumption | omega | decide +kernel) only [push_cast, ↓capI, br2_true, br2_false, frk_tt, frk_tf, frk_f, frkD_tt, frkD_tf, frkD_f, pk2_true, pk2_false, imp_true, seval, Nat.reduceLeDiff, Nat.reduceEqDiff, reduceCtorEq, ↓reduceIte, fmN, fm0, take_N, toN1, slN_nil, encN, slN, cfg0, take_rest, ibeq_dec, st_M, os_M, encPR, slM_sl, ones_N, cfgJ, len_flat lenN, n1, n2])
          refine callO.pc g2 ?_
          simp (maxSteps := 2000000) -implicitDefEqProofs +contextual (disch := first | assumption | omega | decide +kernel) only [push_cast, ↓capI, br2_true, br2_false, frk_tt, frk_tf, frk_f, frkD_tt, frkD_tf, frkD_f, pk2_true, pk2_false, imp_true, seval, Nat.reduceLeDiff, Nat.reduceEqDiff, reduceCtorEq, ↓reduceIte, fmN, fm0, take_N, toN1, slN_nil, encN, slN, cfg0, take_rest, ibeq_dec, st_M, os_M, encPR, slM_sl, ones_N, cfgJ, len_flat lenN]
          refine callO.pc g3 ?_
          simp (maxSteps := 2000000) -implicitDefEqProofs +contextual (disch := first | assumption | omega | decide +kernel) only [push_cast, ↓capI, br2_true, br2_false, frk_tt, frk_tf, frk_f, frkD_tt, frkD_tf, frkD_f, pk2_true, pk2_false, imp_true, seval, Nat.reduceLeDiff, Nat.reduceEqDiff, reduceCtorEq, ↓reduceIte, fmN, fm0, take_N, toN1, slN_nil, encN, slN, cfg0, take_rest, ibeq_dec, st_M, os_M, encPR, slM_sl, ones_N, cfgJ, len_flat lenN, hd1]
          refine callO.pc g ?_
          simp (maxSteps := 2000000) -implicitDefEqProofs +contextual (disch := first | assumption | omega | decide +kernel) only [push_cast, ↓capI, br2_true, br2_false, frk_tt, frk_tf, frk_f, frkD_tt, frkD_tf, frkD_f, pk2_true, pk2_false, imp_true, seval, Nat.reduceLeDiff, Nat.reduceEqDiff, reduceCtorEq, ↓reduceIte, fmN, fm0, take_N, toN1, slN_nil, encN, slN, cfg0, take_rest, ibeq_dec, st_M, os_M, encPR, slM_sl, ones_N, cfgJ, len_flat lenN]
          refine callO.pc g5 ?_
          simp (maxSteps := 2000000) -implicitDefEqProofs +contextual (disch := first | assumption | omega | decide +kernel) only [push_cast, ↓capI, br2_true, br2_false, frk_tt, frk_tf, frk_f, frkD_tt, frkD_tf, frkD_f, pk2_true, pk2_false, imp_true, seval, Nat.reduceLeDiff, Nat.reduceEqDiff, reduceCtorEq, ↓reduceIte, fmN, fm0, take_N, toN1, slN_nil, encN, slN, cfg0, take_rest, ibeq_dec, st_M, os_M, encPR, slM_sl, ones_N, cfgJ, len_flat lenN, hdr]
          refine endK.ret ?_ (by first | rfl | simp [bel_PR, bel_slM, bel_slN, belN, bel_Ns, fmN, fm0, belAll_append, bel_MI]); simp [bel_PR, bel_slM, bel_slN, belN, bel_Ns, fmN, fm0, belAll_append, bel_MI, fzs_ok, imp, lenOK_iff, List.take_of_length_le, evRes, getT, getO, setO, fzs, fz, fzH, Nat.beq, retV, Res.then, ldT, ldR, mkV, getV, fmN, fm0, take_N, toN1, slN_nil, encN, slN, cfg0, take_rest, ibeq_dec, st_M, os_M, encPR, slM_sl, ones_N, cfgJ, len_flat lenN, Tryd.f64,  encPR, tt_68, slM_sl, fmN, fm0, hdr]
    rw [if_neg h3]
    exact pcR64n s (by omega) f1 f2 (Bool.eq_false_iff.2 h3)
theorem pcR37 (s : List UInt8) (hs : s.length ≤ 100000) : AnsR 37 s (pOr (s.length + 1) s) :=
  have eA := pAtm_eats (s.length + 1)
  have eS := pStr_eats eA
  pcL37 (n := s.length + 1) (by omega) (lstP_eats eS (.inl rfl)) (fun t ht => pcL51 (n := s.length + 1) (by omega) eS (fun t ht => pcR60 (n := s.length + 1) (by omega) eA (pcR64 (s.length + 1) (by omega)) t ht) t ht) s (Nat.lt_succ_self _)
theorem pc21 (s : List UInt8) : PC Tryd.prog 21 [.str s] (encMI (parP s)) := by
  by_cases h : 16384 < s.length
  · have e : parP s = ([], 4) := by rw [parP, if_pos h]
    rw [e]
    refine PC.walk tok mixed cfg0 Tryd.func21 rfl Tryd.call21 (by simp [bel_PR, bel_slM, bel_slN, belN, bel_Ns, fmN, fm0, belAll_append, bel_MI]) (by first | rfl | simp [bel_PR, bel_slM, bel_slN, belN, bel_Ns, fmN, fm0, belAll_append, bel_MI]) ?_; simp (maxSteps := 2000000) -implicitDefEqProofs +contextual (disch := first | assumption | omega | decide +kernel) only [push_cast, ↓capI, br2_true, br2_false, frk_tt, frk_tf, frk_f, frkD_tt, frkD_tf, frkD_f, pk2_true, pk2_false, imp_true, seval, Nat.reduceLeDiff, Nat.reduceEqDiff, reduceCtorEq, ↓reduceIte, fmN, fm0, take_N, toN1, slN_nil, encN, slN, cfg0, take_rest, ibeq_dec, st_M, os_M, encPR, slM_sl, ones_N, cfgJ, len_flat lenN, Tryd.ntmps21]
    refine endK.ret ?_ (by first | rfl | simp [bel_PR, bel_slM, bel_slN, belN, bel_Ns, fmN, fm0, belAll_append, bel_MI]); simp [evRes, getT, retV, Tryd.f21,  encMI, slM_nil]
  have e : parP s = parQ s (pOr (s.length + 1) s) := by rw [parP, if_neg h]
  rw [e]
  obtain ⟨l, r, g, hl, hl2, hr⟩ := pcR37 s (by omega)
  have heat := pOr_eats (s.length + 1) s
  cases hx : pOr (s.length + 1) s with
  | none =>
    rw [hx] at g
    refine PC.walk tok mixed cfg0 Tryd.func21 rfl Tryd.call21 (by simp [bel_PR, bel_slM, bel_slN, belN, bel_Ns, fmN, fm0, belAll_append, bel_MI]) (by first | rfl | simp [bel_PR, bel_slM, bel_slN, belN, bel_Ns, fmN, fm0, belAll_append, bel_MI]) ?_; simp (maxSteps := 2000000) -implicitDefEqProofs +contextual (disch := first | assumption | omega | decide +kernel) only [push_cast, ↓capI, br2_true, br2_false, frk_tt, frk_tf, frk_f, frkD_tt, frkD_tf, frkD_f, pk2_true, pk2_false, imp_true, seval, Nat.reduceLeDiff, Nat.reduceEqDiff, reduceCtorEq, ↓reduceIte, fmN, fm0, take_N, toN1, slN_nil, encN, slN, cfg0, take_rest, ibeq_dec, st_M, os_M, encPR, slM_sl, ones_N, cfgJ, len_flat lenN, Tryd.ntmps21]
    refine callO.pc g ?_
    simp (maxSteps := 2000000) -implicitDefEqProofs +contextual (disch := first | assumption | omega | decide +kernel) only [push_cast, ↓capI, br2_true, br2_false, frk_tt, frk_tf, frk_f, frkD_tt, frkD_tf, frkD_f, pk2_true, pk2_false, imp_true, seval, Nat.reduceLeDiff, Nat.reduceEqDiff, reduceCtorEq, ↓reduceIte, fmN, fm0, take_N, toN1, slN_nil, encN, slN, cfg0, take_rest, ibeq_dec, st_M, os_M, encPR, slM_sl, ones_N, cfgJ, len_flat lenN]
    refine endK.ret ?_ (by first | rfl | simp [bel_PR, bel_slM, bel_slN, belN, bel_Ns, fmN, fm0, belAll_append, bel_MI]); simp [evRes, getT, retV, Tryd.f21,  parQ, encMI, slM_nil]
  | some q =>
    obtain ⟨p, t⟩ := q
    rw [hx] at g
    obtain ⟨q1, q2⟩ := hr p t hx
    subst q1 q2
    obtain ⟨hlen, hok⟩ := heat p _ hx
    cases r with
    | cons c u =>
      have hne : (c :: u = []) = False := eq_false (List.cons_ne_nil _ _)
      refine PC.walk tok mixed cfg0 Tryd.func21 rfl Tryd.call21 (by simp [bel_PR, bel_slM, bel_slN, belN, bel_Ns, fmN, fm0, belAll_append, bel_MI]) (by first | rfl | simp [bel_PR, bel_slM, bel_slN, belN, bel_Ns, fmN, fm0, belAll_append, bel_MI]) ?_; simp (maxSteps := 2000000) -implicitDefEqProofs +contextual (disch := first | assumption | omega | decide +kernel) only [push_cast, ↓capI, br2_true, br2_false, frk_tt, frk_tf, frk_f, frkD_tt, frkD_tf, frkD_f, pk2_true, pk2_false, imp_true, seval, Nat.reduceLeDiff, Nat.reduceEqDiff, reduceCtorEq, ↓reduceIte, fmN, fm0, take_N, toN1, slN_nil, encN, slN, cfg0, take_rest, ibeq_dec, st_M, os_M, encPR, slM_sl, ones_N, cfgJ, len_flat lenN, Tryd.ntmps21]
      refine callO.pc g ?_
      simp (maxSteps := 2000000) -implicitDefEqProofs +contextual (disch := first | assumption | omega | decide +kernel) only [push_cast, ↓capI, br2_true, br2_false, frk_tt, frk_tf, frk_f, frkD_tt, frkD_tf, frkD_f, pk2_true, pk2_false, imp_true, seval, Nat.reduceLeDiff, Nat.reduceEqDiff, reduceCtorEq, ↓reduceIte, fmN, fm0, take_N, toN1, slN_nil, encN, slN, cfg0, take_rest, ibeq_dec, st_M, os_M, encPR, slM_sl, ones_N, cfgJ, len_flat lenN, hne]
      refine endK.ret ?_ (by first | rfl | simp [bel_PR, bel_slM, bel_slN, belN, bel_Ns, fmN, fm0, belAll_append, bel_MI]); simp [evRes, getT, retV, Tryd.f21,  parQ, encMI, slM_nil]
    | nil =>
      have hE := flat_isE p
      by_cases h24 : 24 < (flat p).length
      · refine PC.walk tok mixed cfg0 Tryd.func21 rfl Tryd.call21 (by simp [bel_PR, bel_slM, bel_slN, belN, bel_Ns, fmN, fm0, belAll_append, bel_MI]) (by first | rfl | simp [bel_PR, bel_slM, bel_slN, belN, bel_Ns, fmN, fm0, belAll_append, bel_MI]) ?_; simp (maxSteps := 2000000) -implicitDefEqProofs +contextual (disch := first | assumption | omega | decide +kernel) only [push_cast, ↓capI, br2_true, br2_false, frk_tt, frk_tf, frk_f, frkD_tt, frkD_tf, frkD_f, pk2_true, pk2_false, imp_true, seval, Nat.reduceLeDiff, Nat.reduceEqDiff, reduceCtorEq, ↓reduceIte, fmN, fm0, take_N, toN1, slN_nil, encN, slN, cfg0, take_rest, ibeq_dec, st_M, os_M, encPR, slM_sl, ones_N, cfgJ, len_flat lenN, Tryd.ntmps21]
        refine callO.pc g ?_
        simp (maxSteps := 2000000) -implicitDefEqProofs +contextual (disch := first | assumption | omega | decide +kernel) only [push_cast, ↓capI, br2_true, br2_false, frk_tt, frk_tf, frk_f, frkD_tt, frkD_tf, frkD_f, pk2_true, pk2_false, imp_true, seval, Nat.reduceLeDiff, Nat.reduceEqDiff, reduceCtorEq, ↓reduceIte, fmN, fm0, take_N, toN1, slN_nil, encN, slN, cfg0, take_rest, ibeq_dec, st_M, os_M, encPR, slM_sl, ones_N, cfgJ, len_flat lenN, h24, hE]
        refine endK.ret ?_ (by first | rfl | simp [bel_PR, bel_slM, bel_slN, belN, bel_Ns, fmN, fm0, belAll_append, bel_MI]); simp [evRes, getT, retV, Tryd.f21,  parQ, encMI, slM_nil, h24]
      · have i1 := pc35 (flat p) (by omega) p 0 [] hok (by rw [List.drop_zero, List.append_nil])
        by_cases ht : tx p = s
        · refine PC.walk tok mixed cfg0 Tryd.func21 rfl Tryd.call21 (by simp [bel_PR, bel_slM, bel_slN, belN, bel_Ns, fmN, fm0, belAll_append, bel_MI]) (by first | rfl | simp [bel_PR, bel_slM, bel_slN, belN, bel_Ns, fmN, fm0, belAll_append, bel_MI]) ?_; simp (maxSteps := 2000000) -implicitDefEqProofs +contextual (disch := first | assumption | omega | decide +kernel) only [push_cast, ↓capI, br2_true, br2_false, frk_tt, frk_tf, frk_f, frkD_tt, frkD_tf, frkD_f, pk2_true, pk2_false, imp_true, seval, Nat.reduceLeDiff, Nat.reduceEqDiff, reduceCtorEq, ↓reduceIte, fmN, fm0, take_N, toN1, slN_nil, encN, slN, cfg0, take_rest, ibeq_dec, st_M, os_M, encPR, slM_sl, ones_N, cfgJ, len_flat lenN, Tryd.ntmps21]
          refine callO.pc g ?_
          simp (maxSteps := 2000000) -implicitDefEqProofs +contextual (disch := first | assumption | omega | decide +kernel) only [push_cast, ↓capI, br2_true, br2_false, frk_tt, frk_tf, frk_f, frkD_tt, frkD_tf, frkD_f, pk2_true, pk2_false, imp_true, seval, Nat.reduceLeDiff, Nat.reduceEqDiff, reduceCtorEq, ↓reduceIte, fmN, fm0, take_N, toN1, slN_nil, encN, slN, cfg0, take_rest, ibeq_dec, st_M, os_M, encPR, slM_sl, ones_N, cfgJ, len_flat lenN, h24, hE]
          refine callO.pc i1 ?_
          simp (maxSteps := 2000000) -implicitDefEqProofs +contextual (disch := first | assumption | omega | decide +kernel) only [push_cast, ↓capI, br2_true, br2_false, frk_tt, frk_tf, frk_f, frkD_tt, frkD_tf, frkD_f, pk2_true, pk2_false, imp_true, seval, Nat.reduceLeDiff, Nat.reduceEqDiff, reduceCtorEq, ↓reduceIte, fmN, fm0, take_N, toN1, slN_nil, encN, slN, cfg0, take_rest, ibeq_dec, st_M, os_M, encPR, slM_sl, ones_N, cfgJ, len_flat lenN, ht]
          refine endK.ret ?_ (by first | rfl | simp [bel_PR, bel_slM, bel_slN, belN, bel_Ns, fmN, fm0, belAll_append, bel_MI]); simp [evRes, getT, retV, Tryd.f21,  parQ, encMI, slM_cons (flat_ne p), h24, ht, slN]
        · refine PC.walk tok mixed cfg0 Tryd.func21 rfl Tryd.call21 (by simp [bel_PR, bel_slM, bel_slN, belN, bel_Ns, fmN, fm0, belAll_append, bel_MI]) (by first | rfl | simp [bel_PR, bel_slM, bel_slN, belN, bel_Ns, fmN, fm0, belAll_append, bel_MI]) ?_; simp (maxSteps := 2000000) -implicitDefEqProofs +contextual (disch := first | assumption | omega | decide +kernel) only [push_cast, ↓capI, br2_true, br2_false, frk_tt, frk_tf, frk_f, frkD_tt, frkD_tf, frkD_f, pk2_true, pk2_false, imp_true, seval, Nat.reduceLeDiff, Nat.reduceEqDiff, reduceCtorEq, ↓reduceIte, fmN, fm0, take_N, toN1, slN_nil, encN, slN, cfg0, take_rest, ibeq_dec, st_M, os_M, encPR, slM_sl, ones_N, cfgJ, len_flat lenN, Tryd.ntmps21]
          refine callO.pc g ?_
          simp (maxSteps := 2000000) -implicitDefEqProofs +contextual (disch := first | assumption | omega | decide +kernel) only [push_cast, ↓capI, br2_true, br2_false, frk_tt, frk_tf, frk_f, frkD_tt, frkD_tf, frkD_f, pk2_true, pk2_false, imp_true, seval, Nat.reduceLeDiff, Nat.reduceEqDiff, reduceCtorEq, ↓reduceIte, fmN, fm0, take_N, toN1, slN_nil, encN, slN, cfg0, take_rest, ibeq_dec, st_M, os_M, encPR, slM_sl, ones_N, cfgJ, len_flat lenN, h24, hE]
          refine callO.pc i1 ?_
          simp (maxSteps := 2000000) -implicitDefEqProofs +contextual (disch := first | assumption | omega | decide +kernel) only [push_cast, ↓capI, br2_true, br2_false, frk_tt, frk_tf, frk_f, frkD_tt, frkD_tf, frkD_f, pk2_true, pk2_false, imp_true, seval, Nat.reduceLeDiff, Nat.reduceEqDiff, reduceCtorEq, ↓reduceIte, fmN, fm0, take_N, toN1, slN_nil, encN, slN, cfg0, take_rest, ibeq_dec, st_M, os_M, encPR, slM_sl, ones_N, cfgJ, len_flat lenN, ht]
          refine endK.ret ?_ (by first | rfl | simp [bel_PR, bel_slM, bel_slN, belN, bel_Ns, fmN, fm0, belAll_append, bel_MI]); simp [evRes, getT, retV, Tryd.f21,  parQ, encMI, slM_nil, h24, ht]
end Go.Proofs.YtginpkchjeooeaaDoor

/- Chapter 41: the text of a path expression, parsed, gives the expression (but for numbers that its operators do not use). -/
set_option maxRecDepth 100000
set_option maxHeartbeats 4000000
set_option linter.all false
namespace Go.Proofs.YtginpkchjeooeaaDoor
open Go.Vm

def cl : Pr → Pr
  | .leaf x => .leaf (if x.op = 3 then x else op0 x.op)
  | .un x p => .un (op0 x.op) (cl p)
  | .bin x p q => .bin (op0 x.op) (cl p) (cl q)
theorem cl_prec : ∀ p, prec (cl p) = prec p
  | .leaf x => rfl
  | .un x p => rfl
  | .bin x p q => rfl
theorem cl_len : ∀ p, (flat (cl p)).length = (flat p).length
  | .leaf x => rfl
  | .un x p => by rw [cl, flat, flat, List.length_cons, List.length_cons, cl_len p]
  | .bin x p q => by rw [cl, flat, flat, List.length_cons, List.length_cons, List.length_append, List.length_append, cl_len p, cl_len q]
theorem cl_tx : ∀ {p}, okP 1000000000 p → tx (cl p) = tx p
  | .leaf x, ⟨h, _⟩ => by
    rw [cl]
    rcases h with h | h | h
    · rw [if_neg (by omega), tx, tx, h]; rfl
    · rw [if_neg (by omega), tx, tx, h]; rfl
    · rw [if_pos h]
  | .un x p, ⟨_, hp⟩ => by rw [cl, tx, tx, cl_tx hp, cl_prec]
  | .bin x p q, ⟨_, hp, hq⟩ => by
    rw [cl, tx, tx, cl_tx hp, cl_tx hq, cl_prec, cl_prec]
    rfl
theorem cl_ok : ∀ {p}, okP 1000000000 p → okP 1000000000 (cl p)
  | .leaf x, ⟨h, hc⟩ => by
    rw [cl]
    rcases h with h | h | h
    · rw [if_neg (by omega), h]; exact ⟨.inl rfl, rfl⟩
    · rw [if_neg (by omega), h]; exact ⟨.inr (.inl rfl), rfl⟩
    · rw [if_pos h]; exact ⟨.inr (.inr h), hc⟩
  | .un x p, ⟨h, hp⟩ => ⟨h, cl_ok hp⟩
  | .bin x p q, ⟨h, hp, hq⟩ => ⟨h, cl_ok hp, cl_ok hq⟩
theorem lst_fuel {nx : List UInt8 → PR} (h : Eats nx) {o : Int} {c : UInt8} : ∀ k k' x s, s.length < k → s.length < k' → lst nx o c k x s = lst nx o c k' x s
  | 0, _, _, _, hk, _ => absurd hk (Nat.not_lt_zero _)
  | _ + 1, 0, _, _, _, hk => absurd hk (Nat.not_lt_zero _)
  | k + 1, k' + 1, x, s, hk, hk' => by
    rw [lst, lst]
    by_cases hb : begins s [c] = true
    · have hl := begins_le hb
      simp only [List.length_cons, List.length_nil] at hl
      rw [if_pos hb, if_pos hb]
      cases hn : nx (s.drop 1) with
      | none => rfl
      | some q =>
        obtain ⟨y, r⟩ := q
        have h1 := (h _ _ _ hn).1
        rw [List.length_drop] at h1
        exact lst_fuel h k k' _ r (by omega) (by omega)
    · rw [if_neg hb, if_neg hb]
/-- a text before which a number ends -/
def stop (r : List UInt8) : Prop := ∀ c t, r = c :: t → isDig c = false
def nob (r : List UInt8) (d : UInt8) : Prop := ∀ c t, r = c :: t → c ≠ d
theorem stop_cons {c : UInt8} {t : List UInt8} (h : isDig c = false) : stop (c :: t) := by
  intro d u e
  cases e
  exact h
theorem nob_cons {c d : UInt8} {t : List UInt8} (h : c ≠ d) : nob (c :: t) d := by
  intro e u h2
  cases h2
  exact h
theorem nob_begins {r : List UInt8} {d : UInt8} (h : nob r d) : begins r [d] = false := by
  cases r with
  | nil => rfl
  | cons c t => rw [begins_cons, beq_eq_false_iff_ne]; exact h c t rfl
theorem begins_app (p z : List UInt8) : begins (p ++ z) p = true := by
  simp [begins]
theorem begins_ne {c d : UInt8} {s p : List UInt8} (h : c ≠ d) : begins (c :: s) (d :: p) = false := by
  simp [begins, h]
theorem digs_app {d r : List UInt8} (hd : ∀ c, c ∈ d → isDig c = true) (hr : ∀ c t, r = c :: t → isDig c = false) : digs (d ++ r) = d ∧ dropD (d ++ r) = r := by
  induction d with
  | nil =>
    cases r with
    | nil => exact ⟨rfl, rfl⟩
    | cons c t =>
      have := hr c t rfl
      refine ⟨?_, dropD_no this⟩
      rw [List.nil_append, digs, List.takeWhile_cons, if_neg (by rw [this]; simp)]
  | cons x d ih =>
    have hx := hd x (List.mem_cons_self ..)
    obtain ⟨i1, i2⟩ := ih (fun c hc => hd c (List.mem_cons_of_mem _ hc))
    refine ⟨?_, ?_⟩
    · rw [List.cons_append, digs, List.takeWhile_cons, if_pos hx]
      exact congrArg (x :: ·) i1
    · rw [List.cons_append, dropD_yes hx]
      exact i2
theorem dig_of {n : Nat} (h : n < 10) : isDig (UInt8.ofNat (48 + n)) = true ∧ (UInt8.ofNat (48 + n)).toNat = 48 + n := by
  have e : (UInt8.ofNat (48 + n)).toNat = 48 + n := by rw [UInt8.toNat_ofNat']; omega
  refine ⟨?_, e⟩
  simp only [isDig, e, Bool.and_eq_true, decide_eq_true_eq]
  omega
theorem dgs_ok : ∀ k v, v < 10 ^ k → (∀ c, c ∈ dgs k v → isDig c = true) ∧ (1 ≤ k → valL (dgs k v) 0 = some v)
  | 0, v, _ => ⟨fun c hc => (by cases hc), fun h => absurd h (by decide)⟩
  | k + 1, v, hv => by
    rw [dgs]
    by_cases h : v < 10
    · rw [if_pos h]
      obtain ⟨h1, h2⟩ := dig_of h
      refine ⟨fun c hc => ?_, fun _ => ?_⟩
      · rw [List.mem_singleton.1 hc]; exact h1
      · rw [valL, if_pos h1, h2, valL]
        congr 1
        omega
    · rw [if_neg h]
      have hk1 : 1 ≤ k := by
        apply Decidable.byContradiction
        intro h0
        have : k = 0 := by omega
        subst this
        simp at hv
        omega
      obtain ⟨i1, i2⟩ := dgs_ok k (v / 10) (by rw [Nat.pow_succ] at hv; omega)
      obtain ⟨h1, h2⟩ := dig_of (n := v % 10) (by omega)
      refine ⟨fun c hc => ?_, fun _ => ?_⟩
      · rcases List.mem_append.1 hc with hc | hc
        · exact i1 c hc
        · rw [List.mem_singleton.1 hc]; exact h1
      · rw [valL_app, i2 hk1, Option.bind_some, valL, if_pos h1, h2, valL]
        congr 1
        omega
theorem parseI_dgs (v : Nat) (hv : v < 1000000000) : parseI (dgs 9 v) = ((v : Int), true) := by
  obtain ⟨h1, h2⟩ := dgs_ok 9 v hv
  have hl := dgs_len 9 v
  rw [parseI, if_neg (by rw [no_minus h1]; simp), if_neg (by rw [dgs_canon v hv]; simp; omega), h2 (by decide)]
theorem pNumb_dgs (v : Nat) (hv : v < 1000000000) {r : List UInt8} (hr : stop r) : pNumb (dgs 9 v ++ r) = some (.leaf ⟨3, v⟩, r) := by
  obtain ⟨h1, h2⟩ := digs_app (dgs_ok 9 v hv).1 hr
  rw [pNumb, h1, h2, parseI_dgs v hv, if_pos rfl]
theorem dgs_first (v : Nat) (hv : v < 1000000000) : ∃ c t, dgs 9 v = c :: t ∧ isDig c = true := by
  have h := (dgs_head 9 v hv (by decide)).1
  cases hq : dgs 9 v with
  | nil => exact absurd hq h
  | cons c t =>
    refine ⟨c, t, rfl, (dgs_ok 9 v hv).1 c ?_⟩
    rw [hq]
    exact List.mem_cons_self ..
/-- a text begins with a parenthesis, a point or a digit -/
theorem inn_first {k n : Int} {s : List UInt8} {c : UInt8} {t : List UInt8} (h : s = c :: t) (hc : c ≠ 41) : ∀ z, ∃ d u, inn k n s ++ z = d :: u ∧ d ≠ 41 := by
  intro z
  unfold inn
  split
  · exact ⟨40, _, rfl, by decide⟩
  · rw [h]
    exact ⟨c, _, rfl, hc⟩
theorem tx_first : ∀ p, okP 1000000000 p → ∃ c t, tx p = c :: t ∧ c ≠ 41
  | .leaf x, hp => by
    rw [tx]
    split
    · exact ⟨40, [41], rfl, by decide⟩
    split
    · exact ⟨46, [], rfl, by decide⟩
    · rename_i h1 h2
      have h3 : x.op = 3 := by have := hp.1; omega
      obtain ⟨b1, b2⟩ := ok_leaf hp h3
      obtain ⟨c, t, e, hc⟩ := dgs_first x.n.toNat (by omega)
      refine ⟨c, t, e, ?_⟩
      intro e2
      rw [e2] at hc
      exact absurd hc (by decide)
  | .un x p, ⟨_, hp⟩ => by
    obtain ⟨c, t, e, hc⟩ := tx_first p hp
    rw [tx]
    exact inn_first e hc _
  | .bin x p q, ⟨_, hp, _⟩ => by
    obtain ⟨c, t, e, hc⟩ := tx_first p hp
    rw [tx]
    split
    · obtain ⟨d, u, h1, h2⟩ := inn_first (k := prec p) (n := 1) e hc ([124] ++ inn (prec q) 2 (tx q))
      exact ⟨d, u, by rw [List.append_assoc]; exact h1, h2⟩
    · obtain ⟨d, u, h1, h2⟩ := inn_first (k := prec p) (n := 2) e hc ([44] ++ inn (prec q) 3 (tx q))
      exact ⟨d, u, by rw [List.append_assoc]; exact h1, h2⟩
theorem begins_pt {s : List UInt8} {c : UInt8} (h : c ≠ 41) : begins (40 :: c :: s) [40, 41] = false := by
  simp [begins, h]
theorem begins_ne2 {c d : UInt8} {s : List UInt8} {p : List UInt8} (h : c ≠ d) : begins (c :: s) (d :: p) = false := begins_ne h
theorem leaf_txt {k : Nat} {x : Nd} (hp : okP 1000000000 (.leaf x)) {r : List UInt8} (hr : stop r) : pAtm (k + 1) (tx (.leaf x) ++ r) = some (cl (.leaf x), r) := by
  have hok := ok_leaf hp
  obtain ⟨h0, hc⟩ := hp
  rcases h0 with h | h | h
  · rw [tx, if_pos h, cl, if_neg (by omega), h, pAtm, begins_app, if_pos rfl]
    rfl
  · have e1 : begins ([46] ++ r) [40, 41] = false := begins_ne (by decide)
    rw [tx, if_neg (by omega), if_pos h, cl, if_neg (by omega), h, pAtm, e1, if_neg (by simp), begins_app, if_pos rfl]
    rfl
  · obtain ⟨b1, b2⟩ := hok h
    obtain ⟨c, t, e, hd⟩ := dgs_first x.n.toNat (by omega)
    have n1 : c ≠ 40 := fun e2 => by rw [e2] at hd; exact absurd hd (by decide)
    have n2 : c ≠ 46 := fun e2 => by rw [e2] at hd; exact absurd hd (by decide)
    have e0 := pNumb_dgs x.n.toNat (by omega) hr
    have e1 : begins (dgs 9 x.n.toNat ++ r) [40, 41] = false := by rw [e]; exact begins_ne n1
    have e2 : begins (dgs 9 x.n.toNat ++ r) [46] = false := by rw [e]; exact begins_ne n2
    have e3 : begins (dgs 9 x.n.toNat ++ r) [40] = false := by rw [e]; exact begins_ne n1
    rw [tx, if_neg (by omega), if_neg (by omega), cl, if_pos h, pAtm, e1, if_neg (by simp), e2, if_neg (by simp), e3, if_neg (by simp), e0, Int.toNat_of_nonneg b1, ← h]
def SS (p : Pr) : Prop := ∀ k r, stop r → (inn (prec p) 3 (tx p) ++ r).length < k → pStr (pAtm k) (inn (prec p) 3 (tx p) ++ r) = some (strs (r.length + 1) (cl p) r)
def CC (p : Pr) : Prop := ∀ k r, stop r → nob r 42 → (inn (prec p) 2 (tx p) ++ r).length < k → pCat k (inn (prec p) 2 (tx p) ++ r) = lst (pStr (pAtm k)) 4 44 (r.length + 1) (cl p) r
def OO (p : Pr) : Prop := ∀ k r, stop r → nob r 42 → nob r 44 → (tx p ++ r).length < k → pOr k (tx p ++ r) = lst (pCat k) 5 124 (r.length + 1) (cl p) r
theorem SS_end {p : Pr} (h : SS p) {k : Nat} {r : List UInt8} (hr : stop r) (ha : nob r 42) (hk : (inn (prec p) 3 (tx p) ++ r).length < k) : pStr (pAtm k) (inn (prec p) 3 (tx p) ++ r) = some (cl p, r) := by
  rw [h k r hr hk, strs, nob_begins ha, if_neg (by simp)]
theorem CC_end {p : Pr} (h : CC p) {k : Nat} {r : List UInt8} (hr : stop r) (ha : nob r 42) (hb : nob r 44) (hk : (inn (prec p) 2 (tx p) ++ r).length < k) : pCat k (inn (prec p) 2 (tx p) ++ r) = some (cl p, r) := by
  rw [h k r hr ha hk, lst, nob_begins hb, if_neg (by simp)]
theorem OO_end {p : Pr} (h : OO p) {k : Nat} {r : List UInt8} (hr : stop r) (ha : nob r 42) (hb : nob r 44) (hc : nob r 124) (hk : (tx p ++ r).length < k) : pOr k (tx p ++ r) = some (cl p, r) := by
  rw [h k r hr ha hb hk, lst, nob_begins hc, if_neg (by simp)]
theorem CC_of_SS {p : Pr} (h : SS p) (e : inn (prec p) 2 (tx p) = inn (prec p) 3 (tx p)) : CC p := by
  intro k r hr ha hk
  rw [e] at hk ⊢
  rw [pCat, lstP, SS_end h hr ha hk]
theorem OO_of_CC {p : Pr} (h : CC p) (e : inn (prec p) 2 (tx p) = tx p) : OO p := by
  intro k r hr ha hb hk
  have hA := CC_end h hr ha hb (k := k) (by rw [e]; exact hk)
  rw [e] at hA
  rw [pOr, lstP, hA]
theorem SS_of_OO {p : Pr} (hok : okP 1000000000 p) (h : OO p) (hp : prec p < 3) : SS p := by
  intro k r hr hk
  rw [inn, if_pos hp] at hk ⊢
  cases k with
  | zero => exact absurd hk (Nat.not_lt_zero _)
  | succ k =>
    have e : [40] ++ tx p ++ [41] ++ r = 40 :: (tx p ++ (41 :: r)) := by simp
    rw [e] at hk ⊢
    rw [List.length_cons] at hk
    have hO := OO_end h (k := k) (r := 41 :: r) (stop_cons (by decide)) (nob_cons (by decide)) (nob_cons (by decide)) (nob_cons (by decide)) (by omega)
    obtain ⟨c, t, ec, hc⟩ := tx_first p hok
    have e1 : begins (40 :: (tx p ++ (41 :: r))) [40, 41] = false := by rw [ec]; exact begins_pt hc
    have e2 : begins (40 :: (tx p ++ (41 :: r))) [46] = false := begins_ne (by decide)
    have e4 : begins (40 :: (tx p ++ (41 :: r))) [40] = true := begins_cons
    have e5 : begins (41 :: r) [41] = true := begins_cons
    have hat : pAtm (k + 1) (40 :: (tx p ++ (41 :: r))) = some (cl p, r) := by
      rw [pAtm, e1, e2, e4, if_neg (by simp), if_neg (by simp), if_pos rfl]
      rw [pOr, pCat] at hO
      rw [List.drop_succ_cons, List.drop_zero]
      rw [show lstP (lstP (pStr (pAtm k)) 4 44) 5 124 (tx p ++ 41 :: r) = some (cl p, 41 :: r) from hO]
      simp only
      rw [e5, if_pos rfl]
      rfl
    rw [pStr, hat]
theorem inn_pre (k need : Int) (s : List UInt8) (h : ¬ k < need) : inn k need s = s := by rw [inn, if_neg h]
theorem all_txt : ∀ p, okP 1000000000 p → SS p ∧ CC p ∧ OO p
  | .leaf x, hp => by
    have e3 := inn_pre _ _ (tx (.leaf x)) (show ¬ prec (.leaf x) < 3 from (by decide : ¬ (3 : Int) < 3))
    have e2 := inn_pre _ _ (tx (.leaf x)) (show ¬ prec (.leaf x) < 2 from (by decide : ¬ (3 : Int) < 2))
    have hN : SS (.leaf x) := by
      intro k r hr hk
      cases k with
      | zero => exact absurd hk (Nat.not_lt_zero _)
      | succ k => rw [e3, pStr, leaf_txt hp hr]
    have hA := CC_of_SS hN (by rw [e3, e2])
    exact ⟨hN, hA, OO_of_CC hA e2⟩
  | .un x p, ⟨h4, hp⟩ => by
    obtain ⟨iN, _, _⟩ := all_txt p hp
    have e3 := inn_pre _ _ (tx (.un x p)) (show ¬ prec (.un x p) < 3 from (by decide : ¬ (3 : Int) < 3))
    have e2 := inn_pre _ _ (tx (.un x p)) (show ¬ prec (.un x p) < 2 from (by decide : ¬ (3 : Int) < 2))
    have hN : SS (.un x p) := by
      intro k r hr hk
      rw [e3, tx] at hk ⊢
      have e : inn (prec p) 3 (tx p) ++ [42] ++ r = inn (prec p) 3 (tx p) ++ (42 :: r) := by simp
      rw [e] at hk ⊢
      have e1 : begins (42 :: r) [42] = true := begins_cons
      rw [iN k (42 :: r) (stop_cons (by decide)) hk, strs, e1, if_pos rfl, List.drop_succ_cons, List.drop_zero, cl, h4]
      rfl
    have hA := CC_of_SS hN (by rw [e3, e2])
    exact ⟨hN, hA, OO_of_CC hA e2⟩
  | .bin x p q, ⟨h45, hp, hq⟩ => by
    obtain ⟨iS, iC, iO⟩ := all_txt p hp
    obtain ⟨jS, jC, jO⟩ := all_txt q hq
    have hok : okP 1000000000 (.bin x p q) := ⟨h45, hp, hq⟩
    rcases h45 with h | h
    · have n5 : ¬ x.op = 5 := by omega
      have hpr : prec (.bin x p q) = 2 := by rw [prec, if_neg n5]
      have hA : CC (.bin x p q) := by
        intro k r hr ha hk
        rw [hpr, inn_pre _ _ _ (by decide : ¬ (2 : Int) < 2), tx, if_neg n5] at hk ⊢
        have e : inn (prec p) 2 (tx p) ++ [44] ++ inn (prec q) 3 (tx q) ++ r = inn (prec p) 2 (tx p) ++ (44 :: (inn (prec q) 3 (tx q) ++ r)) := by simp
        rw [e] at hk ⊢
        have hk2 : (inn (prec q) 3 (tx q) ++ r).length < k := by
          rw [List.length_append, List.length_cons] at hk
          omega
        have e1 : begins (44 :: (inn (prec q) 3 (tx q) ++ r)) [44] = true := begins_cons
        rw [iC k _ (stop_cons (by decide)) (nob_cons (by decide)) hk, lst, e1, if_pos rfl, List.drop_succ_cons, List.drop_zero, SS_end jS hr ha hk2, cl, h]
        exact lst_fuel (pStr_eats (pAtm_eats k)) _ _ _ r (by rw [List.length_cons, List.length_append]; omega) (by omega)
      have hO := OO_of_CC hA (by rw [hpr]; exact inn_pre _ _ _ (by decide))
      exact ⟨SS_of_OO hok hO (by rw [hpr]; decide), hA, hO⟩
    · have hpr : prec (.bin x p q) = 1 := by rw [prec, if_pos h]
      have hO : OO (.bin x p q) := by
        intro k r hr ha hb hk
        rw [tx, if_pos h] at hk ⊢
        have e : inn (prec p) 1 (tx p) ++ [124] ++ inn (prec q) 2 (tx q) ++ r = tx p ++ (124 :: (inn (prec q) 2 (tx q) ++ r)) := by
          rw [in1 hp]
          simp
        rw [e] at hk ⊢
        have hk2 : (inn (prec q) 2 (tx q) ++ r).length < k := by
          rw [List.length_append, List.length_cons] at hk
          omega
        have e1 : begins (124 :: (inn (prec q) 2 (tx q) ++ r)) [124] = true := begins_cons
        rw [iO k _ (stop_cons (by decide)) (nob_cons (by decide)) (nob_cons (by decide)) hk, lst, e1, if_pos rfl, List.drop_succ_cons, List.drop_zero, CC_end jC hr ha hb hk2, cl, h]
        exact lst_fuel (pCat_eats k) _ _ _ r (by rw [List.length_cons, List.length_append]; omega) (by omega)
      have hN := SS_of_OO hok hO (by rw [hpr]; decide)
      exact ⟨hN, CC_of_SS hN (by rw [hpr]; rfl), hO⟩
theorem parse_tx {p : Pr} (hp : okP 1000000000 p) (hl : (flat p).length ≤ 24) : parP (tx p) = (flat (cl p), 0) := by
  have ht := tx_len p
  have h := OO_end (all_txt p hp).2.2 (k := (tx p).length + 1) (r := []) (fun c t e => by cases e) (fun c t e => by cases e) (fun c t e => by cases e) (fun c t e => by cases e) (by rw [List.append_nil]; omega)
  rw [List.append_nil] at h
  rw [parP, if_neg (by omega), h, parQ, cl_len, if_neg (by omega), if_pos (cl_tx hp)]
end Go.Proofs.YtginpkchjeooeaaDoor

/- Chapter 41: the chapter's examples, and the small functions of the laws. -/
set_option maxRecDepth 100000
set_option maxHeartbeats 4000000
set_option linter.all false
namespace Go.Proofs.YtginpkchjeooeaaDoor
open Go.Vm

theorem st_N {l : List Nd} : (slN l).st = slN l := rfl
theorem os_N {g : Bool} {l : List Nd} {xs : List V} {p : Prop} : optSide g (slN l :: xs) p = optSide g xs p := rfl
theorem st_I {l : List Int} : (slI l).st = slI l := rfl
theorem os_I {g : Bool} {l : List Int} {xs : List V} {p : Prop} : optSide g (slI l :: xs) p = optSide g xs p := rfl
def p0 : Pr := .bin (op0 4) (.leaf ⟨3, 3⟩) (.un (op0 6) (.leaf (op0 2)))
def p1 : Pr := .bin (op0 5) (.leaf (op0 1)) (.leaf ⟨3, 2⟩)
def n0 : List Nd := flat p0
def n1 : List Nd := flat p1
def s0 : List UInt8 := [51, 44, 46, 42]
theorem tx0 : tx p0 = s0 := by decide +kernel
theorem chk0 : checkP 1000000000 n0 = 0 := by decide +kernel
theorem chk1' : checkP 1000000000 n1 = 0 := by decide +kernel
theorem chk3 : checkP 3 n0 = 9 := by decide +kernel
theorem par0 : parP s0 = (n0, 0) := by decide +kernel
theorem par1 : parP [40, 51, 41] = ([], 23) := by decide +kernel
theorem par2 : parP [48, 51] = ([], 5) := by decide +kernel
theorem ok0 : okP 1000000000 p0 := ⟨.inl rfl, ⟨.inr (.inr rfl), by decide +kernel⟩, rfl, .inr (.inl rfl), by decide +kernel⟩
theorem ok1 : okP 1000000000 p1 := ⟨.inr rfl, ⟨.inl rfl, by decide +kernel⟩, .inr (.inr rfl), by decide +kernel⟩
theorem lng0 : lng p0 = (0, false) := by decide +kernel
theorem lng1 : lng p1 = (1, true) := by decide +kernel
theorem mt0 : mtL n0 [3, 7, 7] = true := by
  refine (mtL_iff ok0 chk0).2 ?_
  rw [p0, Mt, if_neg (by decide)]
  refine ⟨[3], [7, 7], rfl, ?_, ?_⟩
  · rw [Mt, if_neg (by decide), if_neg (by decide)]
    rfl
  · rw [Mt]
    refine .app (u := [7]) (v := [7]) ?_ (.one ?_)
    · rw [Mt, if_neg (by decide), if_pos (by decide)]
      rfl
    · rw [Mt, if_neg (by decide), if_pos (by decide)]
      rfl
theorem mt1 : mtL n0 [] = false := by
  rw [← Bool.not_eq_true]
  intro h
  have h := (mtL_iff ok0 chk0).1 h
  rw [p0, Mt, if_neg (by decide)] at h
  obtain ⟨u, v, e, h1, _⟩ := h
  rw [Mt, if_neg (by decide), if_neg (by decide)] at h1
  rw [h1] at e
  cases e
theorem pc22 (l : List Nd) (hl : l.length ≤ 4000000) : PC Tryd.prog 22 [slN l, slN l] (.bool true) := by
  refine PC.walk tok mixed cfg0 Tryd.func22 rfl Tryd.call22 (by simp [fmN, fm0, belN, bel_Ns, bel_slN, bel_slM, bel_MI, bel_slI, belAll_append]) (by first | rfl | simp [fmN, fm0, belN, bel_Ns, bel_slN, bel_slM, bel_MI, bel_slI, belAll_append]) ?_; simp (maxSteps := 2000000) -implicitDefEqProofs +contextual (disch := first | assumption | omega | decide +kernel) only [push_cast, ↓capI, br2_true, br2_false, frk_tt, frk_tf, frk_f, frkD_tt, frkD_tf, frkD_f, pk2_true, pk2_false, imp_true, seval, Nat.reduceLeDiff, Nat.reduceEqDiff, reduceCtorEq, ↓reduceIte, cfg0, st_N, os_N, st_I, os_I, st_M, os_M, slM_nil, Tryd.ntmps22]
  simp (maxSteps := 2000000) -implicitDefEqProofs +contextual (disch := first | assumption | omega | decide +kernel) only [push_cast, ↓capI, br2_true, br2_false, frk_tt, frk_tf, frk_f, frkD_tt, frkD_tf, frkD_f, pk2_true, pk2_false, imp_true, seval, Nat.reduceLeDiff, Nat.reduceEqDiff, reduceCtorEq, ↓reduceIte, cfg0, st_N, os_N, st_I, os_I, st_M, os_M, slM_nil, slN]
  refine T.lp tok mixed cfg0 (fun (i : Nat) => kp 2 (dd 3 (sv (.int .i64 i) (dd 43 (nl))))) (fun H0 (i : Nat) => H0) (fun (i : Nat) => i ≤ l.length) (fun (i : Nat) => l.length - i) (0) ?_ ?_ ?_
  · exact Nat.zero_le _
  · exact Gn.canon (J := []) (by first | rfl | (simp [List.append_nil]; done) | (simp [List.append_nil]; rfl)) (by simp [wk, slN, putT, kp, dd, sv, nl]) (by simp [List.length_append]) (by simp [fmN, fm0, belN, bel_Ns, bel_slN, bel_slM, bel_MI, bel_slI, belAll_append, kp, dd, sv, nl]) (by simp [fmN, fm0, belN, bel_Ns, bel_slN, bel_slM, bel_MI, bel_slI, belAll_append])
  intro i hi
  by_cases hlt : i < l.length
  · have hA := get_flat_part lenN l i hlt 1 (by decide)
    have hB := get_flat_drop lenN l i hlt 1 1 (by decide)
    have hlen := len_flat lenN l
    have q1 := len_flat_at lenN l i 2 hlt (by decide)
    by_cases h3 : l[i].op = 3
    · simp (maxSteps := 2000000) -implicitDefEqProofs +contextual (disch := first | assumption | omega | decide +kernel) only [push_cast, ↓capI, br2_true, br2_false, frk_tt, frk_tf, frk_f, frkD_tt, frkD_tf, frkD_f, pk2_true, pk2_false, imp_true, seval, Nat.reduceLeDiff, Nat.reduceEqDiff, reduceCtorEq, ↓reduceIte, cfg0, st_N, os_N, st_I, os_I, st_M, os_M, slM_nil, hlt, hA, hB, encN, h3, len_flat lenN, get_flat_part lenN, get_flat_drop lenN]
      refine ⟨i + 1, hlt, by (try simp only); omega, ?_⟩; exact Gn.canon (by first | rfl | (simp [List.append_nil]; rfl)) (by simp [wk, slN]) (by simp [List.length_append]) (by simp [fmN, fm0, belN, bel_Ns, bel_slN, bel_slM, bel_MI, bel_slI, belAll_append]) (by simp [fmN, fm0, belN, bel_Ns, bel_slN, bel_slM, bel_MI, bel_slI, belAll_append])
    · simp (maxSteps := 2000000) -implicitDefEqProofs +contextual (disch := first | assumption | omega | decide +kernel) only [push_cast, ↓capI, br2_true, br2_false, frk_tt, frk_tf, frk_f, frkD_tt, frkD_tf, frkD_f, pk2_true, pk2_false, imp_true, seval, Nat.reduceLeDiff, Nat.reduceEqDiff, reduceCtorEq, ↓reduceIte, cfg0, st_N, os_N, st_I, os_I, st_M, os_M, slM_nil, hlt, hA, hB, encN, h3, len_flat lenN, get_flat_part lenN, get_flat_drop lenN]
      refine ⟨i + 1, hlt, by (try simp only); omega, ?_⟩; exact Gn.canon (by first | rfl | (simp [List.append_nil]; rfl)) (by simp [wk, slN]) (by simp [List.length_append]) (by simp [fmN, fm0, belN, bel_Ns, bel_slN, bel_slM, bel_MI, bel_slI, belAll_append]) (by simp [fmN, fm0, belN, bel_Ns, bel_slN, bel_slM, bel_MI, bel_slI, belAll_append])
  · simp (maxSteps := 2000000) -implicitDefEqProofs +contextual (disch := first | assumption | omega | decide +kernel) only [push_cast, ↓capI, br2_true, br2_false, frk_tt, frk_tf, frk_f, frkD_tt, frkD_tf, frkD_f, pk2_true, pk2_false, imp_true, seval, Nat.reduceLeDiff, Nat.reduceEqDiff, reduceCtorEq, ↓reduceIte, cfg0, st_N, os_N, st_I, os_I, st_M, os_M, slM_nil, hlt]
    refine endK.ret ?_ (by first | rfl | simp [fmN, fm0, belN, bel_Ns, bel_slN, bel_slM, bel_MI, bel_slI, belAll_append]); simp [evRes, getT, retV, Tryd.f22]
theorem pc22m (l : List Nd) (hl : l.length ≤ 4000000) : PC Tryd.prog 22 [slM l, slM l] (.bool true) := by
  refine PC.lax ?_
  rw [laxs, laxs, laxs, lax_M]
  exact pc22 l hl
theorem pc24 (o : Int) (a b : List Nd) (ha : a.length ≤ 1000) (hb : b.length ≤ 1000) : PC Tryd.prog 24 [.int .i64 o, slN a, slN b] (slN (jn o a b)) := by
  refine PC.walk tok mixed  cfgJ Tryd.func24 rfl Tryd.call24 (by simp [fmN, fm0, belN, bel_Ns, bel_slN, bel_slM, bel_MI, bel_slI, belAll_append]) (by first | rfl | simp [fmN, fm0, belN, bel_Ns, bel_slN, bel_slM, bel_MI, bel_slI, belAll_append]) ?_; simp (maxSteps := 2000000) -implicitDefEqProofs +contextual (disch := first | assumption | omega | decide +kernel) only [push_cast, ↓capI, br2_true, br2_false, frk_tt, frk_tf, frk_f, frkD_tt, frkD_tf, frkD_f, pk2_true, pk2_false, imp_true, seval, Nat.reduceLeDiff, Nat.reduceEqDiff, reduceCtorEq, ↓reduceIte, cfg0, st_N, os_N, st_I, os_I, st_M, os_M, slM_nil, Tryd.ntmps24,  cfgJ]
  simp (maxSteps := 2000000) -implicitDefEqProofs +contextual (disch := first | assumption | omega | decide +kernel) only [push_cast, ↓capI, br2_true, br2_false, frk_tt, frk_tf, frk_f, frkD_tt, frkD_tf, frkD_f, pk2_true, pk2_false, imp_true, seval, Nat.reduceLeDiff, Nat.reduceEqDiff, reduceCtorEq, ↓reduceIte, cfg0, st_N, os_N, st_I, os_I, st_M, os_M, slM_nil, cfgJ, slN, encN, fmN, fm0, len_flat lenN, ones_N, take_N]
  refine endK.gn (Gn.freeze (id := 0) rfl) ?_; refine endK.ret ?_ (by first | rfl | simp [fmN, fm0, belN, bel_Ns, bel_slN, bel_slM, bel_MI, bel_slI, belAll_append]); simp [fmN, fm0, belN, bel_Ns, bel_slN, bel_slM, bel_MI, bel_slI, belAll_append, fzs_ok, imp, lenOK_iff, List.take_of_length_le, evRes, getT, getO, setO, fzs, fz, fzH, Nat.beq, retV, Res.then, ldT, ldR, mkV, getV, cfg0, st_N, os_N, st_I, os_I, st_M, os_M, slM_nil, Tryd.f24,  slN, jn, op0, encN, fmN, fm0]
  exact ⟨List.take_of_length_le (by simp [len_flat lenN]; omega), by omega⟩
end Go.Proofs.YtginpkchjeooeaaDoor

/- Chapter 41: the chapter's examples answer true. -/
set_option maxRecDepth 100000
set_option maxHeartbeats 4000000
set_option linter.all false
namespace Go.Proofs.YtginpkchjeooeaaDoor
open Go.Vm

def cfgT : Cfg := ⟨[4], [], [], [], []⟩
theorem pc25 (a : List Nd) (ha : a.length ≤ 1000) : PC Tryd.prog 25 [slN a] (slN (op0 6 :: a)) := by
  refine PC.walk tok mixed  cfgT Tryd.func25 rfl Tryd.call25 (by simp [fmN, fm0, belN, bel_Ns, bel_slN, bel_slM, bel_MI, bel_slI, belAll_append]) (by first | rfl | simp [fmN, fm0, belN, bel_Ns, bel_slN, bel_slM, bel_MI, bel_slI, belAll_append]) ?_; simp (maxSteps := 2000000) -implicitDefEqProofs +contextual (disch := first | assumption | omega | decide +kernel) only [push_cast, ↓capI, br2_true, br2_false, frk_tt, frk_tf, frk_f, frkD_tt, frkD_tf, frkD_f, pk2_true, pk2_false, imp_true, seval, Nat.reduceLeDiff, Nat.reduceEqDiff, reduceCtorEq, ↓reduceIte, cfg0, st_N, os_N, st_I, os_I, st_M, os_M, slM_nil, Tryd.ntmps25,  cfgT]
  simp (maxSteps := 2000000) -implicitDefEqProofs +contextual (disch := first | assumption | omega | decide +kernel) only [push_cast, ↓capI, br2_true, br2_false, frk_tt, frk_tf, frk_f, frkD_tt, frkD_tf, frkD_f, pk2_true, pk2_false, imp_true, seval, Nat.reduceLeDiff, Nat.reduceEqDiff, reduceCtorEq, ↓reduceIte, cfg0, st_N, os_N, st_I, os_I, st_M, os_M, slM_nil, cfgT, slN, encN, fmN, fm0, len_flat lenN, ones_N, take_N]
  refine endK.gn (Gn.freeze (id := 0) rfl) ?_; refine endK.ret ?_ (by first | rfl | simp [fmN, fm0, belN, bel_Ns, bel_slN, bel_slM, bel_MI, bel_slI, belAll_append]); simp [fmN, fm0, belN, bel_Ns, bel_slN, bel_slM, bel_MI, bel_slI, belAll_append, fzs_ok, imp, lenOK_iff, List.take_of_length_le, evRes, getT, getO, setO, fzs, fz, fzH, Nat.beq, retV, Res.then, ldT, ldR, mkV, getV, cfg0, st_N, os_N, st_I, os_I, st_M, os_M, slM_nil, Tryd.f25,  slN, op0, encN, fmN, fm0]
  exact ⟨List.take_of_length_le (by simp [len_flat lenN]; omega), by omega⟩
theorem pc23 (l : List Nd) : PC Tryd.prog 23 [slN l] (.bool (decide (l.length ≤ 6 ∧ checkP 1000000000 l = 0))) := by
  by_cases h : l.length ≤ 6
  · have h11 := pc11 1000000000 l (by omega)
    by_cases hc : checkP 1000000000 l = 0
    · rw [hc] at h11
      rw [decide_eq_true ⟨h, hc⟩]
      refine PC.walk tok mixed cfg0 Tryd.func23 rfl Tryd.call23 (by simp [fmN, fm0, belN, bel_Ns, bel_slN, bel_slM, bel_MI, bel_slI, belAll_append]) (by first | rfl | simp [fmN, fm0, belN, bel_Ns, bel_slN, bel_slM, bel_MI, bel_slI, belAll_append]) ?_; simp (maxSteps := 2000000) -implicitDefEqProofs +contextual (disch := first | assumption | omega | decide +kernel) only [push_cast, ↓capI, br2_true, br2_false, frk_tt, frk_tf, frk_f, frkD_tt, frkD_tf, frkD_f, pk2_true, pk2_false, imp_true, seval, Nat.reduceLeDiff, Nat.reduceEqDiff, reduceCtorEq, ↓reduceIte, cfg0, st_N, os_N, st_I, os_I, st_M, os_M, slM_nil, Tryd.ntmps23]
      simp (maxSteps := 2000000) -implicitDefEqProofs +contextual (disch := first | assumption | omega | decide +kernel) only [push_cast, ↓capI, br2_true, br2_false, frk_tt, frk_tf, frk_f, frkD_tt, frkD_tf, frkD_f, pk2_true, pk2_false, imp_true, seval, Nat.reduceLeDiff, Nat.reduceEqDiff, reduceCtorEq, ↓reduceIte, cfg0, st_N, os_N, st_I, os_I, st_M, os_M, slM_nil, slN, h]
      refine callO.pc h11 ?_
      simp (maxSteps := 2000000) -implicitDefEqProofs +contextual (disch := first | assumption | omega | decide +kernel) only [push_cast, ↓capI, br2_true, br2_false, frk_tt, frk_tf, frk_f, frkD_tt, frkD_tf, frkD_f, pk2_true, pk2_false, imp_true, seval, Nat.reduceLeDiff, Nat.reduceEqDiff, reduceCtorEq, ↓reduceIte, cfg0, st_N, os_N, st_I, os_I, st_M, os_M, slM_nil]
      refine endK.ret ?_ (by first | rfl | simp [fmN, fm0, belN, bel_Ns, bel_slN, bel_slM, bel_MI, bel_slI, belAll_append]); simp [evRes, getT, retV, Tryd.f23]
    · rw [decide_eq_false (fun g => hc g.2)]
      refine PC.walk tok mixed cfg0 Tryd.func23 rfl Tryd.call23 (by simp [fmN, fm0, belN, bel_Ns, bel_slN, bel_slM, bel_MI, bel_slI, belAll_append]) (by first | rfl | simp [fmN, fm0, belN, bel_Ns, bel_slN, bel_slM, bel_MI, bel_slI, belAll_append]) ?_; simp (maxSteps := 2000000) -implicitDefEqProofs +contextual (disch := first | assumption | omega | decide +kernel) only [push_cast, ↓capI, br2_true, br2_false, frk_tt, frk_tf, frk_f, frkD_tt, frkD_tf, frkD_f, pk2_true, pk2_false, imp_true, seval, Nat.reduceLeDiff, Nat.reduceEqDiff, reduceCtorEq, ↓reduceIte, cfg0, st_N, os_N, st_I, os_I, st_M, os_M, slM_nil, Tryd.ntmps23]
      simp (maxSteps := 2000000) -implicitDefEqProofs +contextual (disch := first | assumption | omega | decide +kernel) only [push_cast, ↓capI, br2_true, br2_false, frk_tt, frk_tf, frk_f, frkD_tt, frkD_tf, frkD_f, pk2_true, pk2_false, imp_true, seval, Nat.reduceLeDiff, Nat.reduceEqDiff, reduceCtorEq, ↓reduceIte, cfg0, st_N, os_N, st_I, os_I, st_M, os_M, slM_nil, slN, h]
      refine callO.pc h11 ?_
      simp (maxSteps := 2000000) -implicitDefEqProofs +contextual (disch := first | assumption | omega | decide +kernel) only [push_cast, ↓capI, br2_true, br2_false, frk_tt, frk_tf, frk_f, frkD_tt, frkD_tf, frkD_f, pk2_true, pk2_false, imp_true, seval, Nat.reduceLeDiff, Nat.reduceEqDiff, reduceCtorEq, ↓reduceIte, cfg0, st_N, os_N, st_I, os_I, st_M, os_M, slM_nil, hc]
      refine endK.ret ?_ (by first | rfl | simp [fmN, fm0, belN, bel_Ns, bel_slN, bel_slM, bel_MI, bel_slI, belAll_append]); simp [evRes, getT, retV, Tryd.f23]
  · rw [decide_eq_false (fun g => h g.1)]
    refine PC.walk tok mixed cfg0 Tryd.func23 rfl Tryd.call23 (by simp [fmN, fm0, belN, bel_Ns, bel_slN, bel_slM, bel_MI, bel_slI, belAll_append]) (by first | rfl | simp [fmN, fm0, belN, bel_Ns, bel_slN, bel_slM, bel_MI, bel_slI, belAll_append]) ?_; simp (maxSteps := 2000000) -implicitDefEqProofs +contextual (disch := first | assumption | omega | decide +kernel) only [push_cast, ↓capI, br2_true, br2_false, frk_tt, frk_tf, frk_f, frkD_tt, frkD_tf, frkD_f, pk2_true, pk2_false, imp_true, seval, Nat.reduceLeDiff, Nat.reduceEqDiff, reduceCtorEq, ↓reduceIte, cfg0, st_N, os_N, st_I, os_I, st_M, os_M, slM_nil, Tryd.ntmps23]
    simp (maxSteps := 2000000) -implicitDefEqProofs +contextual (disch := first | assumption | omega | decide +kernel) only [push_cast, ↓capI, br2_true, br2_false, frk_tt, frk_tf, frk_f, frkD_tt, frkD_tf, frkD_f, pk2_true, pk2_false, imp_true, seval, Nat.reduceLeDiff, Nat.reduceEqDiff, reduceCtorEq, ↓reduceIte, cfg0, st_N, os_N, st_I, os_I, st_M, os_M, slM_nil, slN, h]
    refine endK.ret ?_ (by first | rfl | simp [fmN, fm0, belN, bel_Ns, bel_slN, bel_slM, bel_MI, bel_slI, belAll_append]); simp [evRes, getT, retV, Tryd.f23]
theorem pc10 : PC Tryd.prog 10 [] (.bool true) := by
  have hl : n0.length ≤ 4000000 := by decide
  have hl1 : n1.length ≤ 4000000 := by decide
  have e0 : (V.sl false [.int .i64 4, .int .i64 0, .int .i64 3, .int .i64 3, .int .i64 6, .int .i64 0, .int .i64 2, .int .i64 0] 4) = slN n0 := rfl
  have e1 : (V.sl false [.int .i64 5, .int .i64 0, .int .i64 1, .int .i64 0, .int .i64 3, .int .i64 2] 3) = slN n1 := rfl
  have e2 : (V.sl false [.int .i64 3, .int .i64 7, .int .i64 7] 3) = slI [3, 7, 7] := rfl
  have eM : slM n0 = slN n0 := slM_cons (by decide)
  have h17 := pc17 n0 hl s0 0 ⟨chk0.symm, .inl ⟨chk0, p0, ok0, rfl, by decide, tx0.symm⟩⟩
  have h19 := pc19 s0
  rw [par0, encMI] at h19
  simp only [eM] at h19
  have h19a := pc19 [40, 51, 41]
  rw [par1, encMI] at h19a
  have h19b := pc19 [48, 51]
  rw [par2, encMI] at h19b
  have h13a := pc13 n1 hl1 _ (.inl ⟨chk1', p1, ok1, rfl, by decide, rfl⟩)
  rw [lng1, encIB] at h13a
  have h13b := pc13 n0 hl _ (.inl ⟨chk0, p0, ok0, rfl, by decide, rfl⟩)
  rw [lng0, encIB] at h13b
  have h22 := pc22 n0 hl
  have h15a := pc15 n0 [3, 7, 7] hl (by decide)
  rw [mt0] at h15a
  have h15b := pc15 n0 [] hl (by decide)
  rw [mt1] at h15b
  have h15c : PC Tryd.prog 15 [slN n0, .sl true [] 0] (.bool false) := by
    refine PC.lax ?_
    exact h15b
  have h11 := pc11 3 n0 hl
  rw [chk3] at h11
  unfold s0 at h17 h19
  refine PC.walk tok mixed cfg0 Tryd.func10 rfl Tryd.call10 (by simp [fmN, fm0, belN, bel_Ns, bel_slN, bel_slM, bel_MI, bel_slI, belAll_append]) (by first | rfl | simp [fmN, fm0, belN, bel_Ns, bel_slN, bel_slM, bel_MI, bel_slI, belAll_append]) ?_; simp (maxSteps := 2000000) -implicitDefEqProofs +contextual (disch := first | assumption | omega | decide +kernel) only [push_cast, ↓capI, br2_true, br2_false, frk_tt, frk_tf, frk_f, frkD_tt, frkD_tf, frkD_f, pk2_true, pk2_false, imp_true, seval, Nat.reduceLeDiff, Nat.reduceEqDiff, reduceCtorEq, ↓reduceIte, cfg0, st_N, os_N, st_I, os_I, st_M, os_M, slM_nil, Tryd.ntmps10]
  simp (maxSteps := 2000000) -implicitDefEqProofs +contextual (disch := first | assumption | omega | decide +kernel) only [push_cast, ↓capI, br2_true, br2_false, frk_tt, frk_tf, frk_f, frkD_tt, frkD_tf, frkD_f, pk2_true, pk2_false, imp_true, seval, Nat.reduceLeDiff, Nat.reduceEqDiff, reduceCtorEq, ↓reduceIte, cfg0, st_N, os_N, st_I, os_I, st_M, os_M, slM_nil, e0]
  refine callO.pc h17 ?_
  simp (maxSteps := 2000000) -implicitDefEqProofs +contextual (disch := first | assumption | omega | decide +kernel) only [push_cast, ↓capI, br2_true, br2_false, frk_tt, frk_tf, frk_f, frkD_tt, frkD_tf, frkD_f, pk2_true, pk2_false, imp_true, seval, Nat.reduceLeDiff, Nat.reduceEqDiff, reduceCtorEq, ↓reduceIte, cfg0, st_N, os_N, st_I, os_I, st_M, os_M, slM_nil]
  refine callO.pc h19 ?_
  simp (maxSteps := 2000000) -implicitDefEqProofs +contextual (disch := first | assumption | omega | decide +kernel) only [push_cast, ↓capI, br2_true, br2_false, frk_tt, frk_tf, frk_f, frkD_tt, frkD_tf, frkD_f, pk2_true, pk2_false, imp_true, seval, Nat.reduceLeDiff, Nat.reduceEqDiff, reduceCtorEq, ↓reduceIte, cfg0, st_N, os_N, st_I, os_I, st_M, os_M, slM_nil]
  refine callO.pc h19a ?_
  simp (maxSteps := 2000000) -implicitDefEqProofs +contextual (disch := first | assumption | omega | decide +kernel) only [push_cast, ↓capI, br2_true, br2_false, frk_tt, frk_tf, frk_f, frkD_tt, frkD_tf, frkD_f, pk2_true, pk2_false, imp_true, seval, Nat.reduceLeDiff, Nat.reduceEqDiff, reduceCtorEq, ↓reduceIte, cfg0, st_N, os_N, st_I, os_I, st_M, os_M, slM_nil]
  refine callO.pc h19b ?_
  simp (maxSteps := 2000000) -implicitDefEqProofs +contextual (disch := first | assumption | omega | decide +kernel) only [push_cast, ↓capI, br2_true, br2_false, frk_tt, frk_tf, frk_f, frkD_tt, frkD_tf, frkD_f, pk2_true, pk2_false, imp_true, seval, Nat.reduceLeDiff, Nat.reduceEqDiff, reduceCtorEq, ↓reduceIte, cfg0, st_N, os_N, st_I, os_I, st_M, os_M, slM_nil, e1]
  refine callO.pc h13a ?_
  simp (maxSteps := 2000000) -implicitDefEqProofs +contextual (disch := first | assumption | omega | decide +kernel) only [push_cast, ↓capI, br2_true, br2_false, frk_tt, frk_tf, frk_f, frkD_tt, frkD_tf, frkD_f, pk2_true, pk2_false, imp_true, seval, Nat.reduceLeDiff, Nat.reduceEqDiff, reduceCtorEq, ↓reduceIte, cfg0, st_N, os_N, st_I, os_I, st_M, os_M, slM_nil]
  refine callO.pc h13b ?_
  simp (maxSteps := 2000000) -implicitDefEqProofs +contextual (disch := first | assumption | omega | decide +kernel) only [push_cast, ↓capI, br2_true, br2_false, frk_tt, frk_tf, frk_f, frkD_tt, frkD_tf, frkD_f, pk2_true, pk2_false, imp_true, seval, Nat.reduceLeDiff, Nat.reduceEqDiff, reduceCtorEq, ↓reduceIte, cfg0, st_N, os_N, st_I, os_I, st_M, os_M, slM_nil]
  refine callO.pc h22 ?_
  simp (maxSteps := 2000000) -implicitDefEqProofs +contextual (disch := first | assumption | omega | decide +kernel) only [push_cast, ↓capI, br2_true, br2_false, frk_tt, frk_tf, frk_f, frkD_tt, frkD_tf, frkD_f, pk2_true, pk2_false, imp_true, seval, Nat.reduceLeDiff, Nat.reduceEqDiff, reduceCtorEq, ↓reduceIte, cfg0, st_N, os_N, st_I, os_I, st_M, os_M, slM_nil, e2]
  refine callO.pc h15a ?_
  simp (maxSteps := 2000000) -implicitDefEqProofs +contextual (disch := first | assumption | omega | decide +kernel) only [push_cast, ↓capI, br2_true, br2_false, frk_tt, frk_tf, frk_f, frkD_tt, frkD_tf, frkD_f, pk2_true, pk2_false, imp_true, seval, Nat.reduceLeDiff, Nat.reduceEqDiff, reduceCtorEq, ↓reduceIte, cfg0, st_N, os_N, st_I, os_I, st_M, os_M, slM_nil]
  refine callO.pc h15c ?_
  simp (maxSteps := 2000000) -implicitDefEqProofs +contextual (disch := first | assumption | omega | decide +kernel) only [push_cast, ↓capI, br2_true, br2_false, frk_tt, frk_tf, frk_f, frkD_tt, frkD_tf, frkD_f, pk2_true, pk2_false, imp_true, seval, Nat.reduceLeDiff, Nat.reduceEqDiff, reduceCtorEq, ↓reduceIte, cfg0, st_N, os_N, st_I, os_I, st_M, os_M, slM_nil]
  refine callO.pc h11 ?_
  simp (maxSteps := 2000000) -implicitDefEqProofs +contextual (disch := first | assumption | omega | decide +kernel) only [push_cast, ↓capI, br2_true, br2_false, frk_tt, frk_tf, frk_f, frkD_tt, frkD_tf, frkD_f, pk2_true, pk2_false, imp_true, seval, Nat.reduceLeDiff, Nat.reduceEqDiff, reduceCtorEq, ↓reduceIte, cfg0, st_N, os_N, st_I, os_I, st_M, os_M, slM_nil]
  refine endK.ret ?_ (by first | rfl | simp [fmN, fm0, belN, bel_Ns, bel_slN, bel_slM, bel_MI, bel_slI, belAll_append]); simp [evRes, getT, retV, Tryd.f10]
end Go.Proofs.YtginpkchjeooeaaDoor

/- Chapter 41: the arguments of the laws as plain data; from a contract to a statement. -/
set_option maxRecDepth 100000
set_option maxHeartbeats 4000000
set_option linter.all false
namespace Go.Proofs.YtginpkchjeooeaaDoor
open Go.Vm Go.ChangeShapes Go.WideShapes Go.ChangeAt Go.RowKit

theorem own : ownKnob Tryd.prog.godebug = none := by kernel_rfl
theorem laidOut : laidOutB Tryd.prog = true := by kernel_rfl
theorem typ_I {m : Nat} (c : List V) (h : Typ tt (m + 1) 3 c) : ∃ x : Int, laxs c = [.int .i64 x] ∧ True := by
  obtain ⟨a, rfl, _⟩ := typ_int (by rw [tt_3]) h
  exact ⟨a, rfl, trivial⟩
theorem typ_N {m : Nat} (c : List V) (h : Typ tt (m + 2) 45 c) : ∃ x : Nd, laxs c = encN x ∧ True := by
  have h := typ_struct (by rw [tt_45]) h
  obtain ⟨c1, r1, rfl, h1, h⟩ := typF_cons h
  obtain ⟨c2, r2, rfl, h2, h⟩ := typF_cons h
  obtain rfl := typF_nil h
  obtain ⟨a, ha, _⟩ := typ_I _ h1
  obtain ⟨b, hb, _⟩ := typ_I _ h2
  refine ⟨⟨a, b⟩, ?_, trivial⟩
  rw [laxs_append, laxs_append, ha, hb]
  rfl
theorem laxs_one {cs : List V} {y : V} (h : laxs cs = [y]) : ∃ x, cs = [x] ∧ lax x = y := by
  match cs, h with
  | [], h => cases h
  | [x], h => simp only [laxs, List.cons.injEq, and_true] at h; exact ⟨x, rfl, h⟩
  | x :: y :: r, h => simp [laxs] at h
theorem typ_slN {m : Nat} {c : List V} (h : Typ tt (m + 3) 22 c) : ∃ l : List Nd, lax (mkV (tt 22) c) = slN l := by
  obtain ⟨l, hl, _, _⟩ := typ_slice (by rw [tt_22]) typ_N h
  obtain ⟨x, rfl, hx⟩ := laxs_one hl
  refine ⟨l, ?_⟩
  rw [tt_22]
  exact hx
theorem flatI (l : List Int) : l.flatMap (fun x => [V.int .i64 x]) = l.map (V.int .i64 ·) := flatMap_one l
theorem typ_slI {m : Nat} {c : List V} (h : Typ tt (m + 2) 27 c) : ∃ l : List Int, lax (mkV (tt 27) c) = slI l := by
  obtain ⟨l, hl, _, _⟩ := typ_slice (by rw [tt_27]) typ_I h
  obtain ⟨x, rfl, hx⟩ := laxs_one hl
  refine ⟨l, ?_⟩
  rw [tt_27]
  rw [flatI] at hx
  exact hx
theorem typ_S {m : Nat} {c : List V} (h : Typ tt (m + 1) 9 c) : ∃ s : List UInt8, lax (mkV (tt 9) c) = .str s := by
  obtain ⟨s, rfl, _⟩ := typ_str (by rw [tt_9]) h
  exact ⟨s, by rw [tt_9]; rfl⟩
theorem typ_J {m : Nat} {c : List V} (h : Typ tt (m + 1) 3 c) : ∃ x : Int, lax (mkV (tt 3) c) = .int .i64 x := by
  obtain ⟨a, rfl, _⟩ := typ_int (by rw [tt_3]) h
  exact ⟨a, by rw [tt_3]; rfl⟩
theorem spec_one {s : ChangeSpec} {H : Type} (h : s.fn H = fun | [d] => { results := [.lit (.bool true)], args := [d] } | _ => Rows.none) (ds : List (DataW H)) (hl : ds.length = 1) :
    s.fn H ds = { results := [.lit (.bool true)], args := ds } := by
  rw [h]
  match ds, hl with
  | [d], _ => rfl
theorem spec_two {s : ChangeSpec} {H : Type} (h : s.fn H = fun | [d, e] => { results := [.lit (.bool true)], args := [d, e] } | _ => Rows.none) (ds : List (DataW H)) (hl : ds.length = 2) :
    s.fn H ds = { results := [.lit (.bool true)], args := ds } := by
  rw [h]
  match ds, hl with
  | [d, e], _ => rfl
theorem spec_three {s : ChangeSpec} {H : Type} (h : s.fn H = fun | [d, e, f] => { results := [.lit (.bool true)], args := [d, e, f] } | _ => Rows.none) (ds : List (DataW H)) (hl : ds.length = 3) :
    s.fn H ds = { results := [.lit (.bool true)], args := ds } := by
  rw [h]
  match ds, hl with
  | [d, e, f], _ => rfl
end Go.Proofs.YtginpkchjeooeaaDoor

/- Chapter 41: the listed package-level variables; from a contract to a given statement. -/
set_option maxRecDepth 100000
set_option maxHeartbeats 4000000
set_option linter.all false
namespace Go.Proofs.YtginpkchjeooeaaDoor
open Go Go.Vm Go.ChangeShapes Go.WideShapes Go.ChangeAt Go.RowKit

abbrev LL : List (String × DataW Unit) := Rows.pathexprChecksRow.laid
theorem gPow : Tryd.prog.globalNamed "internal/strconv.uint64pow10" = some 0 := by kernel_rfl
theorem tPow : (Tryd.prog.globals[0]?).map (·.type) = some 123 := by kernel_rfl
theorem gFirst : Tryd.prog.globalNamed "unicode/utf8.first" = some 3 := by kernel_rfl
theorem gt_of_laid {W : World} (h : laidMetH Tryd.prog LL W) : GT (fun _ => False) W := by
  rw [MakeChecks.laidMetH_plain _ _ _ (by kernel_rfl)] at h
  obtain ⟨g', t', cs, fuel, p, hg', ht', hvar, hd⟩ := Lib.laidMet.reads h (n := "internal/strconv.uint64pow10") (d := Rows.laid_internal_strconv_uint64pow10) (by simp [LL, Rows.pathexprChecksRow])
  obtain rfl := Option.some.inj (gPow.symm.trans hg')
  obtain rfl := Option.some.inj (tPow.symm.trans ht')
  have hc := Lib.cells_of_tab (k := .u64) (zs := [1, 10, 100, 1000, 10000, 100000, 1000000, 10000000, 100000000, 1000000000, 10000000000, 100000000000, 1000000000000, 10000000000000, 100000000000000, 1000000000000000, 10000000000000000, 100000000000000000, 1000000000000000000, 10000000000000000000])
    (show Tryd.prog.underlying 123 = some (.array 20 91) by kernel_rfl) (show Tryd.prog.underlying 91 = some (.int .u64) by kernel_rfl) (by kernel_rfl) (by kernel_rfl) hd
  have hcell := World.var?_cell hg' hvar
  intro g l hgl
  have h0 : g = 0 ∧ l = [(.u64, 1), (.u64, 10), (.u64, 100), (.u64, 1000), (.u64, 10000), (.u64, 100000), (.u64, 1000000), (.u64, 10000000), (.u64, 100000000), (.u64, 1000000000), (.u64, 10000000000), (.u64, 100000000000), (.u64, 1000000000000), (.u64, 10000000000000), (.u64, 100000000000000), (.u64, 1000000000000000), (.u64, 10000000000000000), (.u64, 100000000000000000), (.u64, 1000000000000000000), (.u64, 10000000000000000000)] := by
    match g, hgl with
    | 0, hgl => rw [gl0] at hgl; exact ⟨rfl, (Option.some.inj hgl).symm⟩
    | g + 1, hgl => cases hgl
  obtain ⟨rfl, rfl⟩ := h0
  have hcs : CellsAt W 0 0 cs.toList := by
    intro i v hv
    rw [Nat.zero_add, hcell i, ← hv, Array.getElem?_toList]
  refine ⟨?_, fun h => h, ?_⟩
  · have h1 := hcell 0
    have h2 : cs[0]? = some (.int .u64 1) := by rw [← Array.getElem?_toList, hc]; rfl
    rw [h2] at h1
    apply Decidable.byContradiction
    intro hn
    unfold World.cell? at h1
    rw [Array.getElem?_eq_none (by omega)] at h1
    cases h1
  · rw [hc] at hcs
    exact hcs
noncomputable def laidWorld (os : Os) : World :=
  { World.doorLaid Tryd.prog 34 os with heap := (World.doorLaid Tryd.prog 34 os).heap.modify 3 fun
      | .cells _ t frozen => .cells (Pinned.utf8FirstZ.map fun (n : Nat) => Value.int .u8 n).toArray t frozen
      | o => o }
theorem door_met (os : Os) (args : Array Value) : laidMetH Tryd.prog LL ((laidWorld os).forCall (fun _ _ => 0) ⟨#[], args, []⟩).memory :=
  laidMetH_of_parts3 (fuel := 8) (laidMet_of_run' 8 (by kernel_rfl) (by kernel_rfl)) (by kernel_rfl) (by kernel_rfl)
end Go.Proofs.YtginpkchjeooeaaDoor


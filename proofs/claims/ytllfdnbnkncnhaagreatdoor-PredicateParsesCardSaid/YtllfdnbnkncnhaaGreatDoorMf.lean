/-
  Joined by a program from the texts Rnum Rnum2 Rprn Rprl Rprm Rpar L4.
-/
import Derived.Test.YtllfdnbnkncnhaaGreatDoorMd
import Derived.Test.YtllfdnbnkncnhaaGreatDoorMc
import Derived.Test.YtllfdnbnkncnhaaGreatDoorMe
/- Chapter 44: numbers read by the reference. -/
set_option maxRecDepth 100000
set_option maxHeartbeats 4000000
set_option linter.all false
namespace Go.Proofs.YtllfdnbnkncnhaaGreatDoor
open Go.Vm

def decR (s : List UInt8) : Nat × Bool := if s.length < 1 ∨ 9 < s.length then (0, false) else match valL s 0 with
  | some v => (v, true)
  | none => (0, false)
def encDR (r : Nat × Bool) : V := .tup [.int .u64 r.1, .bool r.2]
theorem bel_encDR {n : Nat} {r : Nat × Bool} : (encDR r).bel n = true := rfl
theorem bel_encIB {n : Nat} {r : Int × Bool} : (encIB r).bel n = true := rfl
/-- the decimal digits of a number, for k digits at most -/
def dgs : Nat → Nat → List UInt8
  | 0, _ => []
  | k + 1, n => if n < 10 then [UInt8.ofNat (48 + n)] else dgs k (n / 10) ++ [UInt8.ofNat (48 + n % 10)]
theorem dgs_len : ∀ k n, (dgs k n).length ≤ k
  | 0, _ => Nat.le_refl _
  | k + 1, n => by
    rw [dgs]
    split
    · simp
    · have := dgs_len k (n / 10)
      rw [List.length_append, List.length_singleton]
      omega
theorem pc64a (n : Nat) (hn : n < 10) : PC Tryz.prog 64 [.int .u64 n] (.str [UInt8.ofNat (48 + n)]) := by
  have hn2 : (n : Int) < 10 := by omega
  refine PC.walk tok mixed cfg0 Tryz.func64 rfl Tryz.call64 (by simp [bel_encDR, bel_encIB]) (by first | rfl | simp [bel_encDR, bel_encIB]) ?_; simp (config := { maxSteps := 2000000 }) -implicitDefEqProofs +contextual (disch := first | assumption | omega | decide +kernel) only [push_cast, ↓capI, br2_true, br2_false, frk_tt, frk_tf, frk_f, frkD_tt, frkD_tf, frkD_f, pk2_true, pk2_false, imp_true, seval, Nat.reduceLeDiff, Nat.reduceEqDiff, reduceCtorEq, ↓reduceIte, reduceCtorEq, cfg0, take_rest, ibeq_dec, Tryz.ntmps64]
  have t1 : ((48 : Int) + (n : Int)).toNat = 48 + n := by omega
  refine endK.ret ?_ (by first | rfl | simp [bel_encDR, bel_encIB]); simp [evRes, getT, retV, Tryz.f64,  hn, t1]
theorem pc64g : ∀ (k n : Nat), n < 10 ^ k → 1 ≤ k → k ≤ 12 → PC Tryz.prog 64 [.int .u64 n] (.str (dgs k n))
  | 0, _, _, h, _ => absurd h (by decide)
  | k + 1, n, hn, _, hk => by
    rw [dgs]
    by_cases h : n < 10
    · rw [if_pos h]
      exact pc64a n h
    rw [if_neg h]
    have hk1 : 1 ≤ k := by
      apply Decidable.byContradiction
      intro h0
      have : k = 0 := by omega
      subst this
      simp at hn
      omega
    have hp : 10 ^ (k + 1) ≤ 10 ^ 12 := Nat.pow_le_pow_right (by decide) hk
    have hn12 : n < 1000000000000 := Nat.lt_of_lt_of_le hn hp
    have ih := pc64g k (n / 10) (by rw [Nat.pow_succ] at hn; omega) hk1 (by omega)
    have hl := dgs_len k (n / 10)
    have hn2 : ¬ (n : Int) < 10 := by omega
    have e1 : IntKind.u64.wrap ((n : Int).tdiv 10) = ((n / 10 : Nat) : Int) := by
      rw [Int.tdiv_eq_ediv_of_nonneg (by omega)]
      exact IntWalk.u64_in _ ⟨by omega, by omega⟩
    have e2 : (n : Int).tmod 10 = ((n % 10 : Nat) : Int) := by rw [Int.tmod_eq_emod_of_nonneg (by omega)]; omega
    refine PC.walk tok mixed cfg0 Tryz.func64 rfl Tryz.call64 (by simp [bel_encDR, bel_encIB]) (by first | rfl | simp [bel_encDR, bel_encIB]) ?_; simp (config := { maxSteps := 2000000 }) -implicitDefEqProofs +contextual (disch := first | assumption | omega | decide +kernel) only [push_cast, ↓capI, br2_true, br2_false, frk_tt, frk_tf, frk_f, frkD_tt, frkD_tf, frkD_f, pk2_true, pk2_false, imp_true, seval, Nat.reduceLeDiff, Nat.reduceEqDiff, reduceCtorEq, ↓reduceIte, reduceCtorEq, cfg0, take_rest, ibeq_dec, Tryz.ntmps64]
    rw [e1]
    refine callO.pc ih ?_
    simp (config := { maxSteps := 2000000 }) -implicitDefEqProofs +contextual (disch := first | assumption | omega | decide +kernel) only [push_cast, ↓capI, br2_true, br2_false, frk_tt, frk_tf, frk_f, frkD_tt, frkD_tf, frkD_f, pk2_true, pk2_false, imp_true, seval, Nat.reduceLeDiff, Nat.reduceEqDiff, reduceCtorEq, ↓reduceIte, reduceCtorEq, cfg0, take_rest, ibeq_dec, e2]
    refine callO.pc (pc64a (n % 10) (by omega)) ?_
    simp (config := { maxSteps := 2000000 }) -implicitDefEqProofs +contextual (disch := first | assumption | omega | decide +kernel) only [push_cast, ↓capI, br2_true, br2_false, frk_tt, frk_tf, frk_f, frkD_tt, frkD_tf, frkD_f, pk2_true, pk2_false, imp_true, seval, Nat.reduceLeDiff, Nat.reduceEqDiff, reduceCtorEq, ↓reduceIte, reduceCtorEq, cfg0, take_rest, ibeq_dec]
    (try refine ⟨by (try simp only [List.length_append, List.length_cons, List.length_nil]); omega, fun _ => ?_⟩)
    refine endK.ret ?_ (by first | rfl | simp [bel_encDR, bel_encIB]); simp [evRes, getT, retV, Tryz.f64]
theorem pc50g (n : Nat) (hn : n < 1000000000) : PC Tryz.prog 50 [.int .i64 n] (.str (dgs 9 n)) := by
  have h0 : (0 : Int) ≤ (n : Int) := by omega
  refine PC.walk tok mixed cfg0 Tryz.func50 rfl Tryz.call50 (by simp [bel_encDR, bel_encIB]) (by first | rfl | simp [bel_encDR, bel_encIB]) ?_; simp (config := { maxSteps := 2000000 }) -implicitDefEqProofs +contextual (disch := first | assumption | omega | decide +kernel) only [push_cast, ↓capI, br2_true, br2_false, frk_tt, frk_tf, frk_f, frkD_tt, frkD_tf, frkD_f, pk2_true, pk2_false, imp_true, seval, Nat.reduceLeDiff, Nat.reduceEqDiff, reduceCtorEq, ↓reduceIte, reduceCtorEq, cfg0, take_rest, ibeq_dec, Tryz.ntmps50]
  refine callO.pc (pc64g 9 n hn (by decide) (by decide)) ?_
  simp (config := { maxSteps := 2000000 }) -implicitDefEqProofs +contextual (disch := first | assumption | omega | decide +kernel) only [push_cast, ↓capI, br2_true, br2_false, frk_tt, frk_tf, frk_f, frkD_tt, frkD_tf, frkD_f, pk2_true, pk2_false, imp_true, seval, Nat.reduceLeDiff, Nat.reduceEqDiff, reduceCtorEq, ↓reduceIte, reduceCtorEq, cfg0, take_rest, ibeq_dec]
  refine endK.ret ?_ (by first | rfl | simp [bel_encDR, bel_encIB]); simp [evRes, getT, retV, Tryz.f50]
theorem pc109 (s : List UInt8) (hs : s.length ≤ 4000000000) : PC Tryz.prog 109 [.str s, .int .i64 9] (encDR (decR s)) := by
  by_cases h : s.length < 1 ∨ 9 < s.length
  · have e : decR s = (0, false) := by rw [decR, if_pos h]
    rw [e]
    rcases h with h | h
    · refine PC.walk tok mixed cfg0 Tryz.func109 rfl Tryz.call109 (by simp [bel_encDR, bel_encIB]) (by first | rfl | simp [bel_encDR, bel_encIB]) ?_; simp (config := { maxSteps := 2000000 }) -implicitDefEqProofs +contextual (disch := first | assumption | omega | decide +kernel) only [push_cast, ↓capI, br2_true, br2_false, frk_tt, frk_tf, frk_f, frkD_tt, frkD_tf, frkD_f, pk2_true, pk2_false, imp_true, seval, Nat.reduceLeDiff, Nat.reduceEqDiff, reduceCtorEq, ↓reduceIte, reduceCtorEq, cfg0, take_rest, ibeq_dec, Tryz.ntmps109]
      (try simp (config := { maxSteps := 2000000 }) -implicitDefEqProofs +contextual (disch := first | assumption | omega | decide +kernel) only [push_cast, ↓capI, br2_true, br2_false, frk_tt, frk_tf, frk_f, frkD_tt, frkD_tf, frkD_f, pk2_true, pk2_false, imp_true, seval, Nat.reduceLeDiff, Nat.reduceEqDiff, reduceCtorEq, ↓reduceIte, reduceCtorEq, cfg0, take_rest, ibeq_dec, h])
      refine endK.ret ?_ (by first | rfl | simp [bel_encDR, bel_encIB]); simp [evRes, getT, retV, Tryz.f109,  encDR]
    · have h1 : ¬ s.length < 1 := by omega
      refine PC.walk tok mixed cfg0 Tryz.func109 rfl Tryz.call109 (by simp [bel_encDR, bel_encIB]) (by first | rfl | simp [bel_encDR, bel_encIB]) ?_; simp (config := { maxSteps := 2000000 }) -implicitDefEqProofs +contextual (disch := first | assumption | omega | decide +kernel) only [push_cast, ↓capI, br2_true, br2_false, frk_tt, frk_tf, frk_f, frkD_tt, frkD_tf, frkD_f, pk2_true, pk2_false, imp_true, seval, Nat.reduceLeDiff, Nat.reduceEqDiff, reduceCtorEq, ↓reduceIte, reduceCtorEq, cfg0, take_rest, ibeq_dec, Tryz.ntmps109]
      (try simp (config := { maxSteps := 2000000 }) -implicitDefEqProofs +contextual (disch := first | assumption | omega | decide +kernel) only [push_cast, ↓capI, br2_true, br2_false, frk_tt, frk_tf, frk_f, frkD_tt, frkD_tf, frkD_f, pk2_true, pk2_false, imp_true, seval, Nat.reduceLeDiff, Nat.reduceEqDiff, reduceCtorEq, ↓reduceIte, reduceCtorEq, cfg0, take_rest, ibeq_dec, h, h1])
      refine endK.ret ?_ (by first | rfl | simp [bel_encDR, bel_encIB]); simp [evRes, getT, retV, Tryz.f109,  encDR]
  have e : decR s = match valL s 0 with | some v => (v, true) | none => (0, false) := by rw [decR, if_neg h]
  rw [e]
  have h1 : ¬ s.length < 1 := by omega
  have h9 : ¬ 9 < s.length := by omega
  refine PC.walk tok mixed cfg0 Tryz.func109 rfl Tryz.call109 (by simp [bel_encDR, bel_encIB]) (by first | rfl | simp [bel_encDR, bel_encIB]) ?_; simp (config := { maxSteps := 2000000 }) -implicitDefEqProofs +contextual (disch := first | assumption | omega | decide +kernel) only [push_cast, ↓capI, br2_true, br2_false, frk_tt, frk_tf, frk_f, frkD_tt, frkD_tf, frkD_f, pk2_true, pk2_false, imp_true, seval, Nat.reduceLeDiff, Nat.reduceEqDiff, reduceCtorEq, ↓reduceIte, reduceCtorEq, cfg0, take_rest, ibeq_dec, Tryz.ntmps109]
  (try simp (config := { maxSteps := 2000000 }) -implicitDefEqProofs +contextual (disch := first | assumption | omega | decide +kernel) only [push_cast, ↓capI, br2_true, br2_false, frk_tt, frk_tf, frk_f, frkD_tt, frkD_tf, frkD_f, pk2_true, pk2_false, imp_true, seval, Nat.reduceLeDiff, Nat.reduceEqDiff, reduceCtorEq, ↓reduceIte, reduceCtorEq, cfg0, take_rest, ibeq_dec, h1, h9])
  refine T.lp tok mixed cfg0 (fun ((i, v) : Nat × Nat) => kp 1 (dd 5 (sv (.int .u64 (v : Int)) (sv (.int .i64 i) (dd 34 (nl)))))) (fun H0 ((i, v) : Nat × Nat) => H0) (fun ((i, v) : Nat × Nat) => i ≤ s.length ∧ v < 10 ^ i ∧ valL (s.drop i) v = valL s 0) (fun ((i, v) : Nat × Nat) => s.length - i) ((0, 0)) ?_ ?_ ?_
  · exact ⟨Nat.zero_le _, by simp, rfl⟩
  · exact Gn.canon (J := []) (by first | rfl | (simp [List.append_nil]; done) | (simp [List.append_nil]; rfl)) (by simp [wk, putT, kp, dd, sv, nl]) (by simp [List.length_append]) (by simp [bel_encDR, bel_encIB, kp, dd, sv, nl]) (by simp [bel_encDR, bel_encIB])
  rintro ⟨i, v⟩ ⟨hi, hv, hr⟩
  have hv9 : v < 1000000000 := Nat.lt_of_lt_of_le hv (Nat.pow_le_pow_right (by omega) (by omega : i ≤ 9))
  by_cases hlt : i < s.length
  case neg =>
    rw [List.drop_of_length_le (by omega), valL] at hr
    rw [← hr]
    simp (config := { maxSteps := 2000000 }) -implicitDefEqProofs +contextual (disch := first | assumption | omega | decide +kernel) only [push_cast, ↓capI, br2_true, br2_false, frk_tt, frk_tf, frk_f, frkD_tt, frkD_tf, frkD_f, pk2_true, pk2_false, imp_true, seval, Nat.reduceLeDiff, Nat.reduceEqDiff, reduceCtorEq, ↓reduceIte, reduceCtorEq, cfg0, take_rest, ibeq_dec]
    refine endK.ret ?_ (by first | rfl | simp [bel_encDR, bel_encIB]); simp [evRes, getT, retV, Tryz.f109,  encDR]
  rw [List.drop_eq_getElem_cons hlt, valL] at hr
  have hgd : s.getD i 0 = s[i] := by rw [List.getD_eq_getElem?_getD, List.getElem?_eq_getElem hlt]; rfl
  have hb := s[i].toNat_lt
  cases hd : isDig s[i]
  case false =>
    rw [hd, if_neg (by simp)] at hr
    rw [← hr]
    simp only [isDig, Bool.and_eq_false_iff, decide_eq_false_iff_not] at hd
    by_cases h48 : s[i].toNat < 48
    · simp (config := { maxSteps := 2000000 }) -implicitDefEqProofs +contextual (disch := first | assumption | omega | decide +kernel) only [push_cast, ↓capI, br2_true, br2_false, frk_tt, frk_tf, frk_f, frkD_tt, frkD_tf, frkD_f, pk2_true, pk2_false, imp_true, seval, Nat.reduceLeDiff, Nat.reduceEqDiff, reduceCtorEq, ↓reduceIte, reduceCtorEq, cfg0, take_rest, ibeq_dec, hgd, h48]
      refine endK.ret ?_ (by first | rfl | simp [bel_encDR, bel_encIB]); simp [evRes, getT, retV, Tryz.f109,  encDR]
    · have h57 : 57 < s[i].toNat := by omega
      simp (config := { maxSteps := 2000000 }) -implicitDefEqProofs +contextual (disch := first | assumption | omega | decide +kernel) only [push_cast, ↓capI, br2_true, br2_false, frk_tt, frk_tf, frk_f, frkD_tt, frkD_tf, frkD_f, pk2_true, pk2_false, imp_true, seval, Nat.reduceLeDiff, Nat.reduceEqDiff, reduceCtorEq, ↓reduceIte, reduceCtorEq, cfg0, take_rest, ibeq_dec, hgd, h48, h57]
      refine endK.ret ?_ (by first | rfl | simp [bel_encDR, bel_encIB]); simp [evRes, getT, retV, Tryz.f109,  encDR]
  rw [hd, if_pos rfl] at hr
  simp only [isDig, Bool.and_eq_true, decide_eq_true_eq] at hd
  have h48 : ¬ s[i].toNat < 48 := by omega
  have h57 : ¬ 57 < s[i].toNat := by omega
  have hc : ((s[i].toNat : Int) - 48) = ((s[i].toNat - 48 : Nat) : Int) := by omega
  have hp : v * 10 + (s[i].toNat - 48) < 10 ^ (i + 1) := by
    rw [Nat.pow_succ]
    omega
  have hc9 : s[i].toNat - 48 ≤ 9 := by omega
  have hm : (10 : Int) * (v : Int) = ((v * 10 : Nat) : Int) := by omega
  simp (config := { maxSteps := 2000000 }) -implicitDefEqProofs +contextual (disch := first | assumption | omega | decide +kernel) only [push_cast, ↓capI, br2_true, br2_false, frk_tt, frk_tf, frk_f, frkD_tt, frkD_tf, frkD_f, pk2_true, pk2_false, imp_true, seval, Nat.reduceLeDiff, Nat.reduceEqDiff, reduceCtorEq, ↓reduceIte, reduceCtorEq, cfg0, take_rest, ibeq_dec, hgd, h48, h57]
  generalize s[i].toNat - 48 = c at hr hc hp hc9
  rw [hc]
  have hq : (10 : Int) * (v : Int) + (c : Int) = (v : Int) * 10 + (c : Int) := by omega
  refine ⟨(i + 1, v * 10 + c), ⟨by simp only; omega, hp, hr⟩, by (try simp only); omega, ?_⟩; exact Gn.canon (by first | rfl | (simp [List.append_nil, hq]; rfl)) (by simp [wk, hq]) (by simp [List.length_append]) (by simp [bel_encDR, bel_encIB]) (by simp [bel_encDR, bel_encIB])
end Go.Proofs.YtllfdnbnkncnhaaGreatDoor

/- Chapter 44: the reference's reading of a decimal number agrees with the program's. -/
set_option maxRecDepth 100000
set_option maxHeartbeats 4000000
set_option linter.all false
namespace Go.Proofs.YtllfdnbnkncnhaaGreatDoor
open Go.Vm

theorem valL_app : ∀ (a b : List UInt8) (v : Nat), valL (a ++ b) v = (valL a v).bind (valL b)
  | [], b, v => rfl
  | c :: a, b, v => by
    rw [List.cons_append, valL, valL]
    by_cases h : isDig c = true
    · rw [if_pos h, if_pos h, valL_app a b]
    · rw [if_neg h, if_neg h]; rfl
theorem valL_all : ∀ {d : List UInt8} (v : Nat), (∀ c, c ∈ d → isDig c = true) → ∃ r, valL d v = some r ∧ v ≤ r
  | [], v, _ => ⟨v, rfl, Nat.le_refl _⟩
  | c :: d, v, h => by
    rw [valL, if_pos (h c (List.mem_cons_self ..))]
    obtain ⟨r, h1, h2⟩ := valL_all (v * 10 + (c.toNat - 48)) (fun c hc => h c (List.mem_cons_of_mem _ hc))
    exact ⟨r, h1, by omega⟩
theorem dig_range {c : UInt8} (h : isDig c = true) : 48 ≤ c.toNat ∧ c.toNat ≤ 57 := by
  simpa only [isDig, Bool.and_eq_true, decide_eq_true_eq] using h
theorem dgs_val : ∀ (k : Nat) (d : List UInt8) (v : Nat), d ≠ [] → d.length ≤ k → (∀ c, c ∈ d → isDig c = true) → canonD d = true → valL d 0 = some v → dgs k v = d
  | 0, d, v, h, hl, _, _, _ => absurd (List.length_eq_zero_iff.1 (Nat.le_zero.1 hl)) h
  | k + 1, d, v, h, hl, hd, hc, hv => by
    obtain ⟨e, c, rfl⟩ : ∃ e c, d = e ++ [c] := ⟨d.dropLast, d.getLast h, (List.dropLast_concat_getLast h).symm⟩
    have hcd := dig_range (hd c (by simp))
    rw [List.length_append, List.length_singleton] at hl
    obtain ⟨u, hu, _⟩ := valL_all (d := e) 0 (fun x hx => hd x (by simp [hx]))
    have e1 : v = u * 10 + (c.toNat - 48) := by
      rw [valL_app, hu] at hv
      simp only [Option.bind_some] at hv
      rw [valL, if_pos (hd c (by simp)), valL] at hv
      exact (Option.some.inj hv).symm
    cases e with
    | nil =>
      rw [valL] at hu
      have hu0 := Option.some.inj hu
      have hv10 : v < 10 := by omega
      rw [dgs, if_pos hv10, List.nil_append]
      congr 1
      apply UInt8.toNat_inj.1
      rw [UInt8.toNat_ofNat']
      omega
    | cons x e =>
      have hx := dig_range (hd x (by simp))
      have hx48 : x.toNat ≠ 48 := by
        simp only [canonD, List.cons_append, List.length_cons, List.length_append, List.length_singleton, Bool.or_eq_true, decide_eq_true_eq, Bool.and_eq_true, List.getD_cons_zero, bne_iff_ne] at hc
        rcases hc with hc | hc
        · omega
        · have := hc.2
          omega
      obtain ⟨w, hw, hge⟩ := valL_all (d := e) (0 * 10 + (x.toNat - 48)) (fun y hy => hd y (by simp [hy]))
      have hu1 : 1 ≤ u := by
        rw [valL, if_pos (hd x (by simp)), hw] at hu
        have := Option.some.inj hu
        omega
      have hcan : canonD (x :: e) = true := by
        simp only [canonD, Bool.or_eq_true, decide_eq_true_eq, Bool.and_eq_true, List.getD_cons_zero, bne_iff_ne]
        exact .inr ⟨List.cons_ne_nil _ _, by omega⟩
      have ih := dgs_val k (x :: e) u (List.cons_ne_nil _ _) (by omega) (fun y hy => hd y (by rw [List.mem_append]; exact .inl hy)) hcan hu
      rw [dgs, if_neg (by omega), show v / 10 = u by omega, ih]
      congr 2
      apply UInt8.toNat_inj.1
      rw [UInt8.toNat_ofNat']
      omega
theorem dgs_head : ∀ k v, v < 10 ^ k → 1 ≤ k → dgs k v ≠ [] ∧ ((dgs k v).length = 1 ∨ ((dgs k v).getD 0 0).toNat ≠ 48) ∧ (1 ≤ v → ((dgs k v).getD 0 0).toNat ≠ 48)
  | 0, _, _, h => absurd h (by decide)
  | k + 1, v, hv, _ => by
    rw [dgs]
    by_cases h : v < 10
    · rw [if_pos h]
      refine ⟨List.cons_ne_nil _ _, .inl rfl, fun h1 => ?_⟩
      rw [List.getD_cons_zero, UInt8.toNat_ofNat']
      omega
    · rw [if_neg h]
      have hk1 : 1 ≤ k := by
        apply Decidable.byContradiction
        intro h0
        have : k = 0 := by omega
        subst this
        simp at hv
        omega
      obtain ⟨i1, _, i3⟩ := dgs_head k (v / 10) (by rw [Nat.pow_succ] at hv; omega) hk1
      have i3 := i3 (by omega)
      cases hq : dgs k (v / 10) with
      | nil => exact absurd hq i1
      | cons y l =>
        rw [hq, List.getD_cons_zero] at i3
        exact ⟨List.cons_ne_nil _ _, .inr i3, fun _ => i3⟩
theorem dgs_canon (v : Nat) (hv : v < 1000000000) : canonD (dgs 9 v) = true := by
  obtain ⟨h1, h2, _⟩ := dgs_head 9 v hv (by decide)
  simp only [canonD, Bool.or_eq_true, decide_eq_true_eq, Bool.and_eq_true, bne_iff_ne]
  rcases h2 with h | h
  · exact .inl h
  · exact .inr ⟨h1, by omega⟩
theorem pc96 (d : List UInt8) (hs : d.length ≤ 4000000000) (hd : ∀ c, c ∈ d → isDig c = true) : PC Tryz.prog 96 [.str d] (encIB (parseI d)) := by
  have hnm := no_minus hd
  have h109 := pc109 d hs
  obtain ⟨v, hv, _⟩ := valL_all (d := d) 0 hd
  have ep : parseI d = if 9 < d.length ∨ canonD d = false then (0, false) else ((v : Int), true) := by
    rw [parseI, if_neg (by rw [hnm]; simp), hv]
  have ed : decR d = if d.length < 1 ∨ 9 < d.length then (0, false) else (v, true) := by
    rw [decR, hv]
  have h45 : ∀ h : 0 < d.length, ¬ ((d.getD 0 0).toNat : Int) = 45 := by
    intro h
    cases d with
    | nil => cases h
    | cons x d =>
      have := dig_range (hd x (List.mem_cons_self ..))
      rw [List.getD_cons_zero]
      omega
  rw [ep]
  by_cases hl : d.length < 1 ∨ 9 < d.length
  · have e2 : (9 < d.length ∨ canonD d = false) := by
      rcases hl with h | h
      · right
        have : d = [] := List.length_eq_zero_iff.1 (by omega)
        rw [this]
        rfl
      · exact .inl h
    rw [if_pos e2]
    rw [ed, if_pos hl] at h109
    by_cases h0 : 0 < d.length
    · have h45 := h45 h0
      refine PC.walk tok mixed cfg0 Tryz.func96 rfl Tryz.call96 (by simp [bel_encDR, bel_encIB]) (by first | rfl | simp [bel_encDR, bel_encIB]) ?_; simp (config := { maxSteps := 2000000 }) -implicitDefEqProofs +contextual (disch := first | assumption | omega | decide +kernel) only [push_cast, ↓capI, br2_true, br2_false, frk_tt, frk_tf, frk_f, frkD_tt, frkD_tf, frkD_f, pk2_true, pk2_false, imp_true, seval, Nat.reduceLeDiff, Nat.reduceEqDiff, reduceCtorEq, ↓reduceIte, reduceCtorEq, cfg0, take_rest, ibeq_dec, encDR, Tryz.ntmps96]
      (try simp (config := { maxSteps := 2000000 }) -implicitDefEqProofs +contextual (disch := first | assumption | omega | decide +kernel) only [push_cast, ↓capI, br2_true, br2_false, frk_tt, frk_tf, frk_f, frkD_tt, frkD_tf, frkD_f, pk2_true, pk2_false, imp_true, seval, Nat.reduceLeDiff, Nat.reduceEqDiff, reduceCtorEq, ↓reduceIte, reduceCtorEq, cfg0, take_rest, ibeq_dec, encDR, h0, h45])
      refine callO.pc h109 ?_
      simp (config := { maxSteps := 2000000 }) -implicitDefEqProofs +contextual (disch := first | assumption | omega | decide +kernel) only [push_cast, ↓capI, br2_true, br2_false, frk_tt, frk_tf, frk_f, frkD_tt, frkD_tf, frkD_f, pk2_true, pk2_false, imp_true, seval, Nat.reduceLeDiff, Nat.reduceEqDiff, reduceCtorEq, ↓reduceIte, reduceCtorEq, cfg0, take_rest, ibeq_dec, encDR]
      refine endK.ret ?_ (by first | rfl | simp [bel_encDR, bel_encIB]); simp [evRes, getT, retV, Tryz.f96,  encIB]
    · refine PC.walk tok mixed cfg0 Tryz.func96 rfl Tryz.call96 (by simp [bel_encDR, bel_encIB]) (by first | rfl | simp [bel_encDR, bel_encIB]) ?_; simp (config := { maxSteps := 2000000 }) -implicitDefEqProofs +contextual (disch := first | assumption | omega | decide +kernel) only [push_cast, ↓capI, br2_true, br2_false, frk_tt, frk_tf, frk_f, frkD_tt, frkD_tf, frkD_f, pk2_true, pk2_false, imp_true, seval, Nat.reduceLeDiff, Nat.reduceEqDiff, reduceCtorEq, ↓reduceIte, reduceCtorEq, cfg0, take_rest, ibeq_dec, encDR, Tryz.ntmps96]
      (try simp (config := { maxSteps := 2000000 }) -implicitDefEqProofs +contextual (disch := first | assumption | omega | decide +kernel) only [push_cast, ↓capI, br2_true, br2_false, frk_tt, frk_tf, frk_f, frkD_tt, frkD_tf, frkD_f, pk2_true, pk2_false, imp_true, seval, Nat.reduceLeDiff, Nat.reduceEqDiff, reduceCtorEq, ↓reduceIte, reduceCtorEq, cfg0, take_rest, ibeq_dec, encDR, h0])
      refine callO.pc h109 ?_
      simp (config := { maxSteps := 2000000 }) -implicitDefEqProofs +contextual (disch := first | assumption | omega | decide +kernel) only [push_cast, ↓capI, br2_true, br2_false, frk_tt, frk_tf, frk_f, frkD_tt, frkD_tf, frkD_f, pk2_true, pk2_false, imp_true, seval, Nat.reduceLeDiff, Nat.reduceEqDiff, reduceCtorEq, ↓reduceIte, reduceCtorEq, cfg0, take_rest, ibeq_dec, encDR]
      refine endK.ret ?_ (by first | rfl | simp [bel_encDR, bel_encIB]); simp [evRes, getT, retV, Tryz.f96,  encIB]
  rw [ed, if_neg hl] at h109
  have h0 : 0 < d.length := by omega
  have h45 := h45 h0
  have hv9 : v < 1000000000 := by
    have := valL_lt hv
    have hp : 10 ^ d.length ≤ 10 ^ 9 := Nat.pow_le_pow_right (by omega) (by omega)
    omega
  have h50 := pc50g v hv9
  have hne : d ≠ [] := fun e => by rw [e] at h0; cases h0
  cases hc : canonD d
  · rw [if_pos (.inr rfl)]
    have hn : ¬ dgs 9 v = d := by
      intro e
      rw [← e, dgs_canon v hv9] at hc
      cases hc
    refine PC.walk tok mixed cfg0 Tryz.func96 rfl Tryz.call96 (by simp [bel_encDR, bel_encIB]) (by first | rfl | simp [bel_encDR, bel_encIB]) ?_; simp (config := { maxSteps := 2000000 }) -implicitDefEqProofs +contextual (disch := first | assumption | omega | decide +kernel) only [push_cast, ↓capI, br2_true, br2_false, frk_tt, frk_tf, frk_f, frkD_tt, frkD_tf, frkD_f, pk2_true, pk2_false, imp_true, seval, Nat.reduceLeDiff, Nat.reduceEqDiff, reduceCtorEq, ↓reduceIte, reduceCtorEq, cfg0, take_rest, ibeq_dec, encDR, Tryz.ntmps96]
    (try simp (config := { maxSteps := 2000000 }) -implicitDefEqProofs +contextual (disch := first | assumption | omega | decide +kernel) only [push_cast, ↓capI, br2_true, br2_false, frk_tt, frk_tf, frk_f, frkD_tt, frkD_tf, frkD_f, pk2_true, pk2_false, imp_true, seval, Nat.reduceLeDiff, Nat.reduceEqDiff, reduceCtorEq, ↓reduceIte, reduceCtorEq, cfg0, take_rest, ibeq_dec, encDR, h0, h45])
    refine callO.pc h109 ?_
    simp (config := { maxSteps := 2000000 }) -implicitDefEqProofs +contextual (disch := first | assumption | omega | decide +kernel) only [push_cast, ↓capI, br2_true, br2_false, frk_tt, frk_tf, frk_f, frkD_tt, frkD_tf, frkD_f, pk2_true, pk2_false, imp_true, seval, Nat.reduceLeDiff, Nat.reduceEqDiff, reduceCtorEq, ↓reduceIte, reduceCtorEq, cfg0, take_rest, ibeq_dec, encDR]
    refine callO.pc h50 ?_
    simp (config := { maxSteps := 2000000 }) -implicitDefEqProofs +contextual (disch := first | assumption | omega | decide +kernel) only [push_cast, ↓capI, br2_true, br2_false, frk_tt, frk_tf, frk_f, frkD_tt, frkD_tf, frkD_f, pk2_true, pk2_false, imp_true, seval, Nat.reduceLeDiff, Nat.reduceEqDiff, reduceCtorEq, ↓reduceIte, reduceCtorEq, cfg0, take_rest, ibeq_dec, encDR, hn]
    refine endK.ret ?_ (by first | rfl | simp [bel_encDR, bel_encIB]); simp [evRes, getT, retV, Tryz.f96,  encIB]
  · rw [if_neg (fun g => g.elim (fun h => by omega) (fun h => by cases h))]
    have he : dgs 9 v = d := dgs_val 9 d v hne (by omega) hd hc hv
    refine PC.walk tok mixed cfg0 Tryz.func96 rfl Tryz.call96 (by simp [bel_encDR, bel_encIB]) (by first | rfl | simp [bel_encDR, bel_encIB]) ?_; simp (config := { maxSteps := 2000000 }) -implicitDefEqProofs +contextual (disch := first | assumption | omega | decide +kernel) only [push_cast, ↓capI, br2_true, br2_false, frk_tt, frk_tf, frk_f, frkD_tt, frkD_tf, frkD_f, pk2_true, pk2_false, imp_true, seval, Nat.reduceLeDiff, Nat.reduceEqDiff, reduceCtorEq, ↓reduceIte, reduceCtorEq, cfg0, take_rest, ibeq_dec, encDR, Tryz.ntmps96]
    (try simp (config := { maxSteps := 2000000 }) -implicitDefEqProofs +contextual (disch := first | assumption | omega | decide +kernel) only [push_cast, ↓capI, br2_true, br2_false, frk_tt, frk_tf, frk_f, frkD_tt, frkD_tf, frkD_f, pk2_true, pk2_false, imp_true, seval, Nat.reduceLeDiff, Nat.reduceEqDiff, reduceCtorEq, ↓reduceIte, reduceCtorEq, cfg0, take_rest, ibeq_dec, encDR, h0, h45])
    refine callO.pc h109 ?_
    simp (config := { maxSteps := 2000000 }) -implicitDefEqProofs +contextual (disch := first | assumption | omega | decide +kernel) only [push_cast, ↓capI, br2_true, br2_false, frk_tt, frk_tf, frk_f, frkD_tt, frkD_tf, frkD_f, pk2_true, pk2_false, imp_true, seval, Nat.reduceLeDiff, Nat.reduceEqDiff, reduceCtorEq, ↓reduceIte, reduceCtorEq, cfg0, take_rest, ibeq_dec, encDR]
    refine callO.pc h50 ?_
    simp (config := { maxSteps := 2000000 }) -implicitDefEqProofs +contextual (disch := first | assumption | omega | decide +kernel) only [push_cast, ↓capI, br2_true, br2_false, frk_tt, frk_tf, frk_f, frkD_tt, frkD_tf, frkD_f, pk2_true, pk2_false, imp_true, seval, Nat.reduceLeDiff, Nat.reduceEqDiff, reduceCtorEq, ↓reduceIte, reduceCtorEq, cfg0, take_rest, ibeq_dec, encDR, he]
    refine endK.ret ?_ (by first | rfl | simp [bel_encDR, bel_encIB]); simp [evRes, getT, retV, Tryz.f96,  encIB]
end Go.Proofs.YtllfdnbnkncnhaaGreatDoor

/- Chapter 44: the reference's parser: numbers and tests. -/
set_option maxRecDepth 100000
set_option maxHeartbeats 4000000
set_option linter.all false
namespace Go.Proofs.YtllfdnbnkncnhaaGreatDoor
open Go.Vm

def okN (s : List UInt8) : Bool := (parseI (digs s)).2 && decide ((parseI (digs s)).1 ≤ 255)
def encNR (s : List UInt8) : V := .tup [.int .i64 (parseI (digs s)).1, .str (dropD s), .bool (okN s)]
theorem bel_NR {n : Nat} {s : List UInt8} : (encNR s).bel n = true := rfl
/-- a parsed text of the reference -/
def encPR (l : List Nd) (r : List UInt8) (ok : Bool) : V := .agg [slM l, .str r, .bool ok]
theorem bel_PR {n : Nat} {l : List Nd} {r : List UInt8} {ok : Bool} : (encPR l r ok).bel n = true := by simp [encPR, bel_agg, belAll_cons, belAll_nil, bel_slM]
def AnsR (F : Nat) (xs : List V) (s : List UInt8) (R : PR) : Prop :=
  ∃ (l : List Nd) (r : List UInt8), PC Tryz.prog F xs (encPR l r R.isSome) ∧ l.length + r.length ≤ s.length ∧ ∀ p t, R = some (p, t) → l = flat p ∧ r = t
theorem pc47 (s p : List UInt8) : PC Tryz.prog 47 [.str s, .str p] (.bool (begins s p)) := by
  refine PC.walk tok mixed cfg0 Tryz.func47 rfl Tryz.call47 (by simp [bel_encDR, bel_encIB, bel_NR, bel_PR, bel_slM, bel_slN, belN]) (by first | rfl | simp [bel_encDR, bel_encIB, bel_NR, bel_PR, bel_slM, bel_slN, belN]) ?_; simp (config := { maxSteps := 2000000 }) -implicitDefEqProofs +contextual (disch := first | assumption | omega | decide +kernel) only [push_cast, ↓capI, br2_true, br2_false, frk_tt, frk_tf, frk_f, frkD_tt, frkD_tf, frkD_f, pk2_true, pk2_false, imp_true, seval, Nat.reduceLeDiff, Nat.reduceEqDiff, reduceCtorEq, ↓reduceIte, reduceCtorEq, fmN, fm0, take_N, toN1, slN_nil, cfg0, take_rest, ibeq_dec, encN, slN, Tryz.ntmps47]
  refine ⟨fun h => ?_, fun h => ?_⟩
  · refine endK.ret ?_ (by first | rfl | simp [bel_encDR, bel_encIB, bel_NR, bel_PR, bel_slM, bel_slN, belN]); simp [evRes, getT, retV, Tryz.f47,  begins, h]
  · refine endK.ret ?_ (by first | rfl | simp [bel_encDR, bel_encIB, bel_NR, bel_PR, bel_slM, bel_slN, belN]); simp [evRes, getT, retV, Tryz.f47,  begins, h]
theorem digs_get : ∀ {s : List UInt8} {i : Nat}, i < (digs s).length → ∃ h : i < s.length, isDig s[i] = true
  | [], i, h => by cases h
  | c :: s, i, h => by
    rw [digs, List.takeWhile_cons] at h
    cases hc : isDig c
    · rw [hc, if_neg (by simp)] at h; cases h
    · rw [hc, if_pos rfl, List.length_cons] at h
      cases i with
      | zero => exact ⟨Nat.succ_pos _, hc⟩
      | succ i =>
        obtain ⟨h1, h2⟩ := digs_get (s := s) (i := i) (Nat.lt_of_succ_lt_succ h)
        exact ⟨Nat.succ_lt_succ h1, h2⟩
theorem digs_end : ∀ {s : List UInt8} (h : (digs s).length < s.length), isDig s[(digs s).length] = false
  | [], h => by cases h
  | c :: s, h => by
    cases hc : isDig c
    · have e : digs (c :: s) = [] := by rw [digs, List.takeWhile_cons, if_neg (by rw [hc]; simp)]
      simp only [e, List.length_nil, List.getElem_cons_zero]
      exact hc
    · have e : digs (c :: s) = c :: digs s := by rw [digs, List.takeWhile_cons, if_pos hc]; rfl
      rw [e, List.length_cons, List.length_cons] at h
      have ih := digs_end (s := s) (Nat.lt_of_succ_lt_succ h)
      simp only [e, List.length_cons, List.getElem_cons_succ]
      exact ih
theorem pc86 (s : List UInt8) (hs : s.length ≤ 4000000000) : PC Tryz.prog 86 [.str s] (encNR s) := by
  have hl := dropD_len s
  have hlen : s.length - (dropD s).length = (digs s).length := by omega
  have ht := (take_digs s).1
  have hd := (take_digs s).2
  rw [hlen] at ht hd
  have h96 := pc96 (digs s) (by omega) (digs_all s)
  have hg := fun i => @digs_get s i
  have he := @digs_end s
  rw [encIB] at h96
  have hkl : (digs s).length ≤ s.length := by omega
  unfold encNR okN
  generalize parseI (digs s) = r at h96 ⊢
  generalize hdd : dropD s = q at hd hl ⊢
  generalize digs s = d at *
  generalize hk : d.length = k at *
  have hql : min s.length (s.length - k) = s.length - k := by omega
  have hqt : q.take (s.length - k) = q := List.take_of_length_le (by omega)
  refine PC.walk tok mixed cfg0 Tryz.func86 rfl Tryz.call86 (by simp [bel_encDR, bel_encIB, bel_NR, bel_PR, bel_slM, bel_slN, belN]) (by first | rfl | simp [bel_encDR, bel_encIB, bel_NR, bel_PR, bel_slM, bel_slN, belN]) ?_; simp (config := { maxSteps := 2000000 }) -implicitDefEqProofs +contextual (disch := first | assumption | omega | decide +kernel) only [push_cast, ↓capI, br2_true, br2_false, frk_tt, frk_tf, frk_f, frkD_tt, frkD_tf, frkD_f, pk2_true, pk2_false, imp_true, seval, Nat.reduceLeDiff, Nat.reduceEqDiff, reduceCtorEq, ↓reduceIte, reduceCtorEq, fmN, fm0, take_N, toN1, slN_nil, cfg0, take_rest, ibeq_dec, encN, slN, Tryz.ntmps86]
  refine T.lp tok mixed cfg0 (fun (i : Nat) => kp 1 (dd 4 (sv (.int .i64 i) (dd 36 (nl))))) (fun H0 (i : Nat) => H0) (fun (i : Nat) => i ≤ k) (fun (i : Nat) => k - i) (0) ?_ ?_ ?_
  · exact Nat.zero_le _
  · exact Gn.canon (J := []) (by first | rfl | (simp [List.append_nil]; done) | (simp [List.append_nil]; rfl)) (by simp [wk, slN, putT, kp, dd, sv, nl]) (by simp [List.length_append]) (by simp [bel_encDR, bel_encIB, bel_NR, bel_PR, bel_slM, bel_slN, belN, kp, dd, sv, nl]) (by simp [bel_encDR, bel_encIB, bel_NR, bel_PR, bel_slM, bel_slN, belN])
  intro i hi
  by_cases hlt : i < k
  · obtain ⟨h1, h2⟩ := hg i hlt
    have hgd : s.getD i 0 = s[i] := by rw [List.getD_eq_getElem?_getD, List.getElem?_eq_getElem h1]; rfl
    obtain ⟨h48, h57⟩ := dig_range h2
    simp (config := { maxSteps := 2000000 }) -implicitDefEqProofs +contextual (disch := first | assumption | omega | decide +kernel) only [push_cast, ↓capI, br2_true, br2_false, frk_tt, frk_tf, frk_f, frkD_tt, frkD_tf, frkD_f, pk2_true, pk2_false, imp_true, seval, Nat.reduceLeDiff, Nat.reduceEqDiff, reduceCtorEq, ↓reduceIte, reduceCtorEq, fmN, fm0, take_N, toN1, slN_nil, cfg0, take_rest, ibeq_dec, encN, slN, h1, hgd, h48, h57]
    refine ⟨i + 1, by omega, by (try simp only); omega, ?_⟩; exact Gn.canon (by first | rfl | (simp [List.append_nil]; rfl)) (by simp [wk, slN]) (by simp [List.length_append]) (by simp [bel_encDR, bel_encIB, bel_NR, bel_PR, bel_slM, bel_slN, belN]) (by simp [bel_encDR, bel_encIB, bel_NR, bel_PR, bel_slM, bel_slN, belN])
  have hik : i = k := by omega
  subst hik
  by_cases h1 : i < s.length
  · have h2 := he h1
    have hgd : s.getD i 0 = s[i] := by rw [List.getD_eq_getElem?_getD, List.getElem?_eq_getElem h1]; rfl
    have hb := s[i].toNat_lt
    simp only [isDig, Bool.and_eq_false_iff, decide_eq_false_iff_not] at h2
    by_cases h48 : 48 ≤ s[i].toNat
    · have h57 : ¬ s[i].toNat ≤ 57 := by omega
      simp (config := { maxSteps := 2000000 }) -implicitDefEqProofs +contextual (disch := first | assumption | omega | decide +kernel) only [push_cast, ↓capI, br2_true, br2_false, frk_tt, frk_tf, frk_f, frkD_tt, frkD_tf, frkD_f, pk2_true, pk2_false, imp_true, seval, Nat.reduceLeDiff, Nat.reduceEqDiff, reduceCtorEq, ↓reduceIte, reduceCtorEq, fmN, fm0, take_N, toN1, slN_nil, cfg0, take_rest, ibeq_dec, encN, slN, h1, hgd, h48, h57]
      refine callO.pc (by rw [Nat.sub_zero, ht]; exact h96) ?_
      simp (config := { maxSteps := 2000000 }) -implicitDefEqProofs +contextual (disch := first | assumption | omega | decide +kernel) only [push_cast, ↓capI, br2_true, br2_false, frk_tt, frk_tf, frk_f, frkD_tt, frkD_tf, frkD_f, pk2_true, pk2_false, imp_true, seval, Nat.reduceLeDiff, Nat.reduceEqDiff, reduceCtorEq, ↓reduceIte, reduceCtorEq, fmN, fm0, take_N, toN1, slN_nil, cfg0, take_rest, ibeq_dec, encN, slN, hd, hqt]
      refine ⟨fun h => ?_, fun h => ?_⟩
      · refine endK.ret ?_ (by first | rfl | simp [bel_encDR, bel_encIB, bel_NR, bel_PR, bel_slM, bel_slN, belN]); simp [evRes, getT, retV, Tryz.f86]
      · refine endK.ret ?_ (by first | rfl | simp [bel_encDR, bel_encIB, bel_NR, bel_PR, bel_slM, bel_slN, belN]); simp [evRes, getT, retV, Tryz.f86]
    · simp (config := { maxSteps := 2000000 }) -implicitDefEqProofs +contextual (disch := first | assumption | omega | decide +kernel) only [push_cast, ↓capI, br2_true, br2_false, frk_tt, frk_tf, frk_f, frkD_tt, frkD_tf, frkD_f, pk2_true, pk2_false, imp_true, seval, Nat.reduceLeDiff, Nat.reduceEqDiff, reduceCtorEq, ↓reduceIte, reduceCtorEq, fmN, fm0, take_N, toN1, slN_nil, cfg0, take_rest, ibeq_dec, encN, slN, h1, hgd, h48]
      refine callO.pc (by rw [Nat.sub_zero, ht]; exact h96) ?_
      simp (config := { maxSteps := 2000000 }) -implicitDefEqProofs +contextual (disch := first | assumption | omega | decide +kernel) only [push_cast, ↓capI, br2_true, br2_false, frk_tt, frk_tf, frk_f, frkD_tt, frkD_tf, frkD_f, pk2_true, pk2_false, imp_true, seval, Nat.reduceLeDiff, Nat.reduceEqDiff, reduceCtorEq, ↓reduceIte, reduceCtorEq, fmN, fm0, take_N, toN1, slN_nil, cfg0, take_rest, ibeq_dec, encN, slN, hd, hqt]
      refine ⟨fun h => ?_, fun h => ?_⟩
      · refine endK.ret ?_ (by first | rfl | simp [bel_encDR, bel_encIB, bel_NR, bel_PR, bel_slM, bel_slN, belN]); simp [evRes, getT, retV, Tryz.f86]
      · refine endK.ret ?_ (by first | rfl | simp [bel_encDR, bel_encIB, bel_NR, bel_PR, bel_slM, bel_slN, belN]); simp [evRes, getT, retV, Tryz.f86]
  · simp (config := { maxSteps := 2000000 }) -implicitDefEqProofs +contextual (disch := first | assumption | omega | decide +kernel) only [push_cast, ↓capI, br2_true, br2_false, frk_tt, frk_tf, frk_f, frkD_tt, frkD_tf, frkD_f, pk2_true, pk2_false, imp_true, seval, Nat.reduceLeDiff, Nat.reduceEqDiff, reduceCtorEq, ↓reduceIte, reduceCtorEq, fmN, fm0, take_N, toN1, slN_nil, cfg0, take_rest, ibeq_dec, encN, slN, h1]
    refine callO.pc (by rw [Nat.sub_zero, ht]; exact h96) ?_
    simp (config := { maxSteps := 2000000 }) -implicitDefEqProofs +contextual (disch := first | assumption | omega | decide +kernel) only [push_cast, ↓capI, br2_true, br2_false, frk_tt, frk_tf, frk_f, frkD_tt, frkD_tf, frkD_f, pk2_true, pk2_false, imp_true, seval, Nat.reduceLeDiff, Nat.reduceEqDiff, reduceCtorEq, ↓reduceIte, reduceCtorEq, fmN, fm0, take_N, toN1, slN_nil, cfg0, take_rest, ibeq_dec, encN, slN, hd, hqt]
    refine ⟨fun h => ?_, fun h => ?_⟩
    · refine endK.ret ?_ (by first | rfl | simp [bel_encDR, bel_encIB, bel_NR, bel_PR, bel_slM, bel_slN, belN]); simp [evRes, getT, retV, Tryz.f86]
    · refine endK.ret ?_ (by first | rfl | simp [bel_encDR, bel_encIB, bel_NR, bel_PR, bel_slM, bel_slN, belN]); simp [evRes, getT, retV, Tryz.f86]
theorem andself (v m : UInt8) : (ibits BinOp.and IntKind.u8 v.toNat m.toNat = v.toNat) = (v &&& ~~~ m = 0) := by
  rw [and8, eq8]
  exact propext (and_self_iff8 v m)
theorem and255s (v : UInt8) : (ibits BinOp.and IntKind.u8 v.toNat 255 = v.toNat) = True := by
  have h := andself v 255
  rw [show ((255 : UInt8).toNat : Int) = 255 from rfl] at h
  rw [h]
  exact eq_true UInt8.and_zero
theorem pc74r (i : Int) (s : List UInt8) (hs : s.length ≤ 100000) : ∃ (l : List Nd) (r : List UInt8), PC Tryz.prog 74 [.int .i64 i, .str s] (encPR l r (pTest i s).isSome) ∧ l.length ≤ 1 ∧ r.length ≤ s.length ∧ ∀ p t, pTest i s = some (p, t) → l = flat p ∧ r = t := by
  have h1 := dropD_len s
  have h2 := dropD_len ((dropD s).drop 1)
  rw [List.length_drop] at h2
  have g1 := pc86 s (by omega)
  have g3 := pc86 ((dropD s).drop 1) (by rw [List.length_drop]; omega)
  have g2 := pc47 (dropD s) [47]
  have n1 := parseI_nn (no_minus (digs_all s))
  have n3 := parseI_nn (no_minus (digs_all ((dropD s).drop 1)))
  rw [encNR] at g1 g3
  have e1 : pnum s = if okN s = true then some (UInt8.ofNat (parseI (digs s)).1.toNat) else none := by
    rw [pnum, okN]
    simp only [Bool.and_eq_true, decide_eq_true_eq]
  have e3 : pnum ((dropD s).drop 1) = if okN ((dropD s).drop 1) = true then some (UInt8.ofNat (parseI (digs ((dropD s).drop 1))).1.toNat) else none := by
    rw [pnum, okN]
    simp only [Bool.and_eq_true, decide_eq_true_eq]
  obtain ⟨a, ha⟩ : ∃ a : Nat, (parseI (digs s)).1 = (a : Int) := ⟨_, (Int.toNat_of_nonneg n1).symm⟩
  obtain ⟨b, hb⟩ : ∃ b : Nat, (parseI (digs ((dropD s).drop 1))).1 = (b : Int) := ⟨_, (Int.toNat_of_nonneg n3).symm⟩
  rw [ha, Int.toNat_natCast] at e1
  rw [hb, Int.toNat_natCast] at e3
  rw [ha] at g1
  rw [hb] at g3
  have wa := u8W a
  have wb := u8W b
  rw [pTest, e1]
  cases hv : okN s
  · rw [hv] at g1
    rw [if_neg (by simp)]
    refine ⟨[⟨3, i, UInt8.ofNat a, 255⟩], dropD s, ?_, by simp, by omega, fun p t e => by cases e⟩
    refine PC.walk tok mixed cfg0 Tryz.func74 rfl Tryz.call74 (by simp [bel_encDR, bel_encIB, bel_NR, bel_PR, bel_slM, bel_slN, belN]) (by first | rfl | simp [bel_encDR, bel_encIB, bel_NR, bel_PR, bel_slM, bel_slN, belN]) ?_; simp (config := { maxSteps := 2000000 }) -implicitDefEqProofs +contextual (disch := first | assumption | omega | decide +kernel) only [push_cast, ↓capI, br2_true, br2_false, frk_tt, frk_tf, frk_f, frkD_tt, frkD_tf, frkD_f, pk2_true, pk2_false, imp_true, seval, Nat.reduceLeDiff, Nat.reduceEqDiff, reduceCtorEq, ↓reduceIte, reduceCtorEq, fmN, fm0, take_N, toN1, slN_nil, cfg0, take_rest, ibeq_dec, encN, slN, Tryz.ntmps74]
    refine callO.pc g1 ?_
    simp (config := { maxSteps := 2000000 }) -implicitDefEqProofs +contextual (disch := first | assumption | omega | decide +kernel) only [push_cast, ↓capI, br2_true, br2_false, frk_tt, frk_tf, frk_f, frkD_tt, frkD_tf, frkD_f, pk2_true, pk2_false, imp_true, seval, Nat.reduceLeDiff, Nat.reduceEqDiff, reduceCtorEq, ↓reduceIte, reduceCtorEq, fmN, fm0, take_N, toN1, slN_nil, cfg0, take_rest, ibeq_dec, encN, slN, wa]
    refine endK.ret ?_ (by first | rfl | simp [bel_encDR, bel_encIB, bel_NR, bel_PR, bel_slM, bel_slN, belN]); simp [bel_encDR, bel_encIB, bel_NR, bel_PR, bel_slM, bel_slN, belN, fzs_ok, imp, lenOK_iff, List.take_of_length_le, evRes, getT, getO, setO, fzs, fz, fzH, Nat.beq, retV, Res.then, ldT, ldR, mkV, getV, fmN, fm0, take_N, toN1, slN_nil, tt_3, tt_4, tt_5, tt_9, tt_22, tt_26, tt_36, tt_43, tt_67, tt_101, cfg0, take_rest, ibeq_dec, encN, slN, Tryz.f74,  encPR, slM, slN, encN]
  rw [hv] at g1
  rw [if_pos rfl]
  simp only
  cases hbg : begins (dropD s) [47]
  · rw [hbg] at g2
    rw [if_neg (by simp)]
    have hz := and255s (UInt8.ofNat a)
    refine ⟨[⟨3, i, UInt8.ofNat a, 255⟩], dropD s, ?_, by simp, by omega, fun p t e => by cases e; exact ⟨rfl, rfl⟩⟩
    refine PC.walk tok mixed cfg0 Tryz.func74 rfl Tryz.call74 (by simp [bel_encDR, bel_encIB, bel_NR, bel_PR, bel_slM, bel_slN, belN]) (by first | rfl | simp [bel_encDR, bel_encIB, bel_NR, bel_PR, bel_slM, bel_slN, belN]) ?_; simp (config := { maxSteps := 2000000 }) -implicitDefEqProofs +contextual (disch := first | assumption | omega | decide +kernel) only [push_cast, ↓capI, br2_true, br2_false, frk_tt, frk_tf, frk_f, frkD_tt, frkD_tf, frkD_f, pk2_true, pk2_false, imp_true, seval, Nat.reduceLeDiff, Nat.reduceEqDiff, reduceCtorEq, ↓reduceIte, reduceCtorEq, fmN, fm0, take_N, toN1, slN_nil, cfg0, take_rest, ibeq_dec, encN, slN, Tryz.ntmps74]
    refine callO.pc g1 ?_
    simp (config := { maxSteps := 2000000 }) -implicitDefEqProofs +contextual (disch := first | assumption | omega | decide +kernel) only [push_cast, ↓capI, br2_true, br2_false, frk_tt, frk_tf, frk_f, frkD_tt, frkD_tf, frkD_f, pk2_true, pk2_false, imp_true, seval, Nat.reduceLeDiff, Nat.reduceEqDiff, reduceCtorEq, ↓reduceIte, reduceCtorEq, fmN, fm0, take_N, toN1, slN_nil, cfg0, take_rest, ibeq_dec, encN, slN, wa]
    refine callO.pc g2 ?_
    simp (config := { maxSteps := 2000000 }) -implicitDefEqProofs +contextual (disch := first | assumption | omega | decide +kernel) only [push_cast, ↓capI, br2_true, br2_false, frk_tt, frk_tf, frk_f, frkD_tt, frkD_tf, frkD_f, pk2_true, pk2_false, imp_true, seval, Nat.reduceLeDiff, Nat.reduceEqDiff, reduceCtorEq, ↓reduceIte, reduceCtorEq, fmN, fm0, take_N, toN1, slN_nil, cfg0, take_rest, ibeq_dec, encN, slN, wa]
    simp (config := { maxSteps := 2000000 }) -implicitDefEqProofs +contextual (disch := first | assumption | omega | decide +kernel) only [push_cast, ↓capI, br2_true, br2_false, frk_tt, frk_tf, frk_f, frkD_tt, frkD_tf, frkD_f, pk2_true, pk2_false, imp_true, seval, Nat.reduceLeDiff, Nat.reduceEqDiff, reduceCtorEq, ↓reduceIte, reduceCtorEq, fmN, fm0, take_N, toN1, slN_nil, cfg0, take_rest, ibeq_dec, encN, slN, hz]
    refine endK.ret ?_ (by first | rfl | simp [bel_encDR, bel_encIB, bel_NR, bel_PR, bel_slM, bel_slN, belN]); simp [bel_encDR, bel_encIB, bel_NR, bel_PR, bel_slM, bel_slN, belN, fzs_ok, imp, lenOK_iff, List.take_of_length_le, evRes, getT, getO, setO, fzs, fz, fzH, Nat.beq, retV, Res.then, ldT, ldR, mkV, getV, fmN, fm0, take_N, toN1, slN_nil, tt_3, tt_4, tt_5, tt_9, tt_22, tt_26, tt_36, tt_43, tt_67, tt_101, cfg0, take_rest, ibeq_dec, encN, slN, Tryz.f74,  encPR, slM, slN, encN]
  · rw [hbg] at g2
    rw [if_pos rfl, e3]
    have hl1 := begins_le hbg
    simp only [List.length_cons, List.length_nil] at hl1
    cases hv2 : okN ((dropD s).drop 1)
    · rw [hv2] at g3
      rw [if_neg (by simp)]
      refine ⟨[⟨3, i, UInt8.ofNat a, UInt8.ofNat b⟩], dropD ((dropD s).drop 1), ?_, by simp, by omega, fun p t e => by cases e⟩
      refine PC.walk tok mixed cfg0 Tryz.func74 rfl Tryz.call74 (by simp [bel_encDR, bel_encIB, bel_NR, bel_PR, bel_slM, bel_slN, belN]) (by first | rfl | simp [bel_encDR, bel_encIB, bel_NR, bel_PR, bel_slM, bel_slN, belN]) ?_; simp (config := { maxSteps := 2000000 }) -implicitDefEqProofs +contextual (disch := first | assumption | omega | decide +kernel) only [push_cast, ↓capI, br2_true, br2_false, frk_tt, frk_tf, frk_f, frkD_tt, frkD_tf, frkD_f, pk2_true, pk2_false, imp_true, seval, Nat.reduceLeDiff, Nat.reduceEqDiff, reduceCtorEq, ↓reduceIte, reduceCtorEq, fmN, fm0, take_N, toN1, slN_nil, cfg0, take_rest, ibeq_dec, encN, slN, Tryz.ntmps74]
      refine callO.pc g1 ?_
      simp (config := { maxSteps := 2000000 }) -implicitDefEqProofs +contextual (disch := first | assumption | omega | decide +kernel) only [push_cast, ↓capI, br2_true, br2_false, frk_tt, frk_tf, frk_f, frkD_tt, frkD_tf, frkD_f, pk2_true, pk2_false, imp_true, seval, Nat.reduceLeDiff, Nat.reduceEqDiff, reduceCtorEq, ↓reduceIte, reduceCtorEq, fmN, fm0, take_N, toN1, slN_nil, cfg0, take_rest, ibeq_dec, encN, slN, wa]
      refine callO.pc g2 ?_
      simp (config := { maxSteps := 2000000 }) -implicitDefEqProofs +contextual (disch := first | assumption | omega | decide +kernel) only [push_cast, ↓capI, br2_true, br2_false, frk_tt, frk_tf, frk_f, frkD_tt, frkD_tf, frkD_f, pk2_true, pk2_false, imp_true, seval, Nat.reduceLeDiff, Nat.reduceEqDiff, reduceCtorEq, ↓reduceIte, reduceCtorEq, fmN, fm0, take_N, toN1, slN_nil, cfg0, take_rest, ibeq_dec, encN, slN, wa]
      refine callO.pc g3 ?_
      simp (config := { maxSteps := 2000000 }) -implicitDefEqProofs +contextual (disch := first | assumption | omega | decide +kernel) only [push_cast, ↓capI, br2_true, br2_false, frk_tt, frk_tf, frk_f, frkD_tt, frkD_tf, frkD_f, pk2_true, pk2_false, imp_true, seval, Nat.reduceLeDiff, Nat.reduceEqDiff, reduceCtorEq, ↓reduceIte, reduceCtorEq, fmN, fm0, take_N, toN1, slN_nil, cfg0, take_rest, ibeq_dec, encN, slN, wa, wb]
      refine endK.ret ?_ (by first | rfl | simp [bel_encDR, bel_encIB, bel_NR, bel_PR, bel_slM, bel_slN, belN]); simp [bel_encDR, bel_encIB, bel_NR, bel_PR, bel_slM, bel_slN, belN, fzs_ok, imp, lenOK_iff, List.take_of_length_le, evRes, getT, getO, setO, fzs, fz, fzH, Nat.beq, retV, Res.then, ldT, ldR, mkV, getV, fmN, fm0, take_N, toN1, slN_nil, tt_3, tt_4, tt_5, tt_9, tt_22, tt_26, tt_36, tt_43, tt_67, tt_101, cfg0, take_rest, ibeq_dec, encN, slN, Tryz.f74,  encPR, slM, slN, encN]
    · rw [hv2] at g3
      rw [if_pos rfl]
      simp only
      have hz := andself (UInt8.ofNat a) (UInt8.ofNat b)
      by_cases h0 : UInt8.ofNat a &&& ~~~ UInt8.ofNat b = 0
      · rw [if_pos h0]
        refine ⟨[⟨3, i, UInt8.ofNat a, UInt8.ofNat b⟩], dropD ((dropD s).drop 1), ?_, by simp, by omega, fun p t e => by cases e; exact ⟨rfl, rfl⟩⟩
        refine PC.walk tok mixed cfg0 Tryz.func74 rfl Tryz.call74 (by simp [bel_encDR, bel_encIB, bel_NR, bel_PR, bel_slM, bel_slN, belN]) (by first | rfl | simp [bel_encDR, bel_encIB, bel_NR, bel_PR, bel_slM, bel_slN, belN]) ?_; simp (config := { maxSteps := 2000000 }) -implicitDefEqProofs +contextual (disch := first | assumption | omega | decide +kernel) only [push_cast, ↓capI, br2_true, br2_false, frk_tt, frk_tf, frk_f, frkD_tt, frkD_tf, frkD_f, pk2_true, pk2_false, imp_true, seval, Nat.reduceLeDiff, Nat.reduceEqDiff, reduceCtorEq, ↓reduceIte, reduceCtorEq, fmN, fm0, take_N, toN1, slN_nil, cfg0, take_rest, ibeq_dec, encN, slN, Tryz.ntmps74]
        refine callO.pc g1 ?_
        simp (config := { maxSteps := 2000000 }) -implicitDefEqProofs +contextual (disch := first | assumption | omega | decide +kernel) only [push_cast, ↓capI, br2_true, br2_false, frk_tt, frk_tf, frk_f, frkD_tt, frkD_tf, frkD_f, pk2_true, pk2_false, imp_true, seval, Nat.reduceLeDiff, Nat.reduceEqDiff, reduceCtorEq, ↓reduceIte, reduceCtorEq, fmN, fm0, take_N, toN1, slN_nil, cfg0, take_rest, ibeq_dec, encN, slN, wa]
        refine callO.pc g2 ?_
        simp (config := { maxSteps := 2000000 }) -implicitDefEqProofs +contextual (disch := first | assumption | omega | decide +kernel) only [push_cast, ↓capI, br2_true, br2_false, frk_tt, frk_tf, frk_f, frkD_tt, frkD_tf, frkD_f, pk2_true, pk2_false, imp_true, seval, Nat.reduceLeDiff, Nat.reduceEqDiff, reduceCtorEq, ↓reduceIte, reduceCtorEq, fmN, fm0, take_N, toN1, slN_nil, cfg0, take_rest, ibeq_dec, encN, slN, wa]
        refine callO.pc g3 ?_
        simp (config := { maxSteps := 2000000 }) -implicitDefEqProofs +contextual (disch := first | assumption | omega | decide +kernel) only [push_cast, ↓capI, br2_true, br2_false, frk_tt, frk_tf, frk_f, frkD_tt, frkD_tf, frkD_f, pk2_true, pk2_false, imp_true, seval, Nat.reduceLeDiff, Nat.reduceEqDiff, reduceCtorEq, ↓reduceIte, reduceCtorEq, fmN, fm0, take_N, toN1, slN_nil, cfg0, take_rest, ibeq_dec, encN, slN, wa, wb, hz, h0]
        refine endK.ret ?_ (by first | rfl | simp [bel_encDR, bel_encIB, bel_NR, bel_PR, bel_slM, bel_slN, belN]); simp [bel_encDR, bel_encIB, bel_NR, bel_PR, bel_slM, bel_slN, belN, fzs_ok, imp, lenOK_iff, List.take_of_length_le, evRes, getT, getO, setO, fzs, fz, fzH, Nat.beq, retV, Res.then, ldT, ldR, mkV, getV, fmN, fm0, take_N, toN1, slN_nil, tt_3, tt_4, tt_5, tt_9, tt_22, tt_26, tt_36, tt_43, tt_67, tt_101, cfg0, take_rest, ibeq_dec, encN, slN, Tryz.f74,  encPR, slM, slN, encN, hz, h0]
      · rw [if_neg h0]
        refine ⟨[⟨3, i, UInt8.ofNat a, UInt8.ofNat b⟩], dropD ((dropD s).drop 1), ?_, by simp, by omega, fun p t e => by cases e⟩
        refine PC.walk tok mixed cfg0 Tryz.func74 rfl Tryz.call74 (by simp [bel_encDR, bel_encIB, bel_NR, bel_PR, bel_slM, bel_slN, belN]) (by first | rfl | simp [bel_encDR, bel_encIB, bel_NR, bel_PR, bel_slM, bel_slN, belN]) ?_; simp (config := { maxSteps := 2000000 }) -implicitDefEqProofs +contextual (disch := first | assumption | omega | decide +kernel) only [push_cast, ↓capI, br2_true, br2_false, frk_tt, frk_tf, frk_f, frkD_tt, frkD_tf, frkD_f, pk2_true, pk2_false, imp_true, seval, Nat.reduceLeDiff, Nat.reduceEqDiff, reduceCtorEq, ↓reduceIte, reduceCtorEq, fmN, fm0, take_N, toN1, slN_nil, cfg0, take_rest, ibeq_dec, encN, slN, Tryz.ntmps74]
        refine callO.pc g1 ?_
        simp (config := { maxSteps := 2000000 }) -implicitDefEqProofs +contextual (disch := first | assumption | omega | decide +kernel) only [push_cast, ↓capI, br2_true, br2_false, frk_tt, frk_tf, frk_f, frkD_tt, frkD_tf, frkD_f, pk2_true, pk2_false, imp_true, seval, Nat.reduceLeDiff, Nat.reduceEqDiff, reduceCtorEq, ↓reduceIte, reduceCtorEq, fmN, fm0, take_N, toN1, slN_nil, cfg0, take_rest, ibeq_dec, encN, slN, wa]
        refine callO.pc g2 ?_
        simp (config := { maxSteps := 2000000 }) -implicitDefEqProofs +contextual (disch := first | assumption | omega | decide +kernel) only [push_cast, ↓capI, br2_true, br2_false, frk_tt, frk_tf, frk_f, frkD_tt, frkD_tf, frkD_f, pk2_true, pk2_false, imp_true, seval, Nat.reduceLeDiff, Nat.reduceEqDiff, reduceCtorEq, ↓reduceIte, reduceCtorEq, fmN, fm0, take_N, toN1, slN_nil, cfg0, take_rest, ibeq_dec, encN, slN, wa]
        refine callO.pc g3 ?_
        simp (config := { maxSteps := 2000000 }) -implicitDefEqProofs +contextual (disch := first | assumption | omega | decide +kernel) only [push_cast, ↓capI, br2_true, br2_false, frk_tt, frk_tf, frk_f, frkD_tt, frkD_tf, frkD_f, pk2_true, pk2_false, imp_true, seval, Nat.reduceLeDiff, Nat.reduceEqDiff, reduceCtorEq, ↓reduceIte, reduceCtorEq, fmN, fm0, take_N, toN1, slN_nil, cfg0, take_rest, ibeq_dec, encN, slN, wa, wb, hz, h0]
        refine endK.ret ?_ (by first | rfl | simp [bel_encDR, bel_encIB, bel_NR, bel_PR, bel_slM, bel_slN, belN]); simp [bel_encDR, bel_encIB, bel_NR, bel_PR, bel_slM, bel_slN, belN, fzs_ok, imp, lenOK_iff, List.take_of_length_le, evRes, getT, getO, setO, fzs, fz, fzH, Nat.beq, retV, Res.then, ldT, ldR, mkV, getV, fmN, fm0, take_N, toN1, slN_nil, tt_3, tt_4, tt_5, tt_9, tt_22, tt_26, tt_36, tt_43, tt_67, tt_101, cfg0, take_rest, ibeq_dec, encN, slN, Tryz.f74,  encPR, slM, slN, encN, hz, h0]
end Go.Proofs.YtllfdnbnkncnhaaGreatDoor

/- Chapter 44: the reference's parser: lists of operands. -/
set_option maxRecDepth 100000
set_option maxHeartbeats 4000000
set_option linter.all false
namespace Go.Proofs.YtllfdnbnkncnhaaGreatDoor
open Go.Vm

theorem slM_sl {l : List Nd} : slM l = .sl l.isEmpty (l.flatMap encN) l.length := by cases l <;> rfl
theorem pc48m (o : Int) (a b : List Nd) (ha : a.length ≤ 4000000) (hb : b.length ≤ 4000000) : PC Tryz.prog 48 [.int .i64 o, slM a, slM b] (slM (jn o a b)) := by
  have h := pc48 o a b ha hb
  rw [slM_cons (l := jn o a b) (List.cons_ne_nil _ _)]
  refine PC.lax ?_
  rw [laxs, laxs, laxs, lax_M, lax_M]
  exact h
theorem pcL46 {nx : List UInt8 → PR} {n : Nat} (hn : n ≤ 100001) (h : ∀ s, s.length < n → AnsR 63 [.str s] s (nx s)) (s : List UInt8) (hs : s.length < n) : AnsR 46 [.str s] s (lstP nx 5 38 s) := by
  have hc : ∃ (fl : List UInt8 → List Nd) (fr : List UInt8 → List UInt8), ∀ s, s.length < n → PC Tryz.prog 63 [.str s] (encPR (fl s) (fr s) (nx s).isSome) ∧
      (fl s).length + (fr s).length ≤ s.length ∧ ∀ p t, nx s = some (p, t) → fl s = flat p ∧ fr s = t := by
    refine ⟨fun s => if h1 : s.length < n then (h s h1).choose else [], fun s => if h1 : s.length < n then (h s h1).choose_spec.choose else [], fun s h1 => ?_⟩
    simp only [dif_pos h1]
    exact (h s h1).choose_spec.choose_spec
  obtain ⟨fl, fr, hf⟩ := hc
  have h0 := hf s hs
  have law := lstF_law (nx := nx) (fl := fl) (fr := fr) (o := 5) (c := 38) (n := n) (fun s hs => (hf s hs).2) ((fr s).length + 1) (fl s) (nx s) (fr s) h0.2.2 (Nat.lt_succ_self _) (by omega)
  have eP : (nx s).bind (fun q => lst nx 5 38 ((fr s).length + 1) q.1 q.2) = lstP nx 5 38 s := by
    rw [lstP]
    cases hx : nx s with
    | none => rfl
    | some q =>
      obtain ⟨p, t⟩ := q
      rw [(h0.2.2 p t hx).2]
      rfl
  rw [eP] at law
  generalize hR : lstF nx fl fr 5 38 ((fr s).length + 1) (fl s) (nx s).isSome (fr s) = R at law
  obtain ⟨L, U, OK⟩ := R
  simp only at law
  refine ⟨L, U, ?_, by omega, law.2.2⟩
  rw [← law.2.1]
  have g0 := h0.1
  refine PC.walk tok mixed cfg0 Tryz.func46 rfl Tryz.call46 (by simp [bel_PR, bel_slM, bel_slN, belN, bel_Ns]) (by first | rfl | simp [bel_PR, bel_slM, bel_slN, belN, bel_Ns]) ?_; simp (config := { maxSteps := 2000000 }) -implicitDefEqProofs +contextual (disch := first | assumption | omega | decide +kernel) only [push_cast, ↓capI, br2_true, br2_false, frk_tt, frk_tf, frk_f, frkD_tt, frkD_tf, frkD_f, pk2_true, pk2_false, imp_true, seval, Nat.reduceLeDiff, Nat.reduceEqDiff, reduceCtorEq, ↓reduceIte, reduceCtorEq, fmN, fm0, take_N, toN1, slN_nil, cfg0, take_rest, ibeq_dec, encN, slN, st_M, os_M, encPR, slM_sl, Tryz.ntmps46]
  refine callO.pc g0 ?_
  simp (config := { maxSteps := 2000000 }) -implicitDefEqProofs +contextual (disch := first | assumption | omega | decide +kernel) only [push_cast, ↓capI, br2_true, br2_false, frk_tt, frk_tf, frk_f, frkD_tt, frkD_tf, frkD_f, pk2_true, pk2_false, imp_true, seval, Nat.reduceLeDiff, Nat.reduceEqDiff, reduceCtorEq, ↓reduceIte, reduceCtorEq, fmN, fm0, take_N, toN1, slN_nil, cfg0, take_rest, ibeq_dec, encN, slN, st_M, os_M, encPR, slM_sl]
  refine T.lp tok mixed cfg0 (fun ((l, ok, r) : List Nd × Bool × List UInt8) => dd 2 (kp 2 (dd 25 (nl)))) (fun H0 ((l, ok, r) : List Nd × Bool × List UInt8) => [.cells 0 [.sl true [] 0, .str [], .bool false], .cells 0 [.sl l.isEmpty (l.flatMap encN) l.length, .str r, .bool ok]]) (fun ((l, ok, r) : List Nd × Bool × List UInt8) => l.length + r.length ≤ s.length ∧ ∃ m, r.length < m ∧ lstF nx fl fr 5 38 m l ok r = (L, U, OK)) (fun ((l, ok, r) : List Nd × Bool × List UInt8) => r.length) ((fl s, (nx s).isSome, fr s)) ?_ ?_ ?_
  · exact ⟨h0.2.1, _, Nat.lt_succ_self _, hR⟩
  · exact Gn.canon (J := []) (by first | rfl | (simp [List.append_nil]; done) | (simp [List.append_nil]; rfl)) (by simp [wk, slN, putT, kp, dd, sv, nl]) (by simp [List.length_append]) (by simp [bel_PR, bel_slM, bel_slN, belN, bel_Ns, kp, dd, sv, nl]) (by simp [bel_PR, bel_slM, bel_slN, belN, bel_Ns])
  rintro ⟨l, ok, r⟩ ⟨hl, m, hm, he⟩
  cases m with
  | zero => omega
  | succ m =>
  rw [lstF] at he
  cases ok
  · rw [if_neg (by simp)] at he
    cases he
    simp (config := { maxSteps := 2000000 }) -implicitDefEqProofs +contextual (disch := first | assumption | omega | decide +kernel) only [push_cast, ↓capI, br2_true, br2_false, frk_tt, frk_tf, frk_f, frkD_tt, frkD_tf, frkD_f, pk2_true, pk2_false, imp_true, seval, Nat.reduceLeDiff, Nat.reduceEqDiff, reduceCtorEq, ↓reduceIte, reduceCtorEq, fmN, fm0, take_N, toN1, slN_nil, cfg0, take_rest, ibeq_dec, encN, slN, st_M, os_M, encPR, slM_sl]
    refine endK.ret ?_ (by first | rfl | simp [bel_PR, bel_slM, bel_slN, belN, bel_Ns]); simp [bel_PR, bel_slM, bel_slN, belN, bel_Ns, fzs_ok, imp, lenOK_iff, List.take_of_length_le, evRes, getT, getO, setO, fzs, fz, fzH, Nat.beq, retV, Res.then, ldT, ldR, mkV, getV, fmN, fm0, take_N, toN1, slN_nil, tt_3, tt_4, tt_5, tt_9, tt_22, tt_26, tt_36, tt_43, tt_67, tt_101, cfg0, take_rest, ibeq_dec, encN, slN, st_M, os_M, encPR, slM_sl, Tryz.f46,  encPR]
  have g2 := pc47 r [38]
  cases hb : begins r [38]
  · rw [hb] at g2
    rw [if_neg (by rw [hb]; simp)] at he
    cases he
    simp (config := { maxSteps := 2000000 }) -implicitDefEqProofs +contextual (disch := first | assumption | omega | decide +kernel) only [push_cast, ↓capI, br2_true, br2_false, frk_tt, frk_tf, frk_f, frkD_tt, frkD_tf, frkD_f, pk2_true, pk2_false, imp_true, seval, Nat.reduceLeDiff, Nat.reduceEqDiff, reduceCtorEq, ↓reduceIte, reduceCtorEq, fmN, fm0, take_N, toN1, slN_nil, cfg0, take_rest, ibeq_dec, encN, slN, st_M, os_M, encPR, slM_sl]
    refine callO.pc g2 ?_
    simp (config := { maxSteps := 2000000 }) -implicitDefEqProofs +contextual (disch := first | assumption | omega | decide +kernel) only [push_cast, ↓capI, br2_true, br2_false, frk_tt, frk_tf, frk_f, frkD_tt, frkD_tf, frkD_f, pk2_true, pk2_false, imp_true, seval, Nat.reduceLeDiff, Nat.reduceEqDiff, reduceCtorEq, ↓reduceIte, reduceCtorEq, fmN, fm0, take_N, toN1, slN_nil, cfg0, take_rest, ibeq_dec, encN, slN, st_M, os_M, encPR, slM_sl]
    refine endK.ret ?_ (by first | rfl | simp [bel_PR, bel_slM, bel_slN, belN, bel_Ns]); simp [bel_PR, bel_slM, bel_slN, belN, bel_Ns, fzs_ok, imp, lenOK_iff, List.take_of_length_le, evRes, getT, getO, setO, fzs, fz, fzH, Nat.beq, retV, Res.then, ldT, ldR, mkV, getV, fmN, fm0, take_N, toN1, slN_nil, tt_3, tt_4, tt_5, tt_9, tt_22, tt_26, tt_36, tt_43, tt_67, tt_101, cfg0, take_rest, ibeq_dec, encN, slN, st_M, os_M, encPR, slM_sl, Tryz.f46,  encPR]
  · rw [hb] at g2
    have hbl := begins_le hb
    simp only [List.length_cons, List.length_nil] at hbl
    have hd : (r.drop 1).length = r.length - 1 := List.length_drop
    have hdt : (r.drop 1).take (r.length - 1) = r.drop 1 := List.take_of_length_le (by omega)
    have hml : min (r.length - 1) (r.length - 1) = r.length - 1 := Nat.min_self _
    have hy := hf (r.drop 1) (by omega)
    have hj := pc48m 5 l (fl (r.drop 1)) (by omega) (by omega)
    simp only [slM_sl] at hj
    rw [if_pos ⟨rfl, hb⟩] at he
    simp (config := { maxSteps := 2000000 }) -implicitDefEqProofs +contextual (disch := first | assumption | omega | decide +kernel) only [push_cast, ↓capI, br2_true, br2_false, frk_tt, frk_tf, frk_f, frkD_tt, frkD_tf, frkD_f, pk2_true, pk2_false, imp_true, seval, Nat.reduceLeDiff, Nat.reduceEqDiff, reduceCtorEq, ↓reduceIte, reduceCtorEq, fmN, fm0, take_N, toN1, slN_nil, cfg0, take_rest, ibeq_dec, encN, slN, st_M, os_M, encPR, slM_sl]
    refine callO.pc g2 ?_
    simp (config := { maxSteps := 2000000 }) -implicitDefEqProofs +contextual (disch := first | assumption | omega | decide +kernel) only [push_cast, ↓capI, br2_true, br2_false, frk_tt, frk_tf, frk_f, frkD_tt, frkD_tf, frkD_f, pk2_true, pk2_false, imp_true, seval, Nat.reduceLeDiff, Nat.reduceEqDiff, reduceCtorEq, ↓reduceIte, reduceCtorEq, fmN, fm0, take_N, toN1, slN_nil, cfg0, take_rest, ibeq_dec, encN, slN, st_M, os_M, encPR, slM_sl, hdt]
    refine callO.pc hy.1 ?_
    simp (config := { maxSteps := 2000000 }) -implicitDefEqProofs +contextual (disch := first | assumption | omega | decide +kernel) only [push_cast, ↓capI, br2_true, br2_false, frk_tt, frk_tf, frk_f, frkD_tt, frkD_tf, frkD_f, pk2_true, pk2_false, imp_true, seval, Nat.reduceLeDiff, Nat.reduceEqDiff, reduceCtorEq, ↓reduceIte, reduceCtorEq, fmN, fm0, take_N, toN1, slN_nil, cfg0, take_rest, ibeq_dec, encN, slN, st_M, os_M, encPR, slM_sl]
    refine callG.pc1 hj ?_
    simp (config := { maxSteps := 2000000 }) -implicitDefEqProofs +contextual (disch := first | assumption | omega | decide +kernel) only [push_cast, ↓capI, br2_true, br2_false, frk_tt, frk_tf, frk_f, frkD_tt, frkD_tf, frkD_f, pk2_true, pk2_false, imp_true, seval, Nat.reduceLeDiff, Nat.reduceEqDiff, reduceCtorEq, ↓reduceIte, reduceCtorEq, fmN, fm0, take_N, toN1, slN_nil, cfg0, take_rest, ibeq_dec, encN, slN, st_M, os_M, encPR, slM_sl]
    refine ⟨(jn 5 l (fl (r.drop 1)), (nx (r.drop 1)).isSome, fr (r.drop 1)), ⟨by (try simp only [jn_len]); omega, m, by (try simp only); omega, he⟩, by (try simp only); omega, ?_⟩; exact Gn.canon (by first | rfl | (simp [List.append_nil]; rfl)) (by simp [wk, slN]) (by simp [List.length_append]) (by simp [bel_PR, bel_slM, bel_slN, belN, bel_Ns]) (by simp [bel_PR, bel_slM, bel_slN, belN, bel_Ns])
theorem pcL26 {nx : List UInt8 → PR} {n : Nat} (hn : n ≤ 100001) (h : ∀ s, s.length < n → AnsR 46 [.str s] s (nx s)) (s : List UInt8) (hs : s.length < n) : AnsR 26 [.str s] s (lstP nx 6 124 s) := by
  have hc : ∃ (fl : List UInt8 → List Nd) (fr : List UInt8 → List UInt8), ∀ s, s.length < n → PC Tryz.prog 46 [.str s] (encPR (fl s) (fr s) (nx s).isSome) ∧
      (fl s).length + (fr s).length ≤ s.length ∧ ∀ p t, nx s = some (p, t) → fl s = flat p ∧ fr s = t := by
    refine ⟨fun s => if h1 : s.length < n then (h s h1).choose else [], fun s => if h1 : s.length < n then (h s h1).choose_spec.choose else [], fun s h1 => ?_⟩
    simp only [dif_pos h1]
    exact (h s h1).choose_spec.choose_spec
  obtain ⟨fl, fr, hf⟩ := hc
  have h0 := hf s hs
  have law := lstF_law (nx := nx) (fl := fl) (fr := fr) (o := 6) (c := 124) (n := n) (fun s hs => (hf s hs).2) ((fr s).length + 1) (fl s) (nx s) (fr s) h0.2.2 (Nat.lt_succ_self _) (by omega)
  have eP : (nx s).bind (fun q => lst nx 6 124 ((fr s).length + 1) q.1 q.2) = lstP nx 6 124 s := by
    rw [lstP]
    cases hx : nx s with
    | none => rfl
    | some q =>
      obtain ⟨p, t⟩ := q
      rw [(h0.2.2 p t hx).2]
      rfl
  rw [eP] at law
  generalize hR : lstF nx fl fr 6 124 ((fr s).length + 1) (fl s) (nx s).isSome (fr s) = R at law
  obtain ⟨L, U, OK⟩ := R
  simp only at law
  refine ⟨L, U, ?_, by omega, law.2.2⟩
  rw [← law.2.1]
  have g0 := h0.1
  refine PC.walk tok mixed cfg0 Tryz.func26 rfl Tryz.call26 (by simp [bel_PR, bel_slM, bel_slN, belN, bel_Ns]) (by first | rfl | simp [bel_PR, bel_slM, bel_slN, belN, bel_Ns]) ?_; simp (config := { maxSteps := 2000000 }) -implicitDefEqProofs +contextual (disch := first | assumption | omega | decide +kernel) only [push_cast, ↓capI, br2_true, br2_false, frk_tt, frk_tf, frk_f, frkD_tt, frkD_tf, frkD_f, pk2_true, pk2_false, imp_true, seval, Nat.reduceLeDiff, Nat.reduceEqDiff, reduceCtorEq, ↓reduceIte, reduceCtorEq, fmN, fm0, take_N, toN1, slN_nil, cfg0, take_rest, ibeq_dec, encN, slN, st_M, os_M, encPR, slM_sl, Tryz.ntmps26]
  refine callO.pc g0 ?_
  simp (config := { maxSteps := 2000000 }) -implicitDefEqProofs +contextual (disch := first | assumption | omega | decide +kernel) only [push_cast, ↓capI, br2_true, br2_false, frk_tt, frk_tf, frk_f, frkD_tt, frkD_tf, frkD_f, pk2_true, pk2_false, imp_true, seval, Nat.reduceLeDiff, Nat.reduceEqDiff, reduceCtorEq, ↓reduceIte, reduceCtorEq, fmN, fm0, take_N, toN1, slN_nil, cfg0, take_rest, ibeq_dec, encN, slN, st_M, os_M, encPR, slM_sl]
  refine T.lp tok mixed cfg0 (fun ((l, ok, r) : List Nd × Bool × List UInt8) => dd 2 (kp 2 (dd 25 (nl)))) (fun H0 ((l, ok, r) : List Nd × Bool × List UInt8) => [.cells 0 [.sl true [] 0, .str [], .bool false], .cells 0 [.sl l.isEmpty (l.flatMap encN) l.length, .str r, .bool ok]]) (fun ((l, ok, r) : List Nd × Bool × List UInt8) => l.length + r.length ≤ s.length ∧ ∃ m, r.length < m ∧ lstF nx fl fr 6 124 m l ok r = (L, U, OK)) (fun ((l, ok, r) : List Nd × Bool × List UInt8) => r.length) ((fl s, (nx s).isSome, fr s)) ?_ ?_ ?_
  · exact ⟨h0.2.1, _, Nat.lt_succ_self _, hR⟩
  · exact Gn.canon (J := []) (by first | rfl | (simp [List.append_nil]; done) | (simp [List.append_nil]; rfl)) (by simp [wk, slN, putT, kp, dd, sv, nl]) (by simp [List.length_append]) (by simp [bel_PR, bel_slM, bel_slN, belN, bel_Ns, kp, dd, sv, nl]) (by simp [bel_PR, bel_slM, bel_slN, belN, bel_Ns])
  rintro ⟨l, ok, r⟩ ⟨hl, m, hm, he⟩
  cases m with
  | zero => omega
  | succ m =>
  rw [lstF] at he
  cases ok
  · rw [if_neg (by simp)] at he
    cases he
    simp (config := { maxSteps := 2000000 }) -implicitDefEqProofs +contextual (disch := first | assumption | omega | decide +kernel) only [push_cast, ↓capI, br2_true, br2_false, frk_tt, frk_tf, frk_f, frkD_tt, frkD_tf, frkD_f, pk2_true, pk2_false, imp_true, seval, Nat.reduceLeDiff, Nat.reduceEqDiff, reduceCtorEq, ↓reduceIte, reduceCtorEq, fmN, fm0, take_N, toN1, slN_nil, cfg0, take_rest, ibeq_dec, encN, slN, st_M, os_M, encPR, slM_sl]
    refine endK.ret ?_ (by first | rfl | simp [bel_PR, bel_slM, bel_slN, belN, bel_Ns]); simp [bel_PR, bel_slM, bel_slN, belN, bel_Ns, fzs_ok, imp, lenOK_iff, List.take_of_length_le, evRes, getT, getO, setO, fzs, fz, fzH, Nat.beq, retV, Res.then, ldT, ldR, mkV, getV, fmN, fm0, take_N, toN1, slN_nil, tt_3, tt_4, tt_5, tt_9, tt_22, tt_26, tt_36, tt_43, tt_67, tt_101, cfg0, take_rest, ibeq_dec, encN, slN, st_M, os_M, encPR, slM_sl, Tryz.f26,  encPR]
  have g2 := pc47 r [124]
  cases hb : begins r [124]
  · rw [hb] at g2
    rw [if_neg (by rw [hb]; simp)] at he
    cases he
    simp (config := { maxSteps := 2000000 }) -implicitDefEqProofs +contextual (disch := first | assumption | omega | decide +kernel) only [push_cast, ↓capI, br2_true, br2_false, frk_tt, frk_tf, frk_f, frkD_tt, frkD_tf, frkD_f, pk2_true, pk2_false, imp_true, seval, Nat.reduceLeDiff, Nat.reduceEqDiff, reduceCtorEq, ↓reduceIte, reduceCtorEq, fmN, fm0, take_N, toN1, slN_nil, cfg0, take_rest, ibeq_dec, encN, slN, st_M, os_M, encPR, slM_sl]
    refine callO.pc g2 ?_
    simp (config := { maxSteps := 2000000 }) -implicitDefEqProofs +contextual (disch := first | assumption | omega | decide +kernel) only [push_cast, ↓capI, br2_true, br2_false, frk_tt, frk_tf, frk_f, frkD_tt, frkD_tf, frkD_f, pk2_true, pk2_false, imp_true, seval, Nat.reduceLeDiff, Nat.reduceEqDiff, reduceCtorEq, ↓reduceIte, reduceCtorEq, fmN, fm0, take_N, toN1, slN_nil, cfg0, take_rest, ibeq_dec, encN, slN, st_M, os_M, encPR, slM_sl]
    refine endK.ret ?_ (by first | rfl | simp [bel_PR, bel_slM, bel_slN, belN, bel_Ns]); simp [bel_PR, bel_slM, bel_slN, belN, bel_Ns, fzs_ok, imp, lenOK_iff, List.take_of_length_le, evRes, getT, getO, setO, fzs, fz, fzH, Nat.beq, retV, Res.then, ldT, ldR, mkV, getV, fmN, fm0, take_N, toN1, slN_nil, tt_3, tt_4, tt_5, tt_9, tt_22, tt_26, tt_36, tt_43, tt_67, tt_101, cfg0, take_rest, ibeq_dec, encN, slN, st_M, os_M, encPR, slM_sl, Tryz.f26,  encPR]
  · rw [hb] at g2
    have hbl := begins_le hb
    simp only [List.length_cons, List.length_nil] at hbl
    have hd : (r.drop 1).length = r.length - 1 := List.length_drop
    have hdt : (r.drop 1).take (r.length - 1) = r.drop 1 := List.take_of_length_le (by omega)
    have hml : min (r.length - 1) (r.length - 1) = r.length - 1 := Nat.min_self _
    have hy := hf (r.drop 1) (by omega)
    have hj := pc48m 6 l (fl (r.drop 1)) (by omega) (by omega)
    simp only [slM_sl] at hj
    rw [if_pos ⟨rfl, hb⟩] at he
    simp (config := { maxSteps := 2000000 }) -implicitDefEqProofs +contextual (disch := first | assumption | omega | decide +kernel) only [push_cast, ↓capI, br2_true, br2_false, frk_tt, frk_tf, frk_f, frkD_tt, frkD_tf, frkD_f, pk2_true, pk2_false, imp_true, seval, Nat.reduceLeDiff, Nat.reduceEqDiff, reduceCtorEq, ↓reduceIte, reduceCtorEq, fmN, fm0, take_N, toN1, slN_nil, cfg0, take_rest, ibeq_dec, encN, slN, st_M, os_M, encPR, slM_sl]
    refine callO.pc g2 ?_
    simp (config := { maxSteps := 2000000 }) -implicitDefEqProofs +contextual (disch := first | assumption | omega | decide +kernel) only [push_cast, ↓capI, br2_true, br2_false, frk_tt, frk_tf, frk_f, frkD_tt, frkD_tf, frkD_f, pk2_true, pk2_false, imp_true, seval, Nat.reduceLeDiff, Nat.reduceEqDiff, reduceCtorEq, ↓reduceIte, reduceCtorEq, fmN, fm0, take_N, toN1, slN_nil, cfg0, take_rest, ibeq_dec, encN, slN, st_M, os_M, encPR, slM_sl, hdt]
    refine callO.pc hy.1 ?_
    simp (config := { maxSteps := 2000000 }) -implicitDefEqProofs +contextual (disch := first | assumption | omega | decide +kernel) only [push_cast, ↓capI, br2_true, br2_false, frk_tt, frk_tf, frk_f, frkD_tt, frkD_tf, frkD_f, pk2_true, pk2_false, imp_true, seval, Nat.reduceLeDiff, Nat.reduceEqDiff, reduceCtorEq, ↓reduceIte, reduceCtorEq, fmN, fm0, take_N, toN1, slN_nil, cfg0, take_rest, ibeq_dec, encN, slN, st_M, os_M, encPR, slM_sl]
    refine callG.pc1 hj ?_
    simp (config := { maxSteps := 2000000 }) -implicitDefEqProofs +contextual (disch := first | assumption | omega | decide +kernel) only [push_cast, ↓capI, br2_true, br2_false, frk_tt, frk_tf, frk_f, frkD_tt, frkD_tf, frkD_f, pk2_true, pk2_false, imp_true, seval, Nat.reduceLeDiff, Nat.reduceEqDiff, reduceCtorEq, ↓reduceIte, reduceCtorEq, fmN, fm0, take_N, toN1, slN_nil, cfg0, take_rest, ibeq_dec, encN, slN, st_M, os_M, encPR, slM_sl]
    refine ⟨(jn 6 l (fl (r.drop 1)), (nx (r.drop 1)).isSome, fr (r.drop 1)), ⟨by (try simp only [jn_len]); omega, m, by (try simp only); omega, he⟩, by (try simp only); omega, ?_⟩; exact Gn.canon (by first | rfl | (simp [List.append_nil]; rfl)) (by simp [wk, slN]) (by simp [List.length_append]) (by simp [bel_PR, bel_slM, bel_slN, belN, bel_Ns]) (by simp [bel_PR, bel_slM, bel_slN, belN, bel_Ns])
end Go.Proofs.YtllfdnbnkncnhaaGreatDoor

/- Chapter 44: the reference's parser: operands. -/
set_option maxRecDepth 100000
set_option maxHeartbeats 4000000
set_option linter.all false
namespace Go.Proofs.YtllfdnbnkncnhaaGreatDoor
open Go.Vm

theorem pc63f (s : List UInt8) (hs : s.length ≤ 100000) (hh : noHead s) (i0 : Nat) (hi : i0 ≤ 2) (hb : ∀ j : Nat, j < i0 → begins s (fname j ++ [61]) = false) (h : begins s (fname i0 ++ [61]) = true)
    (l : List Nd) (r : List UInt8) (ok : Bool) (g : PC Tryz.prog 74 [.int .i64 i0, .str (s.drop ((fname i0).length + 1))] (encPR l r ok)) :
    PC Tryz.prog 63 [.str s] (encPR l r ok) := by
  obtain ⟨h1, h2, h3, h4⟩ := hh
  have g1 := pc47 s [33]
  have g2 := pc47 s [116, 114, 117, 101]
  have g3 := pc47 s [102, 97, 108, 115, 101]
  have g4 := pc47 s [40]
  rw [h1] at g1
  rw [h2] at g2
  rw [h3] at g3
  rw [h4] at g4
  have hl := begins_le h
  rw [List.length_append, List.length_singleton] at hl
  refine PC.walk tok mixed cfg0 Tryz.func63 rfl Tryz.call63 (by simp [bel_PR, bel_slM, bel_slN, belN, bel_Ns]) (by first | rfl | simp [bel_PR, bel_slM, bel_slN, belN, bel_Ns]) ?_; simp (config := { maxSteps := 2000000 }) -implicitDefEqProofs +contextual (disch := first | assumption | omega | decide +kernel) only [push_cast, ↓capI, br2_true, br2_false, frk_tt, frk_tf, frk_f, frkD_tt, frkD_tf, frkD_f, pk2_true, pk2_false, imp_true, seval, Nat.reduceLeDiff, Nat.reduceEqDiff, reduceCtorEq, ↓reduceIte, reduceCtorEq, fmN, fm0, take_N, toN1, slN_nil, cfg0, take_rest, ibeq_dec, encN, slN, st_M, os_M, encPR, slM_sl, Tryz.ntmps63]
  refine callO.pc g1 ?_
  simp (config := { maxSteps := 2000000 }) -implicitDefEqProofs +contextual (disch := first | assumption | omega | decide +kernel) only [push_cast, ↓capI, br2_true, br2_false, frk_tt, frk_tf, frk_f, frkD_tt, frkD_tf, frkD_f, pk2_true, pk2_false, imp_true, seval, Nat.reduceLeDiff, Nat.reduceEqDiff, reduceCtorEq, ↓reduceIte, reduceCtorEq, fmN, fm0, take_N, toN1, slN_nil, cfg0, take_rest, ibeq_dec, encN, slN, st_M, os_M, encPR, slM_sl]
  refine callO.pc g2 ?_
  simp (config := { maxSteps := 2000000 }) -implicitDefEqProofs +contextual (disch := first | assumption | omega | decide +kernel) only [push_cast, ↓capI, br2_true, br2_false, frk_tt, frk_tf, frk_f, frkD_tt, frkD_tf, frkD_f, pk2_true, pk2_false, imp_true, seval, Nat.reduceLeDiff, Nat.reduceEqDiff, reduceCtorEq, ↓reduceIte, reduceCtorEq, fmN, fm0, take_N, toN1, slN_nil, cfg0, take_rest, ibeq_dec, encN, slN, st_M, os_M, encPR, slM_sl]
  refine callO.pc g3 ?_
  simp (config := { maxSteps := 2000000 }) -implicitDefEqProofs +contextual (disch := first | assumption | omega | decide +kernel) only [push_cast, ↓capI, br2_true, br2_false, frk_tt, frk_tf, frk_f, frkD_tt, frkD_tf, frkD_f, pk2_true, pk2_false, imp_true, seval, Nat.reduceLeDiff, Nat.reduceEqDiff, reduceCtorEq, ↓reduceIte, reduceCtorEq, fmN, fm0, take_N, toN1, slN_nil, cfg0, take_rest, ibeq_dec, encN, slN, st_M, os_M, encPR, slM_sl]
  refine callO.pc g4 ?_
  simp (config := { maxSteps := 2000000 }) -implicitDefEqProofs +contextual (disch := first | assumption | omega | decide +kernel) only [push_cast, ↓capI, br2_true, br2_false, frk_tt, frk_tf, frk_f, frkD_tt, frkD_tf, frkD_f, pk2_true, pk2_false, imp_true, seval, Nat.reduceLeDiff, Nat.reduceEqDiff, reduceCtorEq, ↓reduceIte, reduceCtorEq, fmN, fm0, take_N, toN1, slN_nil, cfg0, take_rest, ibeq_dec, encN, slN, st_M, os_M, encPR, slM_sl]
  refine T.lp tok mixed cfg0 (fun (i : Nat) => kp 1 (dd 1 (kp 1 (dd 2 (sv (.int .i64 i) (dd 66 (nl))))))) (fun H0 (i : Nat) => H0) (fun (i : Nat) => i ≤ i0) (fun (i : Nat) => 3 - i) (0) ?_ ?_ ?_
  · exact Nat.zero_le _
  · exact Gn.canon (J := []) (by first | rfl | (simp [List.append_nil]; done) | (simp [List.append_nil]; rfl)) (by simp [wk, slN, putT, kp, dd, sv, nl]) (by simp [List.length_append]) (by simp [bel_PR, bel_slM, bel_slN, belN, bel_Ns, kp, dd, sv, nl]) (by simp [bel_PR, bel_slM, bel_slN, belN, bel_Ns])
  intro i hi2
  have hlen := fname_len4 i
  rw [List.length_append, List.length_singleton] at hlen
  have gi := pc47 s (fname i ++ [61])
  simp (config := { maxSteps := 2000000 }) -implicitDefEqProofs +contextual (disch := first | assumption | omega | decide +kernel) only [push_cast, ↓capI, br2_true, br2_false, frk_tt, frk_tf, frk_f, frkD_tt, frkD_tf, frkD_f, pk2_true, pk2_false, imp_true, seval, Nat.reduceLeDiff, Nat.reduceEqDiff, reduceCtorEq, ↓reduceIte, reduceCtorEq, fmN, fm0, take_N, toN1, slN_nil, cfg0, take_rest, ibeq_dec, encN, slN, st_M, os_M, encPR, slM_sl]
  refine callO.pc (pc49 i) ?_
  simp (config := { maxSteps := 2000000 }) -implicitDefEqProofs +contextual (disch := first | assumption | omega | decide +kernel) only [push_cast, ↓capI, br2_true, br2_false, frk_tt, frk_tf, frk_f, frkD_tt, frkD_tf, frkD_f, pk2_true, pk2_false, imp_true, seval, Nat.reduceLeDiff, Nat.reduceEqDiff, reduceCtorEq, ↓reduceIte, reduceCtorEq, fmN, fm0, take_N, toN1, slN_nil, cfg0, take_rest, ibeq_dec, encN, slN, st_M, os_M, encPR, slM_sl]
  by_cases e : i = i0
  · subst e
    rw [h] at gi
    refine callO.pc gi ?_
    simp (config := { maxSteps := 2000000 }) -implicitDefEqProofs +contextual (disch := first | assumption | omega | decide +kernel) only [push_cast, ↓capI, br2_true, br2_false, frk_tt, frk_tf, frk_f, frkD_tt, frkD_tf, frkD_f, pk2_true, pk2_false, imp_true, seval, Nat.reduceLeDiff, Nat.reduceEqDiff, reduceCtorEq, ↓reduceIte, reduceCtorEq, fmN, fm0, take_N, toN1, slN_nil, cfg0, take_rest, ibeq_dec, encN, slN, st_M, os_M, encPR, slM_sl]
    refine callO.pc (pc49 i) ?_
    have et : (((fname i).length : Int) + 1).toNat = (fname i).length + 1 := by omega
    simp (config := { maxSteps := 2000000 }) -implicitDefEqProofs +contextual (disch := first | assumption | omega | decide +kernel) only [push_cast, ↓capI, br2_true, br2_false, frk_tt, frk_tf, frk_f, frkD_tt, frkD_tf, frkD_f, pk2_true, pk2_false, imp_true, seval, Nat.reduceLeDiff, Nat.reduceEqDiff, reduceCtorEq, ↓reduceIte, reduceCtorEq, fmN, fm0, take_N, toN1, slN_nil, cfg0, take_rest, ibeq_dec, encN, slN, st_M, os_M, encPR, slM_sl]
    rw [et]
    refine callO.pc g ?_
    simp (config := { maxSteps := 2000000 }) -implicitDefEqProofs +contextual (disch := first | assumption | omega | decide +kernel) only [push_cast, ↓capI, br2_true, br2_false, frk_tt, frk_tf, frk_f, frkD_tt, frkD_tf, frkD_f, pk2_true, pk2_false, imp_true, seval, Nat.reduceLeDiff, Nat.reduceEqDiff, reduceCtorEq, ↓reduceIte, reduceCtorEq, fmN, fm0, take_N, toN1, slN_nil, cfg0, take_rest, ibeq_dec, encN, slN, st_M, os_M, encPR, slM_sl]
    refine endK.ret ?_ (by first | rfl | simp [bel_PR, bel_slM, bel_slN, belN, bel_Ns]); simp [bel_PR, bel_slM, bel_slN, belN, bel_Ns, fzs_ok, imp, lenOK_iff, List.take_of_length_le, evRes, getT, getO, setO, fzs, fz, fzH, Nat.beq, retV, Res.then, ldT, ldR, mkV, getV, fmN, fm0, take_N, toN1, slN_nil, tt_3, tt_4, tt_5, tt_9, tt_22, tt_26, tt_36, tt_43, tt_67, tt_101, cfg0, take_rest, ibeq_dec, encN, slN, st_M, os_M, encPR, slM_sl, Tryz.f63,  encPR, slM_sl]
  · rw [hb i (by omega)] at gi
    refine callO.pc gi ?_
    simp (config := { maxSteps := 2000000 }) -implicitDefEqProofs +contextual (disch := first | assumption | omega | decide +kernel) only [push_cast, ↓capI, br2_true, br2_false, frk_tt, frk_tf, frk_f, frkD_tt, frkD_tf, frkD_f, pk2_true, pk2_false, imp_true, seval, Nat.reduceLeDiff, Nat.reduceEqDiff, reduceCtorEq, ↓reduceIte, reduceCtorEq, fmN, fm0, take_N, toN1, slN_nil, cfg0, take_rest, ibeq_dec, encN, slN, st_M, os_M, encPR, slM_sl]
    refine ⟨i + 1, by omega, by (try simp only); omega, ?_⟩; exact Gn.canon (by first | rfl | (simp [List.append_nil]; rfl)) (by simp [wk, slN]) (by simp [List.length_append]) (by simp [bel_PR, bel_slM, bel_slN, belN, bel_Ns]) (by simp [bel_PR, bel_slM, bel_slN, belN, bel_Ns])
theorem pc63n (s : List UInt8) (hs : s.length ≤ 100000) (hh : noHead s) (hb : ∀ j : Nat, j < 3 → begins s (fname j ++ [61]) = false) :
    PC Tryz.prog 63 [.str s] (encPR [] [] false) := by
  obtain ⟨h1, h2, h3, h4⟩ := hh
  have g1 := pc47 s [33]
  have g2 := pc47 s [116, 114, 117, 101]
  have g3 := pc47 s [102, 97, 108, 115, 101]
  have g4 := pc47 s [40]
  rw [h1] at g1
  rw [h2] at g2
  rw [h3] at g3
  rw [h4] at g4
  refine PC.walk tok mixed cfg0 Tryz.func63 rfl Tryz.call63 (by simp [bel_PR, bel_slM, bel_slN, belN, bel_Ns]) (by first | rfl | simp [bel_PR, bel_slM, bel_slN, belN, bel_Ns]) ?_; simp (config := { maxSteps := 2000000 }) -implicitDefEqProofs +contextual (disch := first | assumption | omega | decide +kernel) only [push_cast, ↓capI, br2_true, br2_false, frk_tt, frk_tf, frk_f, frkD_tt, frkD_tf, frkD_f, pk2_true, pk2_false, imp_true, seval, Nat.reduceLeDiff, Nat.reduceEqDiff, reduceCtorEq, ↓reduceIte, reduceCtorEq, fmN, fm0, take_N, toN1, slN_nil, cfg0, take_rest, ibeq_dec, encN, slN, st_M, os_M, encPR, slM_sl, Tryz.ntmps63]
  refine callO.pc g1 ?_
  simp (config := { maxSteps := 2000000 }) -implicitDefEqProofs +contextual (disch := first | assumption | omega | decide +kernel) only [push_cast, ↓capI, br2_true, br2_false, frk_tt, frk_tf, frk_f, frkD_tt, frkD_tf, frkD_f, pk2_true, pk2_false, imp_true, seval, Nat.reduceLeDiff, Nat.reduceEqDiff, reduceCtorEq, ↓reduceIte, reduceCtorEq, fmN, fm0, take_N, toN1, slN_nil, cfg0, take_rest, ibeq_dec, encN, slN, st_M, os_M, encPR, slM_sl]
  refine callO.pc g2 ?_
  simp (config := { maxSteps := 2000000 }) -implicitDefEqProofs +contextual (disch := first | assumption | omega | decide +kernel) only [push_cast, ↓capI, br2_true, br2_false, frk_tt, frk_tf, frk_f, frkD_tt, frkD_tf, frkD_f, pk2_true, pk2_false, imp_true, seval, Nat.reduceLeDiff, Nat.reduceEqDiff, reduceCtorEq, ↓reduceIte, reduceCtorEq, fmN, fm0, take_N, toN1, slN_nil, cfg0, take_rest, ibeq_dec, encN, slN, st_M, os_M, encPR, slM_sl]
  refine callO.pc g3 ?_
  simp (config := { maxSteps := 2000000 }) -implicitDefEqProofs +contextual (disch := first | assumption | omega | decide +kernel) only [push_cast, ↓capI, br2_true, br2_false, frk_tt, frk_tf, frk_f, frkD_tt, frkD_tf, frkD_f, pk2_true, pk2_false, imp_true, seval, Nat.reduceLeDiff, Nat.reduceEqDiff, reduceCtorEq, ↓reduceIte, reduceCtorEq, fmN, fm0, take_N, toN1, slN_nil, cfg0, take_rest, ibeq_dec, encN, slN, st_M, os_M, encPR, slM_sl]
  refine callO.pc g4 ?_
  simp (config := { maxSteps := 2000000 }) -implicitDefEqProofs +contextual (disch := first | assumption | omega | decide +kernel) only [push_cast, ↓capI, br2_true, br2_false, frk_tt, frk_tf, frk_f, frkD_tt, frkD_tf, frkD_f, pk2_true, pk2_false, imp_true, seval, Nat.reduceLeDiff, Nat.reduceEqDiff, reduceCtorEq, ↓reduceIte, reduceCtorEq, fmN, fm0, take_N, toN1, slN_nil, cfg0, take_rest, ibeq_dec, encN, slN, st_M, os_M, encPR, slM_sl]
  refine T.lp tok mixed cfg0 (fun (i : Nat) => kp 1 (dd 1 (kp 1 (dd 2 (sv (.int .i64 i) (dd 66 (nl))))))) (fun H0 (i : Nat) => H0) (fun (i : Nat) => i ≤ 3) (fun (i : Nat) => 3 - i) (0) ?_ ?_ ?_
  · exact Nat.zero_le _
  · exact Gn.canon (J := []) (by first | rfl | (simp [List.append_nil]; done) | (simp [List.append_nil]; rfl)) (by simp [wk, slN, putT, kp, dd, sv, nl]) (by simp [List.length_append]) (by simp [bel_PR, bel_slM, bel_slN, belN, bel_Ns, kp, dd, sv, nl]) (by simp [bel_PR, bel_slM, bel_slN, belN, bel_Ns])
  intro i hi2
  have hlen := fname_len4 i
  rw [List.length_append, List.length_singleton] at hlen
  have gi := pc47 s (fname i ++ [61])
  by_cases h : i < 3
  · rw [hb i h] at gi
    simp (config := { maxSteps := 2000000 }) -implicitDefEqProofs +contextual (disch := first | assumption | omega | decide +kernel) only [push_cast, ↓capI, br2_true, br2_false, frk_tt, frk_tf, frk_f, frkD_tt, frkD_tf, frkD_f, pk2_true, pk2_false, imp_true, seval, Nat.reduceLeDiff, Nat.reduceEqDiff, reduceCtorEq, ↓reduceIte, reduceCtorEq, fmN, fm0, take_N, toN1, slN_nil, cfg0, take_rest, ibeq_dec, encN, slN, st_M, os_M, encPR, slM_sl]
    refine callO.pc (pc49 i) ?_
    simp (config := { maxSteps := 2000000 }) -implicitDefEqProofs +contextual (disch := first | assumption | omega | decide +kernel) only [push_cast, ↓capI, br2_true, br2_false, frk_tt, frk_tf, frk_f, frkD_tt, frkD_tf, frkD_f, pk2_true, pk2_false, imp_true, seval, Nat.reduceLeDiff, Nat.reduceEqDiff, reduceCtorEq, ↓reduceIte, reduceCtorEq, fmN, fm0, take_N, toN1, slN_nil, cfg0, take_rest, ibeq_dec, encN, slN, st_M, os_M, encPR, slM_sl]
    refine callO.pc gi ?_
    simp (config := { maxSteps := 2000000 }) -implicitDefEqProofs +contextual (disch := first | assumption | omega | decide +kernel) only [push_cast, ↓capI, br2_true, br2_false, frk_tt, frk_tf, frk_f, frkD_tt, frkD_tf, frkD_f, pk2_true, pk2_false, imp_true, seval, Nat.reduceLeDiff, Nat.reduceEqDiff, reduceCtorEq, ↓reduceIte, reduceCtorEq, fmN, fm0, take_N, toN1, slN_nil, cfg0, take_rest, ibeq_dec, encN, slN, st_M, os_M, encPR, slM_sl]
    refine ⟨i + 1, by omega, by (try simp only); omega, ?_⟩; exact Gn.canon (by first | rfl | (simp [List.append_nil]; rfl)) (by simp [wk, slN]) (by simp [List.length_append]) (by simp [bel_PR, bel_slM, bel_slN, belN, bel_Ns]) (by simp [bel_PR, bel_slM, bel_slN, belN, bel_Ns])
  · simp (config := { maxSteps := 2000000 }) -implicitDefEqProofs +contextual (disch := first | assumption | omega | decide +kernel) only [push_cast, ↓capI, br2_true, br2_false, frk_tt, frk_tf, frk_f, frkD_tt, frkD_tf, frkD_f, pk2_true, pk2_false, imp_true, seval, Nat.reduceLeDiff, Nat.reduceEqDiff, reduceCtorEq, ↓reduceIte, reduceCtorEq, fmN, fm0, take_N, toN1, slN_nil, cfg0, take_rest, ibeq_dec, encN, slN, st_M, os_M, encPR, slM_sl]
    refine endK.ret ?_ (by first | rfl | simp [bel_PR, bel_slM, bel_slN, belN, bel_Ns]); simp [bel_PR, bel_slM, bel_slN, belN, bel_Ns, fzs_ok, imp, lenOK_iff, List.take_of_length_le, evRes, getT, getO, setO, fzs, fz, fzH, Nat.beq, retV, Res.then, ldT, ldR, mkV, getV, fmN, fm0, take_N, toN1, slN_nil, tt_3, tt_4, tt_5, tt_9, tt_22, tt_26, tt_36, tt_43, tt_67, tt_101, cfg0, take_rest, ibeq_dec, encN, slN, st_M, os_M, encPR, slM_sl, Tryz.f63,  encPR, slM_sl]
theorem pcFld (s : List UInt8) (hs : s.length ≤ 100000) (hh : noHead s) : AnsR 63 [.str s] s (pFld s) := by
  have key : ∀ i0 : Nat, i0 ≤ 2 → (∀ j : Nat, j < i0 → begins s (fname j ++ [61]) = false) → begins s (fname i0 ++ [61]) = true → pFld s = pTest i0 (s.drop ((fname i0).length + 1)) → AnsR 63 [.str s] s (pFld s) := by
    intro i0 hi hb h e
    have hl := begins_le h
    rw [List.length_append, List.length_singleton] at hl
    obtain ⟨l, r, g, g1, g2, g3⟩ := pc74r i0 (s.drop ((fname i0).length + 1)) (by rw [List.length_drop]; omega)
    rw [List.length_drop] at g2
    rw [e]
    exact ⟨l, r, pc63f s hs hh i0 hi hb h l r _ g, by omega, g3⟩
  cases b0 : begins s (fname 0 ++ [61])
  case true => exact key 0 (by decide) (fun j hj => absurd hj (Nat.not_lt_zero j)) b0 (by rw [pFld, if_pos b0]; rfl)
  cases b1 : begins s (fname 1 ++ [61])
  case true =>
    refine key 1 (by decide) (fun j hj => ?_) b1 (by rw [pFld, if_neg (by rw [b0]; simp), if_pos b1]; rfl)
    have : j = 0 := by omega
    rw [this]; exact b0
  cases b2 : begins s (fname 2 ++ [61])
  case true =>
    refine key 2 (by decide) (fun j hj => ?_) b2 (by rw [pFld, if_neg (by rw [b0]; simp), if_neg (by rw [b1]; simp), if_pos b2]; rfl)
    have : j = 0 ∨ j = 1 := by omega
    rcases this with e | e <;> rw [e] <;> assumption
  have e : pFld s = none := by
    rw [pFld, if_neg (by rw [b0]; simp), if_neg (by rw [b1]; simp), if_neg (by rw [b2]; simp)]
  rw [e]
  refine ⟨[], [], pc63n s hs hh (fun j hj => ?_), by simp, fun p t e => by cases e⟩
  have : j = 0 ∨ j = 1 ∨ j = 2 := by omega
  rcases this with e | e | e <;> rw [e] <;> assumption
theorem pc63r : ∀ k, k ≤ 100001 → ∀ s : List UInt8, s.length < k → AnsR 63 [.str s] s (pNot k s)
  | 0, _, s, h => absurd h (Nat.not_lt_zero _)
  | k + 1, hk, s, hs => by
    have ih := pc63r k (by omega)
    have g1 := pc47 s [33]
    have g2 := pc47 s [116, 114, 117, 101]
    have g3 := pc47 s [102, 97, 108, 115, 101]
    have g4 := pc47 s [40]
    have hd : (s.drop 1).length = s.length - 1 := List.length_drop
    have hd1 : (s.drop 1).take (s.length - 1) = s.drop 1 := List.take_of_length_le (by omega)
    rw [pNot]
    by_cases h1 : begins s [33] = true
    · have hl := begins_le h1
      simp only [List.length_cons, List.length_nil] at hl
      obtain ⟨l, r, g, e1, e2⟩ := ih (s.drop 1) (by omega)
      rw [h1] at g1
      rw [if_pos h1]
      have hj := pc48m 4 l [] (by omega) (by simp)
      simp only [slM_sl, List.isEmpty_nil, List.flatMap_nil, List.length_nil] at hj
      refine ⟨jn 4 l [], r, ?_, by rw [jn_len, List.length_nil]; omega, ?_⟩
      · have e : ((pNot k (s.drop 1)).map fun q => (Pr.un (op0 4) q.1, q.2)).isSome = (pNot k (s.drop 1)).isSome := by
          cases pNot k (s.drop 1) <;> rfl
        rw [e]
        refine PC.walk tok mixed cfg0 Tryz.func63 rfl Tryz.call63 (by simp [bel_PR, bel_slM, bel_slN, belN, bel_Ns]) (by first | rfl | simp [bel_PR, bel_slM, bel_slN, belN, bel_Ns]) ?_; simp (config := { maxSteps := 2000000 }) -implicitDefEqProofs +contextual (disch := first | assumption | omega | decide +kernel) only [push_cast, ↓capI, br2_true, br2_false, frk_tt, frk_tf, frk_f, frkD_tt, frkD_tf, frkD_f, pk2_true, pk2_false, imp_true, seval, Nat.reduceLeDiff, Nat.reduceEqDiff, reduceCtorEq, ↓reduceIte, reduceCtorEq, fmN, fm0, take_N, toN1, slN_nil, cfg0, take_rest, ibeq_dec, encN, slN, st_M, os_M, encPR, slM_sl, Tryz.ntmps63]
        refine callO.pc g1 ?_
        simp (config := { maxSteps := 2000000 }) -implicitDefEqProofs +contextual (disch := first | assumption | omega | decide +kernel) only [push_cast, ↓capI, br2_true, br2_false, frk_tt, frk_tf, frk_f, frkD_tt, frkD_tf, frkD_f, pk2_true, pk2_false, imp_true, seval, Nat.reduceLeDiff, Nat.reduceEqDiff, reduceCtorEq, ↓reduceIte, reduceCtorEq, fmN, fm0, take_N, toN1, slN_nil, cfg0, take_rest, ibeq_dec, encN, slN, st_M, os_M, encPR, slM_sl, hd1]
        refine callO.pc g ?_
        simp (config := { maxSteps := 2000000 }) -implicitDefEqProofs +contextual (disch := first | assumption | omega | decide +kernel) only [push_cast, ↓capI, br2_true, br2_false, frk_tt, frk_tf, frk_f, frkD_tt, frkD_tf, frkD_f, pk2_true, pk2_false, imp_true, seval, Nat.reduceLeDiff, Nat.reduceEqDiff, reduceCtorEq, ↓reduceIte, reduceCtorEq, fmN, fm0, take_N, toN1, slN_nil, cfg0, take_rest, ibeq_dec, encN, slN, st_M, os_M, encPR, slM_sl]
        refine callO.pc hj ?_
        simp (config := { maxSteps := 2000000 }) -implicitDefEqProofs +contextual (disch := first | assumption | omega | decide +kernel) only [push_cast, ↓capI, br2_true, br2_false, frk_tt, frk_tf, frk_f, frkD_tt, frkD_tf, frkD_f, pk2_true, pk2_false, imp_true, seval, Nat.reduceLeDiff, Nat.reduceEqDiff, reduceCtorEq, ↓reduceIte, reduceCtorEq, fmN, fm0, take_N, toN1, slN_nil, cfg0, take_rest, ibeq_dec, encN, slN, st_M, os_M, encPR, slM_sl]
        refine endK.ret ?_ (by first | rfl | simp [bel_PR, bel_slM, bel_slN, belN, bel_Ns]); simp [bel_PR, bel_slM, bel_slN, belN, bel_Ns, fzs_ok, imp, lenOK_iff, List.take_of_length_le, evRes, getT, getO, setO, fzs, fz, fzH, Nat.beq, retV, Res.then, ldT, ldR, mkV, getV, fmN, fm0, take_N, toN1, slN_nil, tt_3, tt_4, tt_5, tt_9, tt_22, tt_26, tt_36, tt_43, tt_67, tt_101, cfg0, take_rest, ibeq_dec, encN, slN, st_M, os_M, encPR, slM_sl, Tryz.f63,  encPR, slM_sl]
      · intro p t e
        cases hn : pNot k (s.drop 1) with
        | none => rw [hn] at e; cases e
        | some q =>
          obtain ⟨y, u⟩ := q
          rw [hn] at e
          cases e
          obtain ⟨e1, e2⟩ := e2 _ _ hn
          refine ⟨?_, e2⟩
          rw [flat, ← e1, jn, List.append_nil]
          rfl
    have f1 := Bool.eq_false_iff.2 h1
    rw [f1] at g1
    rw [if_neg h1]
    by_cases h2 : begins s [116, 114, 117, 101] = true
    · have hl := begins_le h2
      simp only [List.length_cons, List.length_nil] at hl
      rw [h2] at g2
      rw [if_pos h2]
      have hd4 : (s.drop 4).take (s.length - 4) = s.drop 4 := List.take_of_length_le (by rw [List.length_drop]; exact Nat.le_refl _)
      refine ⟨[op0 1], s.drop 4, ?_, by rw [List.length_singleton, List.length_drop]; omega, fun p t e => by cases e; exact ⟨rfl, rfl⟩⟩
      refine PC.walk tok mixed cfg0 Tryz.func63 rfl Tryz.call63 (by simp [bel_PR, bel_slM, bel_slN, belN, bel_Ns]) (by first | rfl | simp [bel_PR, bel_slM, bel_slN, belN, bel_Ns]) ?_; simp (config := { maxSteps := 2000000 }) -implicitDefEqProofs +contextual (disch := first | assumption | omega | decide +kernel) only [push_cast, ↓capI, br2_true, br2_false, frk_tt, frk_tf, frk_f, frkD_tt, frkD_tf, frkD_f, pk2_true, pk2_false, imp_true, seval, Nat.reduceLeDiff, Nat.reduceEqDiff, reduceCtorEq, ↓reduceIte, reduceCtorEq, fmN, fm0, take_N, toN1, slN_nil, cfg0, take_rest, ibeq_dec, encN, slN, st_M, os_M, encPR, slM_sl, Tryz.ntmps63]
      refine callO.pc g1 ?_
      simp (config := { maxSteps := 2000000 }) -implicitDefEqProofs +contextual (disch := first | assumption | omega | decide +kernel) only [push_cast, ↓capI, br2_true, br2_false, frk_tt, frk_tf, frk_f, frkD_tt, frkD_tf, frkD_f, pk2_true, pk2_false, imp_true, seval, Nat.reduceLeDiff, Nat.reduceEqDiff, reduceCtorEq, ↓reduceIte, reduceCtorEq, fmN, fm0, take_N, toN1, slN_nil, cfg0, take_rest, ibeq_dec, encN, slN, st_M, os_M, encPR, slM_sl]
      refine callO.pc g2 ?_
      simp (config := { maxSteps := 2000000 }) -implicitDefEqProofs +contextual (disch := first | assumption | omega | decide +kernel) only [push_cast, ↓capI, br2_true, br2_false, frk_tt, frk_tf, frk_f, frkD_tt, frkD_tf, frkD_f, pk2_true, pk2_false, imp_true, seval, Nat.reduceLeDiff, Nat.reduceEqDiff, reduceCtorEq, ↓reduceIte, reduceCtorEq, fmN, fm0, take_N, toN1, slN_nil, cfg0, take_rest, ibeq_dec, encN, slN, st_M, os_M, encPR, slM_sl, hd4]
      refine endK.ret ?_ (by first | rfl | simp [bel_PR, bel_slM, bel_slN, belN, bel_Ns]); simp [bel_PR, bel_slM, bel_slN, belN, bel_Ns, fzs_ok, imp, lenOK_iff, List.take_of_length_le, evRes, getT, getO, setO, fzs, fz, fzH, Nat.beq, retV, Res.then, ldT, ldR, mkV, getV, fmN, fm0, take_N, toN1, slN_nil, tt_3, tt_4, tt_5, tt_9, tt_22, tt_26, tt_36, tt_43, tt_67, tt_101, cfg0, take_rest, ibeq_dec, encN, slN, st_M, os_M, encPR, slM_sl, Tryz.f63,  encPR, slM_sl, op0, hd4]
    have f2 := Bool.eq_false_iff.2 h2
    rw [f2] at g2
    rw [if_neg h2]
    by_cases h3 : begins s [102, 97, 108, 115, 101] = true
    · have hl := begins_le h3
      simp only [List.length_cons, List.length_nil] at hl
      rw [h3] at g3
      rw [if_pos h3]
      have hd5 : (s.drop 5).take (s.length - 5) = s.drop 5 := List.take_of_length_le (by rw [List.length_drop]; exact Nat.le_refl _)
      refine ⟨[op0 2], s.drop 5, ?_, by rw [List.length_singleton, List.length_drop]; omega, fun p t e => by cases e; exact ⟨rfl, rfl⟩⟩
      refine PC.walk tok mixed cfg0 Tryz.func63 rfl Tryz.call63 (by simp [bel_PR, bel_slM, bel_slN, belN, bel_Ns]) (by first | rfl | simp [bel_PR, bel_slM, bel_slN, belN, bel_Ns]) ?_; simp (config := { maxSteps := 2000000 }) -implicitDefEqProofs +contextual (disch := first | assumption | omega | decide +kernel) only [push_cast, ↓capI, br2_true, br2_false, frk_tt, frk_tf, frk_f, frkD_tt, frkD_tf, frkD_f, pk2_true, pk2_false, imp_true, seval, Nat.reduceLeDiff, Nat.reduceEqDiff, reduceCtorEq, ↓reduceIte, reduceCtorEq, fmN, fm0, take_N, toN1, slN_nil, cfg0, take_rest, ibeq_dec, encN, slN, st_M, os_M, encPR, slM_sl, Tryz.ntmps63]
      refine callO.pc g1 ?_
      simp (config := { maxSteps := 2000000 }) -implicitDefEqProofs +contextual (disch := first | assumption | omega | decide +kernel) only [push_cast, ↓capI, br2_true, br2_false, frk_tt, frk_tf, frk_f, frkD_tt, frkD_tf, frkD_f, pk2_true, pk2_false, imp_true, seval, Nat.reduceLeDiff, Nat.reduceEqDiff, reduceCtorEq, ↓reduceIte, reduceCtorEq, fmN, fm0, take_N, toN1, slN_nil, cfg0, take_rest, ibeq_dec, encN, slN, st_M, os_M, encPR, slM_sl]
      refine callO.pc g2 ?_
      simp (config := { maxSteps := 2000000 }) -implicitDefEqProofs +contextual (disch := first | assumption | omega | decide +kernel) only [push_cast, ↓capI, br2_true, br2_false, frk_tt, frk_tf, frk_f, frkD_tt, frkD_tf, frkD_f, pk2_true, pk2_false, imp_true, seval, Nat.reduceLeDiff, Nat.reduceEqDiff, reduceCtorEq, ↓reduceIte, reduceCtorEq, fmN, fm0, take_N, toN1, slN_nil, cfg0, take_rest, ibeq_dec, encN, slN, st_M, os_M, encPR, slM_sl]
      refine callO.pc g3 ?_
      simp (config := { maxSteps := 2000000 }) -implicitDefEqProofs +contextual (disch := first | assumption | omega | decide +kernel) only [push_cast, ↓capI, br2_true, br2_false, frk_tt, frk_tf, frk_f, frkD_tt, frkD_tf, frkD_f, pk2_true, pk2_false, imp_true, seval, Nat.reduceLeDiff, Nat.reduceEqDiff, reduceCtorEq, ↓reduceIte, reduceCtorEq, fmN, fm0, take_N, toN1, slN_nil, cfg0, take_rest, ibeq_dec, encN, slN, st_M, os_M, encPR, slM_sl, hd5]
      refine endK.ret ?_ (by first | rfl | simp [bel_PR, bel_slM, bel_slN, belN, bel_Ns]); simp [bel_PR, bel_slM, bel_slN, belN, bel_Ns, fzs_ok, imp, lenOK_iff, List.take_of_length_le, evRes, getT, getO, setO, fzs, fz, fzH, Nat.beq, retV, Res.then, ldT, ldR, mkV, getV, fmN, fm0, take_N, toN1, slN_nil, tt_3, tt_4, tt_5, tt_9, tt_22, tt_26, tt_36, tt_43, tt_67, tt_101, cfg0, take_rest, ibeq_dec, encN, slN, st_M, os_M, encPR, slM_sl, Tryz.f63,  encPR, slM_sl, op0, hd5]
    have f3 := Bool.eq_false_iff.2 h3
    rw [f3] at g3
    rw [if_neg h3]
    by_cases h4 : begins s [40] = true
    · have hl := begins_le h4
      simp only [List.length_cons, List.length_nil] at hl
      rw [h4] at g4
      obtain ⟨l, r, g, e1, e2⟩ := pcL26 (n := k) (by omega) (fun s hs => pcL46 (n := k) (by omega) ih s hs) (s.drop 1) (by omega)
      rw [if_pos h4]
      cases hn : lstP (lstP (pNot k) 5 38) 6 124 (s.drop 1) with
      | none =>
        rw [hn] at g
        refine ⟨[], [], ?_, Nat.zero_le _, fun p t e => by cases e⟩
        refine PC.walk tok mixed cfg0 Tryz.func63 rfl Tryz.call63 (by simp [bel_PR, bel_slM, bel_slN, belN, bel_Ns]) (by first | rfl | simp [bel_PR, bel_slM, bel_slN, belN, bel_Ns]) ?_; simp (config := { maxSteps := 2000000 }) -implicitDefEqProofs +contextual (disch := first | assumption | omega | decide +kernel) only [push_cast, ↓capI, br2_true, br2_false, frk_tt, frk_tf, frk_f, frkD_tt, frkD_tf, frkD_f, pk2_true, pk2_false, imp_true, seval, Nat.reduceLeDiff, Nat.reduceEqDiff, reduceCtorEq, ↓reduceIte, reduceCtorEq, fmN, fm0, take_N, toN1, slN_nil, cfg0, take_rest, ibeq_dec, encN, slN, st_M, os_M, encPR, slM_sl, Tryz.ntmps63]
        refine callO.pc g1 ?_
        simp (config := { maxSteps := 2000000 }) -implicitDefEqProofs +contextual (disch := first | assumption | omega | decide +kernel) only [push_cast, ↓capI, br2_true, br2_false, frk_tt, frk_tf, frk_f, frkD_tt, frkD_tf, frkD_f, pk2_true, pk2_false, imp_true, seval, Nat.reduceLeDiff, Nat.reduceEqDiff, reduceCtorEq, ↓reduceIte, reduceCtorEq, fmN, fm0, take_N, toN1, slN_nil, cfg0, take_rest, ibeq_dec, encN, slN, st_M, os_M, encPR, slM_sl, hd1]
        refine callO.pc g2 ?_
        simp (config := { maxSteps := 2000000 }) -implicitDefEqProofs +contextual (disch := first | assumption | omega | decide +kernel) only [push_cast, ↓capI, br2_true, br2_false, frk_tt, frk_tf, frk_f, frkD_tt, frkD_tf, frkD_f, pk2_true, pk2_false, imp_true, seval, Nat.reduceLeDiff, Nat.reduceEqDiff, reduceCtorEq, ↓reduceIte, reduceCtorEq, fmN, fm0, take_N, toN1, slN_nil, cfg0, take_rest, ibeq_dec, encN, slN, st_M, os_M, encPR, slM_sl]
        refine callO.pc g3 ?_
        simp (config := { maxSteps := 2000000 }) -implicitDefEqProofs +contextual (disch := first | assumption | omega | decide +kernel) only [push_cast, ↓capI, br2_true, br2_false, frk_tt, frk_tf, frk_f, frkD_tt, frkD_tf, frkD_f, pk2_true, pk2_false, imp_true, seval, Nat.reduceLeDiff, Nat.reduceEqDiff, reduceCtorEq, ↓reduceIte, reduceCtorEq, fmN, fm0, take_N, toN1, slN_nil, cfg0, take_rest, ibeq_dec, encN, slN, st_M, os_M, encPR, slM_sl]
        refine callO.pc g4 ?_
        simp (config := { maxSteps := 2000000 }) -implicitDefEqProofs +contextual (disch := first | assumption | omega | decide +kernel) only [push_cast, ↓capI, br2_true, br2_false, frk_tt, frk_tf, frk_f, frkD_tt, frkD_tf, frkD_f, pk2_true, pk2_false, imp_true, seval, Nat.reduceLeDiff, Nat.reduceEqDiff, reduceCtorEq, ↓reduceIte, reduceCtorEq, fmN, fm0, take_N, toN1, slN_nil, cfg0, take_rest, ibeq_dec, encN, slN, st_M, os_M, encPR, slM_sl]
        (try simp (config := { maxSteps := 2000000 }) -implicitDefEqProofs +contextual (disch := first | assumption | omega | decide +kernel) only [push_cast, ↓capI, br2_true, br2_false, frk_tt, frk_tf, frk_f, frkD_tt, frkD_tf, frkD_f, pk2_true, pk2_false, imp_true, seval, Nat.reduceLeDiff, Nat.reduceEqDiff, reduceCtorEq, ↓reduceIte, reduceCtorEq, fmN, fm0, take_N, toN1, slN_nil, cfg0, take_rest, ibeq_dec, encN, slN, st_M, os_M, encPR, slM_sl, hd1])
        refine callO.pc g ?_
        simp (config := { maxSteps := 2000000 }) -implicitDefEqProofs +contextual (disch := first | assumption | omega | decide +kernel) only [push_cast, ↓capI, br2_true, br2_false, frk_tt, frk_tf, frk_f, frkD_tt, frkD_tf, frkD_f, pk2_true, pk2_false, imp_true, seval, Nat.reduceLeDiff, Nat.reduceEqDiff, reduceCtorEq, ↓reduceIte, reduceCtorEq, fmN, fm0, take_N, toN1, slN_nil, cfg0, take_rest, ibeq_dec, encN, slN, st_M, os_M, encPR, slM_sl]
        refine endK.ret ?_ (by first | rfl | simp [bel_PR, bel_slM, bel_slN, belN, bel_Ns]); simp [bel_PR, bel_slM, bel_slN, belN, bel_Ns, fzs_ok, imp, lenOK_iff, List.take_of_length_le, evRes, getT, getO, setO, fzs, fz, fzH, Nat.beq, retV, Res.then, ldT, ldR, mkV, getV, fmN, fm0, take_N, toN1, slN_nil, tt_3, tt_4, tt_5, tt_9, tt_22, tt_26, tt_36, tt_43, tt_67, tt_101, cfg0, take_rest, ibeq_dec, encN, slN, st_M, os_M, encPR, slM_sl, Tryz.f63,  encPR, slM_sl]
      | some q =>
        obtain ⟨p, u⟩ := q
        rw [hn] at g
        obtain ⟨q1, q2⟩ := e2 p u hn
        subst q1 q2
        simp only
        have g5 := pc47 r [41]
        cases hb : begins r [41]
        · rw [hb] at g5
          rw [if_neg (by simp)]
          refine ⟨[], [], ?_, Nat.zero_le _, fun p t e => by cases e⟩
          refine PC.walk tok mixed cfg0 Tryz.func63 rfl Tryz.call63 (by simp [bel_PR, bel_slM, bel_slN, belN, bel_Ns]) (by first | rfl | simp [bel_PR, bel_slM, bel_slN, belN, bel_Ns]) ?_; simp (config := { maxSteps := 2000000 }) -implicitDefEqProofs +contextual (disch := first | assumption | omega | decide +kernel) only [push_cast, ↓capI, br2_true, br2_false, frk_tt, frk_tf, frk_f, frkD_tt, frkD_tf, frkD_f, pk2_true, pk2_false, imp_true, seval, Nat.reduceLeDiff, Nat.reduceEqDiff, reduceCtorEq, ↓reduceIte, reduceCtorEq, fmN, fm0, take_N, toN1, slN_nil, cfg0, take_rest, ibeq_dec, encN, slN, st_M, os_M, encPR, slM_sl, Tryz.ntmps63]
          refine callO.pc g1 ?_
          simp (config := { maxSteps := 2000000 }) -implicitDefEqProofs +contextual (disch := first | assumption | omega | decide +kernel) only [push_cast, ↓capI, br2_true, br2_false, frk_tt, frk_tf, frk_f, frkD_tt, frkD_tf, frkD_f, pk2_true, pk2_false, imp_true, seval, Nat.reduceLeDiff, Nat.reduceEqDiff, reduceCtorEq, ↓reduceIte, reduceCtorEq, fmN, fm0, take_N, toN1, slN_nil, cfg0, take_rest, ibeq_dec, encN, slN, st_M, os_M, encPR, slM_sl]
          refine callO.pc g2 ?_
          simp (config := { maxSteps := 2000000 }) -implicitDefEqProofs +contextual (disch := first | assumption | omega | decide +kernel) only [push_cast, ↓capI, br2_true, br2_false, frk_tt, frk_tf, frk_f, frkD_tt, frkD_tf, frkD_f, pk2_true, pk2_false, imp_true, seval, Nat.reduceLeDiff, Nat.reduceEqDiff, reduceCtorEq, ↓reduceIte, reduceCtorEq, fmN, fm0, take_N, toN1, slN_nil, cfg0, take_rest, ibeq_dec, encN, slN, st_M, os_M, encPR, slM_sl]
          refine callO.pc g3 ?_
          simp (config := { maxSteps := 2000000 }) -implicitDefEqProofs +contextual (disch := first | assumption | omega | decide +kernel) only [push_cast, ↓capI, br2_true, br2_false, frk_tt, frk_tf, frk_f, frkD_tt, frkD_tf, frkD_f, pk2_true, pk2_false, imp_true, seval, Nat.reduceLeDiff, Nat.reduceEqDiff, reduceCtorEq, ↓reduceIte, reduceCtorEq, fmN, fm0, take_N, toN1, slN_nil, cfg0, take_rest, ibeq_dec, encN, slN, st_M, os_M, encPR, slM_sl]
          refine callO.pc g4 ?_
          simp (config := { maxSteps := 2000000 }) -implicitDefEqProofs +contextual (disch := first | assumption | omega | decide +kernel) only [push_cast, ↓capI, br2_true, br2_false, frk_tt, frk_tf, frk_f, frkD_tt, frkD_tf, frkD_f, pk2_true, pk2_false, imp_true, seval, Nat.reduceLeDiff, Nat.reduceEqDiff, reduceCtorEq, ↓reduceIte, reduceCtorEq, fmN, fm0, take_N, toN1, slN_nil, cfg0, take_rest, ibeq_dec, encN, slN, st_M, os_M, encPR, slM_sl]
          (try simp (config := { maxSteps := 2000000 }) -implicitDefEqProofs +contextual (disch := first | assumption | omega | decide +kernel) only [push_cast, ↓capI, br2_true, br2_false, frk_tt, frk_tf, frk_f, frkD_tt, frkD_tf, frkD_f, pk2_true, pk2_false, imp_true, seval, Nat.reduceLeDiff, Nat.reduceEqDiff, reduceCtorEq, ↓reduceIte, reduceCtorEq, fmN, fm0, take_N, toN1, slN_nil, cfg0, take_rest, ibeq_dec, encN, slN, st_M, os_M, encPR, slM_sl, hd1])
          refine callO.pc g ?_
          simp (config := { maxSteps := 2000000 }) -implicitDefEqProofs +contextual (disch := first | assumption | omega | decide +kernel) only [push_cast, ↓capI, br2_true, br2_false, frk_tt, frk_tf, frk_f, frkD_tt, frkD_tf, frkD_f, pk2_true, pk2_false, imp_true, seval, Nat.reduceLeDiff, Nat.reduceEqDiff, reduceCtorEq, ↓reduceIte, reduceCtorEq, fmN, fm0, take_N, toN1, slN_nil, cfg0, take_rest, ibeq_dec, encN, slN, st_M, os_M, encPR, slM_sl]
          refine callO.pc g5 ?_
          simp (config := { maxSteps := 2000000 }) -implicitDefEqProofs +contextual (disch := first | assumption | omega | decide +kernel) only [push_cast, ↓capI, br2_true, br2_false, frk_tt, frk_tf, frk_f, frkD_tt, frkD_tf, frkD_f, pk2_true, pk2_false, imp_true, seval, Nat.reduceLeDiff, Nat.reduceEqDiff, reduceCtorEq, ↓reduceIte, reduceCtorEq, fmN, fm0, take_N, toN1, slN_nil, cfg0, take_rest, ibeq_dec, encN, slN, st_M, os_M, encPR, slM_sl]
          refine endK.ret ?_ (by first | rfl | simp [bel_PR, bel_slM, bel_slN, belN, bel_Ns]); simp [bel_PR, bel_slM, bel_slN, belN, bel_Ns, fzs_ok, imp, lenOK_iff, List.take_of_length_le, evRes, getT, getO, setO, fzs, fz, fzH, Nat.beq, retV, Res.then, ldT, ldR, mkV, getV, fmN, fm0, take_N, toN1, slN_nil, tt_3, tt_4, tt_5, tt_9, tt_22, tt_26, tt_36, tt_43, tt_67, tt_101, cfg0, take_rest, ibeq_dec, encN, slN, st_M, os_M, encPR, slM_sl, Tryz.f63,  encPR, slM_sl]
        · rw [hb] at g5
          have hbl := begins_le hb
          simp only [List.length_cons, List.length_nil] at hbl
          have hdr : (r.drop 1).take (r.length - 1) = r.drop 1 := List.take_of_length_le (by rw [List.length_drop]; exact Nat.le_refl _)
          rw [if_pos rfl]
          refine ⟨flat p, r.drop 1, ?_, by rw [List.length_drop]; omega, fun p t e => by cases e; exact ⟨rfl, rfl⟩⟩
          refine PC.walk tok mixed cfg0 Tryz.func63 rfl Tryz.call63 (by simp [bel_PR, bel_slM, bel_slN, belN, bel_Ns]) (by first | rfl | simp [bel_PR, bel_slM, bel_slN, belN, bel_Ns]) ?_; simp (config := { maxSteps := 2000000 }) -implicitDefEqProofs +contextual (disch := first | assumption | omega | decide +kernel) only [push_cast, ↓capI, br2_true, br2_false, frk_tt, frk_tf, frk_f, frkD_tt, frkD_tf, frkD_f, pk2_true, pk2_false, imp_true, seval, Nat.reduceLeDiff, Nat.reduceEqDiff, reduceCtorEq, ↓reduceIte, reduceCtorEq, fmN, fm0, take_N, toN1, slN_nil, cfg0, take_rest, ibeq_dec, encN, slN, st_M, os_M, encPR, slM_sl, Tryz.ntmps63]
          refine callO.pc g1 ?_
          simp (config := { maxSteps := 2000000 }) -implicitDefEqProofs +contextual (disch := first | assumption | omega | decide +kernel) only [push_cast, ↓capI, br2_true, br2_false, frk_tt, frk_tf, frk_f, frkD_tt, frkD_tf, frkD_f, pk2_true, pk2_false, imp_true, seval, Nat.reduceLeDiff, Nat.reduceEqDiff, reduceCtorEq, ↓reduceIte, reduceCtorEq, fmN, fm0, take_N, toN1, slN_nil, cfg0, take_rest, ibeq_dec, encN, slN, st_M, os_M, encPR, slM_sl]
          refine callO.pc g2 ?_
          simp (config := { maxSteps := 2000000 }) -implicitDefEqProofs +contextual (disch := first | assumption | omega | decide +kernel) only [push_cast, ↓capI, br2_true, br2_false, frk_tt, frk_tf, frk_f, frkD_tt, frkD_tf, frkD_f, pk2_true, pk2_false, imp_true, seval, Nat.reduceLeDiff, Nat.reduceEqDiff, reduceCtorEq, ↓reduceIte, reduceCtorEq, fmN, fm0, take_N, toN1, slN_nil, cfg0, take_rest, ibeq_dec, encN, slN, st_M, os_M, encPR, slM_sl]
          refine callO.pc g3 ?_
          simp (config := { maxSteps := 2000000 }) -implicitDefEqProofs +contextual (disch := first | assumption | omega | decide +kernel) only [push_cast, ↓capI, br2_true, br2_false, frk_tt, frk_tf, frk_f, frkD_tt, frkD_tf, frkD_f, pk2_true, pk2_false, imp_true, seval, Nat.reduceLeDiff, Nat.reduceEqDiff, reduceCtorEq, ↓reduceIte, reduceCtorEq, fmN, fm0, take_N, toN1, slN_nil, cfg0, take_rest, ibeq_dec, encN, slN, st_M, os_M, encPR, slM_sl]
          refine callO.pc g4 ?_
          simp (config := { maxSteps := 2000000 }) -implicitDefEqProofs +contextual (disch := first | assumption | omega | decide +kernel) only [push_cast, ↓capI, br2_true, br2_false, frk_tt, frk_tf, frk_f, frkD_tt, frkD_tf, frkD_f, pk2_true, pk2_false, imp_true, seval, Nat.reduceLeDiff, Nat.reduceEqDiff, reduceCtorEq, ↓reduceIte, reduceCtorEq, fmN, fm0, take_N, toN1, slN_nil, cfg0, take_rest, ibeq_dec, encN, slN, st_M, os_M, encPR, slM_sl]
          (try simp (config := { maxSteps := 2000000 }) -implicitDefEqProofs +contextual (disch := first | assumption | omega | decide +kernel) only [push_cast, ↓capI, br2_true, br2_false, frk_tt, frk_tf, frk_f, frkD_tt, frkD_tf, frkD_f, pk2_true, pk2_false, imp_true, seval, Nat.reduceLeDiff, Nat.reduceEqDiff, reduceCtorEq, ↓reduceIte, reduceCtorEq, fmN, fm0, take_N, toN1, slN_nil, cfg0, take_rest, ibeq_dec, encN, slN, st_M, os_M, encPR, slM_sl, hd1])
          refine callO.pc g ?_
          simp (config := { maxSteps := 2000000 }) -implicitDefEqProofs +contextual (disch := first | assumption | omega | decide +kernel) only [push_cast, ↓capI, br2_true, br2_false, frk_tt, frk_tf, frk_f, frkD_tt, frkD_tf, frkD_f, pk2_true, pk2_false, imp_true, seval, Nat.reduceLeDiff, Nat.reduceEqDiff, reduceCtorEq, ↓reduceIte, reduceCtorEq, fmN, fm0, take_N, toN1, slN_nil, cfg0, take_rest, ibeq_dec, encN, slN, st_M, os_M, encPR, slM_sl]
          refine callO.pc g5 ?_
          simp (config := { maxSteps := 2000000 }) -implicitDefEqProofs +contextual (disch := first | assumption | omega | decide +kernel) only [push_cast, ↓capI, br2_true, br2_false, frk_tt, frk_tf, frk_f, frkD_tt, frkD_tf, frkD_f, pk2_true, pk2_false, imp_true, seval, Nat.reduceLeDiff, Nat.reduceEqDiff, reduceCtorEq, ↓reduceIte, reduceCtorEq, fmN, fm0, take_N, toN1, slN_nil, cfg0, take_rest, ibeq_dec, encN, slN, st_M, os_M, encPR, slM_sl, hdr]
          refine endK.ret ?_ (by first | rfl | simp [bel_PR, bel_slM, bel_slN, belN, bel_Ns]); simp [bel_PR, bel_slM, bel_slN, belN, bel_Ns, fzs_ok, imp, lenOK_iff, List.take_of_length_le, evRes, getT, getO, setO, fzs, fz, fzH, Nat.beq, retV, Res.then, ldT, ldR, mkV, getV, fmN, fm0, take_N, toN1, slN_nil, tt_3, tt_4, tt_5, tt_9, tt_22, tt_26, tt_36, tt_43, tt_67, tt_101, cfg0, take_rest, ibeq_dec, encN, slN, st_M, os_M, encPR, slM_sl, Tryz.f63,  encPR, slM_sl, hdr]
    rw [if_neg h4]
    exact pcFld s (by omega) ⟨f1, f2, f3, Bool.eq_false_iff.2 h4⟩
theorem pc26r (s : List UInt8) (hs : s.length ≤ 100000) : AnsR 26 [.str s] s (pOr (s.length + 1) s) :=
  pcL26 (n := s.length + 1) (by omega) (fun t ht => pcL46 (n := s.length + 1) (by omega) (pc63r (s.length + 1) (by omega)) t ht) s (Nat.lt_succ_self _)
end Go.Proofs.YtllfdnbnkncnhaaGreatDoor

/- Chapter 44: Parse, by the reference. -/
set_option maxRecDepth 100000
set_option maxHeartbeats 4000000
set_option linter.all false
namespace Go.Proofs.YtllfdnbnkncnhaaGreatDoor
open Go.Vm

theorem flat_isE (p : Pr) : (flat p).isEmpty = false := by
  cases h : flat p with
  | nil => exact absurd h (flat_ne p)
  | cons x l => rfl
theorem pc11 (s : List UInt8) : PC Tryz.prog 11 [.str s] (encMI (parP s)) := by
  by_cases h : 16384 < s.length
  · have e : parP s = ([], 4) := by rw [parP, if_pos h]
    rw [e]
    refine PC.walk tok mixed cfg0 Tryz.func11 rfl Tryz.call11 (by simp [bel_PR, bel_slM, bel_slN, belN, bel_Ns, bel_MI]) (by first | rfl | simp [bel_PR, bel_slM, bel_slN, belN, bel_Ns, bel_MI]) ?_; simp (config := { maxSteps := 2000000 }) -implicitDefEqProofs +contextual (disch := first | assumption | omega | decide +kernel) only [push_cast, ↓capI, br2_true, br2_false, frk_tt, frk_tf, frk_f, frkD_tt, frkD_tf, frkD_f, pk2_true, pk2_false, imp_true, seval, Nat.reduceLeDiff, Nat.reduceEqDiff, reduceCtorEq, ↓reduceIte, reduceCtorEq, fmN, fm0, take_N, toN1, slN_nil, cfg0, take_rest, ibeq_dec, encN, slN, st_M, os_M, encPR, slM_sl, Tryz.ntmps11]
    refine endK.ret ?_ (by first | rfl | simp [bel_PR, bel_slM, bel_slN, belN, bel_Ns, bel_MI]); simp [evRes, getT, retV, Tryz.f11,  encMI, slM_nil]
  have e : parP s = parQ s (pOr (s.length + 1) s) := by rw [parP, if_neg h]
  rw [e]
  obtain ⟨l, r, g, hl, hr⟩ := pc26r s (by omega)
  have heat := pOr_eats (s.length + 1) s
  cases hx : pOr (s.length + 1) s with
  | none =>
    rw [hx] at g
    refine PC.walk tok mixed cfg0 Tryz.func11 rfl Tryz.call11 (by simp [bel_PR, bel_slM, bel_slN, belN, bel_Ns, bel_MI]) (by first | rfl | simp [bel_PR, bel_slM, bel_slN, belN, bel_Ns, bel_MI]) ?_; simp (config := { maxSteps := 2000000 }) -implicitDefEqProofs +contextual (disch := first | assumption | omega | decide +kernel) only [push_cast, ↓capI, br2_true, br2_false, frk_tt, frk_tf, frk_f, frkD_tt, frkD_tf, frkD_f, pk2_true, pk2_false, imp_true, seval, Nat.reduceLeDiff, Nat.reduceEqDiff, reduceCtorEq, ↓reduceIte, reduceCtorEq, fmN, fm0, take_N, toN1, slN_nil, cfg0, take_rest, ibeq_dec, encN, slN, st_M, os_M, encPR, slM_sl, Tryz.ntmps11]
    refine callO.pc g ?_
    simp (config := { maxSteps := 2000000 }) -implicitDefEqProofs +contextual (disch := first | assumption | omega | decide +kernel) only [push_cast, ↓capI, br2_true, br2_false, frk_tt, frk_tf, frk_f, frkD_tt, frkD_tf, frkD_f, pk2_true, pk2_false, imp_true, seval, Nat.reduceLeDiff, Nat.reduceEqDiff, reduceCtorEq, ↓reduceIte, reduceCtorEq, fmN, fm0, take_N, toN1, slN_nil, cfg0, take_rest, ibeq_dec, encN, slN, st_M, os_M, encPR, slM_sl]
    refine endK.ret ?_ (by first | rfl | simp [bel_PR, bel_slM, bel_slN, belN, bel_Ns, bel_MI]); simp [evRes, getT, retV, Tryz.f11,  parQ, encMI, slM_nil]
  | some q =>
    obtain ⟨p, t⟩ := q
    rw [hx] at g
    obtain ⟨q1, q2⟩ := hr p t hx
    subst q1 q2
    obtain ⟨hlen, hok⟩ := heat p _ hx
    cases r with
    | cons c u =>
      have hne : (c :: u = []) = False := eq_false (List.cons_ne_nil _ _)
      refine PC.walk tok mixed cfg0 Tryz.func11 rfl Tryz.call11 (by simp [bel_PR, bel_slM, bel_slN, belN, bel_Ns, bel_MI]) (by first | rfl | simp [bel_PR, bel_slM, bel_slN, belN, bel_Ns, bel_MI]) ?_; simp (config := { maxSteps := 2000000 }) -implicitDefEqProofs +contextual (disch := first | assumption | omega | decide +kernel) only [push_cast, ↓capI, br2_true, br2_false, frk_tt, frk_tf, frk_f, frkD_tt, frkD_tf, frkD_f, pk2_true, pk2_false, imp_true, seval, Nat.reduceLeDiff, Nat.reduceEqDiff, reduceCtorEq, ↓reduceIte, reduceCtorEq, fmN, fm0, take_N, toN1, slN_nil, cfg0, take_rest, ibeq_dec, encN, slN, st_M, os_M, encPR, slM_sl, Tryz.ntmps11]
      refine callO.pc g ?_
      simp (config := { maxSteps := 2000000 }) -implicitDefEqProofs +contextual (disch := first | assumption | omega | decide +kernel) only [push_cast, ↓capI, br2_true, br2_false, frk_tt, frk_tf, frk_f, frkD_tt, frkD_tf, frkD_f, pk2_true, pk2_false, imp_true, seval, Nat.reduceLeDiff, Nat.reduceEqDiff, reduceCtorEq, ↓reduceIte, reduceCtorEq, fmN, fm0, take_N, toN1, slN_nil, cfg0, take_rest, ibeq_dec, encN, slN, st_M, os_M, encPR, slM_sl, hne]
      refine endK.ret ?_ (by first | rfl | simp [bel_PR, bel_slM, bel_slN, belN, bel_Ns, bel_MI]); simp [evRes, getT, retV, Tryz.f11,  parQ, encMI, slM_nil]
    | nil =>
      have hE := flat_isE p
      by_cases h24 : 24 < (flat p).length
      · refine PC.walk tok mixed cfg0 Tryz.func11 rfl Tryz.call11 (by simp [bel_PR, bel_slM, bel_slN, belN, bel_Ns, bel_MI]) (by first | rfl | simp [bel_PR, bel_slM, bel_slN, belN, bel_Ns, bel_MI]) ?_; simp (config := { maxSteps := 2000000 }) -implicitDefEqProofs +contextual (disch := first | assumption | omega | decide +kernel) only [push_cast, ↓capI, br2_true, br2_false, frk_tt, frk_tf, frk_f, frkD_tt, frkD_tf, frkD_f, pk2_true, pk2_false, imp_true, seval, Nat.reduceLeDiff, Nat.reduceEqDiff, reduceCtorEq, ↓reduceIte, reduceCtorEq, fmN, fm0, take_N, toN1, slN_nil, cfg0, take_rest, ibeq_dec, encN, slN, st_M, os_M, encPR, slM_sl, Tryz.ntmps11]
        refine callO.pc g ?_
        simp (config := { maxSteps := 2000000 }) -implicitDefEqProofs +contextual (disch := first | assumption | omega | decide +kernel) only [push_cast, ↓capI, br2_true, br2_false, frk_tt, frk_tf, frk_f, frkD_tt, frkD_tf, frkD_f, pk2_true, pk2_false, imp_true, seval, Nat.reduceLeDiff, Nat.reduceEqDiff, reduceCtorEq, ↓reduceIte, reduceCtorEq, fmN, fm0, take_N, toN1, slN_nil, cfg0, take_rest, ibeq_dec, encN, slN, st_M, os_M, encPR, slM_sl, h24, hE]
        refine endK.ret ?_ (by first | rfl | simp [bel_PR, bel_slM, bel_slN, belN, bel_Ns, bel_MI]); simp [evRes, getT, retV, Tryz.f11,  parQ, encMI, slM_nil, h24]
      · have i1 := pc27 (flat p) (by omega) p 0 [] hok (by rw [List.drop_zero, List.append_nil])
        by_cases ht : tx p = s
        · refine PC.walk tok mixed cfg0 Tryz.func11 rfl Tryz.call11 (by simp [bel_PR, bel_slM, bel_slN, belN, bel_Ns, bel_MI]) (by first | rfl | simp [bel_PR, bel_slM, bel_slN, belN, bel_Ns, bel_MI]) ?_; simp (config := { maxSteps := 2000000 }) -implicitDefEqProofs +contextual (disch := first | assumption | omega | decide +kernel) only [push_cast, ↓capI, br2_true, br2_false, frk_tt, frk_tf, frk_f, frkD_tt, frkD_tf, frkD_f, pk2_true, pk2_false, imp_true, seval, Nat.reduceLeDiff, Nat.reduceEqDiff, reduceCtorEq, ↓reduceIte, reduceCtorEq, fmN, fm0, take_N, toN1, slN_nil, cfg0, take_rest, ibeq_dec, encN, slN, st_M, os_M, encPR, slM_sl, Tryz.ntmps11]
          refine callO.pc g ?_
          simp (config := { maxSteps := 2000000 }) -implicitDefEqProofs +contextual (disch := first | assumption | omega | decide +kernel) only [push_cast, ↓capI, br2_true, br2_false, frk_tt, frk_tf, frk_f, frkD_tt, frkD_tf, frkD_f, pk2_true, pk2_false, imp_true, seval, Nat.reduceLeDiff, Nat.reduceEqDiff, reduceCtorEq, ↓reduceIte, reduceCtorEq, fmN, fm0, take_N, toN1, slN_nil, cfg0, take_rest, ibeq_dec, encN, slN, st_M, os_M, encPR, slM_sl, h24, hE]
          refine callO.pc i1 ?_
          simp (config := { maxSteps := 2000000 }) -implicitDefEqProofs +contextual (disch := first | assumption | omega | decide +kernel) only [push_cast, ↓capI, br2_true, br2_false, frk_tt, frk_tf, frk_f, frkD_tt, frkD_tf, frkD_f, pk2_true, pk2_false, imp_true, seval, Nat.reduceLeDiff, Nat.reduceEqDiff, reduceCtorEq, ↓reduceIte, reduceCtorEq, fmN, fm0, take_N, toN1, slN_nil, cfg0, take_rest, ibeq_dec, encN, slN, st_M, os_M, encPR, slM_sl, ht]
          refine endK.ret ?_ (by first | rfl | simp [bel_PR, bel_slM, bel_slN, belN, bel_Ns, bel_MI]); simp [evRes, getT, retV, Tryz.f11,  parQ, encMI, slM_cons (flat_ne p), h24, ht, slN]
        · refine PC.walk tok mixed cfg0 Tryz.func11 rfl Tryz.call11 (by simp [bel_PR, bel_slM, bel_slN, belN, bel_Ns, bel_MI]) (by first | rfl | simp [bel_PR, bel_slM, bel_slN, belN, bel_Ns, bel_MI]) ?_; simp (config := { maxSteps := 2000000 }) -implicitDefEqProofs +contextual (disch := first | assumption | omega | decide +kernel) only [push_cast, ↓capI, br2_true, br2_false, frk_tt, frk_tf, frk_f, frkD_tt, frkD_tf, frkD_f, pk2_true, pk2_false, imp_true, seval, Nat.reduceLeDiff, Nat.reduceEqDiff, reduceCtorEq, ↓reduceIte, reduceCtorEq, fmN, fm0, take_N, toN1, slN_nil, cfg0, take_rest, ibeq_dec, encN, slN, st_M, os_M, encPR, slM_sl, Tryz.ntmps11]
          refine callO.pc g ?_
          simp (config := { maxSteps := 2000000 }) -implicitDefEqProofs +contextual (disch := first | assumption | omega | decide +kernel) only [push_cast, ↓capI, br2_true, br2_false, frk_tt, frk_tf, frk_f, frkD_tt, frkD_tf, frkD_f, pk2_true, pk2_false, imp_true, seval, Nat.reduceLeDiff, Nat.reduceEqDiff, reduceCtorEq, ↓reduceIte, reduceCtorEq, fmN, fm0, take_N, toN1, slN_nil, cfg0, take_rest, ibeq_dec, encN, slN, st_M, os_M, encPR, slM_sl, h24, hE]
          refine callO.pc i1 ?_
          simp (config := { maxSteps := 2000000 }) -implicitDefEqProofs +contextual (disch := first | assumption | omega | decide +kernel) only [push_cast, ↓capI, br2_true, br2_false, frk_tt, frk_tf, frk_f, frkD_tt, frkD_tf, frkD_f, pk2_true, pk2_false, imp_true, seval, Nat.reduceLeDiff, Nat.reduceEqDiff, reduceCtorEq, ↓reduceIte, reduceCtorEq, fmN, fm0, take_N, toN1, slN_nil, cfg0, take_rest, ibeq_dec, encN, slN, st_M, os_M, encPR, slM_sl, ht]
          refine endK.ret ?_ (by first | rfl | simp [bel_PR, bel_slM, bel_slN, belN, bel_Ns, bel_MI]); simp [evRes, getT, retV, Tryz.f11,  parQ, encMI, slM_nil, h24, ht]
end Go.Proofs.YtllfdnbnkncnhaaGreatDoor

/- Chapter 44: the law PredicateParses as a contract. -/
set_option maxRecDepth 100000
set_option maxHeartbeats 4000000
set_option linter.all false
namespace Go.Proofs.YtllfdnbnkncnhaaGreatDoor
open Go.Vm Go.ChangeShapes Go.WideShapes Go.ChangeAt Go.RowKit

theorem eqM (l : List Nd) (h : l.length ≤ 4000000) : PC Tryz.prog 12 [slM l, slM l] (.bool true) := by
  refine PC.lax ?_
  rw [laxs, laxs, laxs, lax_M]
  exact eq_refl26 l h
theorem parP_cases (s : List UInt8) : (∃ p, okP p ∧ (flat p).length ≤ 24 ∧ tx p = s ∧ parP s = (flat p, 0)) ∨ ((parP s).1 = [] ∧ (parP s).2 ≠ 0) := by
  rw [parP]
  split
  · exact .inr ⟨rfl, by simp⟩
  rename_i h
  have heat := pOr_eats (s.length + 1) s
  cases hx : pOr (s.length + 1) s with
  | none => exact .inr ⟨rfl, by simp [parQ]⟩
  | some q =>
    obtain ⟨p, t⟩ := q
    obtain ⟨hlen, hok⟩ := heat p _ hx
    cases t with
    | cons c u => exact .inr ⟨rfl, by simp [parQ]⟩
    | nil =>
      rw [parQ]
      split
      · exact .inr ⟨rfl, by simp⟩
      split
      · rename_i h24 ht
        exact .inl ⟨p, hok, by omega, ht, rfl⟩
      · exact .inr ⟨rfl, by simp⟩
theorem pc4 (s : List UInt8) : PC Tryz.prog 4 [.str s] (.bool true) := by
  by_cases hl : 500 < s.length
  · refine PC.walk tok mixed cfg0 Tryz.func4 rfl Tryz.call4 (by simp [bel_slM, bel_slN, bel_MI]) (by first | rfl | simp [bel_slM, bel_slN, bel_MI]) ?_; simp (config := { maxSteps := 2000000 }) -implicitDefEqProofs +contextual (disch := first | assumption | omega | decide +kernel) only [push_cast, ↓capI, br2_true, br2_false, frk_tt, frk_tf, frk_f, frkD_tt, frkD_tf, frkD_f, pk2_true, pk2_false, imp_true, seval, Nat.reduceLeDiff, Nat.reduceEqDiff, reduceCtorEq, ↓reduceIte, reduceCtorEq, cfg0, st_M, os_M, encMI, Tryz.ntmps4]
    refine callO.pc pc6 ?_
    simp (config := { maxSteps := 2000000 }) -implicitDefEqProofs +contextual (disch := first | assumption | omega | decide +kernel) only [push_cast, ↓capI, br2_true, br2_false, frk_tt, frk_tf, frk_f, frkD_tt, frkD_tf, frkD_f, pk2_true, pk2_false, imp_true, seval, Nat.reduceLeDiff, Nat.reduceEqDiff, reduceCtorEq, ↓reduceIte, reduceCtorEq, cfg0, st_M, os_M, encMI]
    refine endK.ret ?_ (by first | rfl | simp [bel_slM, bel_slN, bel_MI]); simp [evRes, getT, retV, Tryz.f4]
  have h10 := pc10 s
  have h11 := pc11 s
  rcases parP_cases s with ⟨p, hok, h24, ht, e⟩ | ⟨e1, e2⟩
  · rw [e] at h10 h11
    have hck := tree_checkP hok h24
    have h13 := pc13 (flat p) (by omega) s 0 ⟨hck.symm, .inl ⟨hck, p, hok, rfl, ht.symm⟩⟩
    rw [← slM_cons (flat_ne p)] at h13
    have h12 := eqM (flat p) (by omega)
    refine PC.walk tok mixed cfg0 Tryz.func4 rfl Tryz.call4 (by simp [bel_slM, bel_slN, bel_MI]) (by first | rfl | simp [bel_slM, bel_slN, bel_MI]) ?_; simp (config := { maxSteps := 2000000 }) -implicitDefEqProofs +contextual (disch := first | assumption | omega | decide +kernel) only [push_cast, ↓capI, br2_true, br2_false, frk_tt, frk_tf, frk_f, frkD_tt, frkD_tf, frkD_f, pk2_true, pk2_false, imp_true, seval, Nat.reduceLeDiff, Nat.reduceEqDiff, reduceCtorEq, ↓reduceIte, reduceCtorEq, cfg0, st_M, os_M, encMI, Tryz.ntmps4]
    refine callO.pc h10 ?_
    simp (config := { maxSteps := 2000000 }) -implicitDefEqProofs +contextual (disch := first | assumption | omega | decide +kernel) only [push_cast, ↓capI, br2_true, br2_false, frk_tt, frk_tf, frk_f, frkD_tt, frkD_tf, frkD_f, pk2_true, pk2_false, imp_true, seval, Nat.reduceLeDiff, Nat.reduceEqDiff, reduceCtorEq, ↓reduceIte, reduceCtorEq, cfg0, st_M, os_M, encMI]
    refine callO.pc h11 ?_
    simp (config := { maxSteps := 2000000 }) -implicitDefEqProofs +contextual (disch := first | assumption | omega | decide +kernel) only [push_cast, ↓capI, br2_true, br2_false, frk_tt, frk_tf, frk_f, frkD_tt, frkD_tf, frkD_f, pk2_true, pk2_false, imp_true, seval, Nat.reduceLeDiff, Nat.reduceEqDiff, reduceCtorEq, ↓reduceIte, reduceCtorEq, cfg0, st_M, os_M, encMI]
    refine callO.pc h12 ?_
    simp (config := { maxSteps := 2000000 }) -implicitDefEqProofs +contextual (disch := first | assumption | omega | decide +kernel) only [push_cast, ↓capI, br2_true, br2_false, frk_tt, frk_tf, frk_f, frkD_tt, frkD_tf, frkD_f, pk2_true, pk2_false, imp_true, seval, Nat.reduceLeDiff, Nat.reduceEqDiff, reduceCtorEq, ↓reduceIte, reduceCtorEq, cfg0, st_M, os_M, encMI]
    refine callO.pc h13 ?_
    simp (config := { maxSteps := 2000000 }) -implicitDefEqProofs +contextual (disch := first | assumption | omega | decide +kernel) only [push_cast, ↓capI, br2_true, br2_false, frk_tt, frk_tf, frk_f, frkD_tt, frkD_tf, frkD_f, pk2_true, pk2_false, imp_true, seval, Nat.reduceLeDiff, Nat.reduceEqDiff, reduceCtorEq, ↓reduceIte, reduceCtorEq, cfg0, st_M, os_M, encMI]
    refine callO.pc pc6 ?_
    simp (config := { maxSteps := 2000000 }) -implicitDefEqProofs +contextual (disch := first | assumption | omega | decide +kernel) only [push_cast, ↓capI, br2_true, br2_false, frk_tt, frk_tf, frk_f, frkD_tt, frkD_tf, frkD_f, pk2_true, pk2_false, imp_true, seval, Nat.reduceLeDiff, Nat.reduceEqDiff, reduceCtorEq, ↓reduceIte, reduceCtorEq, cfg0, st_M, os_M, encMI]
    refine endK.ret ?_ (by first | rfl | simp [bel_slM, bel_slN, bel_MI]); simp [evRes, getT, retV, Tryz.f4]
  · have h12 := eqM (parP s).1 (by rw [e1]; exact Nat.zero_le _)
    refine PC.walk tok mixed cfg0 Tryz.func4 rfl Tryz.call4 (by simp [bel_slM, bel_slN, bel_MI]) (by first | rfl | simp [bel_slM, bel_slN, bel_MI]) ?_; simp (config := { maxSteps := 2000000 }) -implicitDefEqProofs +contextual (disch := first | assumption | omega | decide +kernel) only [push_cast, ↓capI, br2_true, br2_false, frk_tt, frk_tf, frk_f, frkD_tt, frkD_tf, frkD_f, pk2_true, pk2_false, imp_true, seval, Nat.reduceLeDiff, Nat.reduceEqDiff, reduceCtorEq, ↓reduceIte, reduceCtorEq, cfg0, st_M, os_M, encMI, Tryz.ntmps4]
    refine callO.pc h10 ?_
    simp (config := { maxSteps := 2000000 }) -implicitDefEqProofs +contextual (disch := first | assumption | omega | decide +kernel) only [push_cast, ↓capI, br2_true, br2_false, frk_tt, frk_tf, frk_f, frkD_tt, frkD_tf, frkD_f, pk2_true, pk2_false, imp_true, seval, Nat.reduceLeDiff, Nat.reduceEqDiff, reduceCtorEq, ↓reduceIte, reduceCtorEq, cfg0, st_M, os_M, encMI]
    refine callO.pc h11 ?_
    simp (config := { maxSteps := 2000000 }) -implicitDefEqProofs +contextual (disch := first | assumption | omega | decide +kernel) only [push_cast, ↓capI, br2_true, br2_false, frk_tt, frk_tf, frk_f, frkD_tt, frkD_tf, frkD_f, pk2_true, pk2_false, imp_true, seval, Nat.reduceLeDiff, Nat.reduceEqDiff, reduceCtorEq, ↓reduceIte, reduceCtorEq, cfg0, st_M, os_M, encMI]
    refine callO.pc h12 ?_
    simp (config := { maxSteps := 2000000 }) -implicitDefEqProofs +contextual (disch := first | assumption | omega | decide +kernel) only [push_cast, ↓capI, br2_true, br2_false, frk_tt, frk_tf, frk_f, frkD_tt, frkD_tf, frkD_f, pk2_true, pk2_false, imp_true, seval, Nat.reduceLeDiff, Nat.reduceEqDiff, reduceCtorEq, ↓reduceIte, reduceCtorEq, cfg0, st_M, os_M, encMI, e2]
    refine callO.pc pc6 ?_
    simp (config := { maxSteps := 2000000 }) -implicitDefEqProofs +contextual (disch := first | assumption | omega | decide +kernel) only [push_cast, ↓capI, br2_true, br2_false, frk_tt, frk_tf, frk_f, frkD_tt, frkD_tf, frkD_f, pk2_true, pk2_false, imp_true, seval, Nat.reduceLeDiff, Nat.reduceEqDiff, reduceCtorEq, ↓reduceIte, reduceCtorEq, cfg0, st_M, os_M, encMI]
    refine endK.ret ?_ (by first | rfl | simp [bel_slM, bel_slN, bel_MI]); simp [evRes, getT, retV, Tryz.f4]
theorem law4 (xs : List V) (h : TypA tt 8 [9] xs) : PC Tryz.prog 4 xs (.bool true) := by
  obtain ⟨v, vs, cs, rfl, rfl, h1, h⟩ := typA_cons h
  obtain rfl := typA_nil h
  obtain ⟨a, ha⟩ := typ_S h1
  refine PC.lax ?_
  rw [laxs, laxs, ha]
  exact pc4 a
end Go.Proofs.YtllfdnbnkncnhaaGreatDoor


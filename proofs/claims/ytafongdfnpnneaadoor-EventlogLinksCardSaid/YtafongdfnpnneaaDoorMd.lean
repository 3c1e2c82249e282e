/-
  Joined by a program from the texts Rln Rwd Rev Rfp.
-/
import Derived.Test.YtafongdfnpnneaaDoorMc
/- Chapter 53: the reference's line of an event. -/
set_option maxRecDepth 100000
set_option maxHeartbeats 4000000
set_option linter.all false
namespace Go.Proofs.YtafongdfnpnneaaDoor
open Go.Vm

theorem pc40 (n : Int) : PC Tryd.prog 40 [.int .i64 n] (.bool (okN n)) := by
  refine PC.walk tok mixed cfg0 Tryd.func40 rfl Tryd.call40 (by simp [bel_encE, bel_agE]) (by first | rfl | simp [bel_encE, bel_agE]) ?_; simp (maxSteps := 2000000) -implicitDefEqProofs +contextual (disch := first | assumption | omega | decide +kernel) only [push_cast, ↓capI, br2_true, br2_false, frk_tt, frk_tf, frk_f, frkD_tt, frkD_tf, frkD_f, pk2_true, pk2_false, imp_true, seval, Nat.reduceLeDiff, Nat.reduceEqDiff, reduceCtorEq, ↓reduceIte, cfg0, encE, agE, Nat.mul_one, Tryd.ntmps40]
  by_cases h : 0 ≤ n
  · simp (maxSteps := 2000000) -implicitDefEqProofs +contextual (disch := first | assumption | omega | decide +kernel) only [push_cast, ↓capI, br2_true, br2_false, frk_tt, frk_tf, frk_f, frkD_tt, frkD_tf, frkD_f, pk2_true, pk2_false, imp_true, seval, Nat.reduceLeDiff, Nat.reduceEqDiff, reduceCtorEq, ↓reduceIte, cfg0, encE, agE, Nat.mul_one, h]
    refine endK.ret ?_ (by first | rfl | simp [bel_encE, bel_agE]); simp [evRes, getT, retV, Tryd.f40,  okN, h]
  · simp (maxSteps := 2000000) -implicitDefEqProofs +contextual (disch := first | assumption | omega | decide +kernel) only [push_cast, ↓capI, br2_true, br2_false, frk_tt, frk_tf, frk_f, frkD_tt, frkD_tf, frkD_f, pk2_true, pk2_false, imp_true, seval, Nat.reduceLeDiff, Nat.reduceEqDiff, reduceCtorEq, ↓reduceIte, cfg0, encE, agE, Nat.mul_one, h]
    refine endK.ret ?_ (by first | rfl | simp [bel_encE, bel_agE]); simp [evRes, getT, retV, Tryd.f40,  okN, h]
theorem pc41 (n : Int) (h1 : -9223372036854775808 ≤ n) (h2 : n ≤ 9223372036854775807) : PC Tryd.prog 41 [.int .i64 n] (.str (fmtI n)) := by
  refine PC.walk tok mixed cfg0 Tryd.func41 rfl Tryd.call41 (by simp [bel_encE, bel_agE]) (by first | rfl | simp [bel_encE, bel_agE]) ?_; simp (maxSteps := 2000000) -implicitDefEqProofs +contextual (disch := first | assumption | omega | decide +kernel) only [push_cast, ↓capI, br2_true, br2_false, frk_tt, frk_tf, frk_f, frkD_tt, frkD_tf, frkD_f, pk2_true, pk2_false, imp_true, seval, Nat.reduceLeDiff, Nat.reduceEqDiff, reduceCtorEq, ↓reduceIte, cfg0, encE, agE, Nat.mul_one, Tryd.ntmps41]
  refine callO.pc (fmtR n h1 h2) ?_
  simp (maxSteps := 2000000) -implicitDefEqProofs +contextual (disch := first | assumption | omega | decide +kernel) only [push_cast, ↓capI, br2_true, br2_false, frk_tt, frk_tf, frk_f, frkD_tt, frkD_tf, frkD_f, pk2_true, pk2_false, imp_true, seval, Nat.reduceLeDiff, Nat.reduceEqDiff, reduceCtorEq, ↓reduceIte, cfg0, encE, agE, Nat.mul_one]
  refine endK.ret ?_ (by first | rfl | simp [bel_encE, bel_agE]); simp [evRes, getT, retV, Tryd.f41]
def i64s (e : Ev) : Prop := (-9223372036854775808 ≤ e.a ∧ e.a ≤ 9223372036854775807) ∧ (-9223372036854775808 ≤ e.b ∧ e.b ≤ 9223372036854775807) ∧ -9223372036854775808 ≤ e.c ∧ e.c ≤ 9223372036854775807
theorem fmtI_ok {n : Int} (h : okN n = true) : fmtI n = dgs 9 n.toNat := by
  simp only [okN, Bool.and_eq_true, decide_eq_true_eq] at h
  rw [fmtI, if_pos h.1]
  exact dgs_more 9 20 n.toNat (by omega) (by decide) (by decide)
def encSI (s : List UInt8) (n : Int) : V := .tup [.str s, .int .i64 n]
def refL (e : Ev) : V := encSI (if chkE e = 0 then lineE e else []) (chkE e)
theorem lin1 {a b c : Int} : lineE ⟨1, a, b, c⟩ = 112 :: 97 :: 99 :: 107 :: 101 :: 116 :: 32 :: (dgs 9 a.toNat ++ [32, 115, 101, 110, 116, 32, 98, 121, 32, 104, 111, 115, 116, 32] ++ dgs 9 b.toNat) := by
  simp [lineE, pat, jnw, wd, fld, wPacket, wSent, wBy, wHost]
theorem lin2 {a b c : Int} (h : ¬ c = -1) : lineE ⟨2, a, b, c⟩ = 112 :: 97 :: 99 :: 107 :: 101 :: 116 :: 32 :: (dgs 9 a.toNat ++ [32, 97, 116, 32, 115, 119, 105, 116, 99, 104, 32] ++ dgs 9 b.toNat ++ [32, 116, 111, 32, 112, 111, 114, 116, 32] ++ dgs 9 c.toNat) := by
  simp [lineE, pat, jnw, wd, fld, wPacket, wAt, wSwitch, wTo, wPort, h]
theorem lin2d {a b : Int} : lineE ⟨2, a, b, -1⟩ = 112 :: 97 :: 99 :: 107 :: 101 :: 116 :: 32 :: (dgs 9 a.toNat ++ [32, 97, 116, 32, 115, 119, 105, 116, 99, 104, 32] ++ dgs 9 b.toNat ++ [32, 100, 114, 111, 112, 112, 101, 100]) := by
  simp [lineE, pat, jnw, wd, fld, wPacket, wAt, wSwitch, wDropped]
theorem lin3 {a b c : Int} : lineE ⟨3, a, b, c⟩ = 112 :: 97 :: 99 :: 107 :: 101 :: 116 :: 32 :: (dgs 9 a.toNat ++ [32, 100, 101, 108, 105, 118, 101, 114, 101, 100, 32, 116, 111, 32, 104, 111, 115, 116, 32] ++ dgs 9 b.toNat) := by
  simp [lineE, pat, jnw, wd, fld, wPacket, wDelivered, wTo, wHost]
theorem lin4 {a b c : Int} : lineE ⟨4, a, b, c⟩ = 112 :: 97 :: 99 :: 107 :: 101 :: 116 :: 32 :: (dgs 9 a.toNat ++ [32, 108, 111, 115, 116, 32, 97, 116, 32, 115, 119, 105, 116, 99, 104, 32] ++ dgs 9 b.toNat ++ [32, 112, 111, 114, 116, 32] ++ dgs 9 c.toNat) := by
  simp [lineE, pat, jnw, wd, fld, wPacket, wLost, wAt, wSwitch, wPort]
theorem lin5 {a b c : Int} : lineE ⟨5, a, b, c⟩ = 112 :: 104 :: 97 :: 115 :: 101 :: 32 :: (dgs 9 a.toNat ++ [32, 115, 116, 101, 112, 32] ++ dgs 9 b.toNat) := by
  simp [lineE, pat, jnw, wd, fld, wPhase, wStep]
theorem lin6 {a b c : Int} (h : ¬ b = 1) : lineE ⟨6, a, b, c⟩ = 108 :: 105 :: 110 :: 107 :: 32 :: (dgs 9 a.toNat ++ [32, 117, 112]) := by
  simp [lineE, pat, jnw, wd, fld, wLink, wUp, h]
theorem lin6d {a c : Int} : lineE ⟨6, a, 1, c⟩ = 108 :: 105 :: 110 :: 107 :: 32 :: (dgs 9 a.toNat ++ [32, 100, 111, 119, 110]) := by
  simp [lineE, pat, jnw, wd, fld, wLink, wDown]
theorem chk_1 {a b c : Int} : chkE ⟨1, a, b, c⟩ = if (okN a && okN b) = true then 0 else 9 := by
  simp [chkE, pat, okIt, fld]
  cases okN a <;> cases okN b <;> simp
theorem chk_2 {a b c : Int} (h : ¬ c = -1) : chkE ⟨2, a, b, c⟩ = if (okN a && okN b && okN c) = true then 0 else 9 := by
  simp [chkE, pat, okIt, fld, h]
  cases okN a <;> cases okN b <;> cases okN c <;> simp
theorem chk_2d {a b : Int} : chkE ⟨2, a, b, -1⟩ = if (okN a && okN b) = true then 0 else 9 := by
  simp [chkE, pat, okIt, fld]
  cases okN a <;> cases okN b <;> simp
theorem chk_3 {a b c : Int} : chkE ⟨3, a, b, c⟩ = if (okN a && okN b) = true then 0 else 9 := by
  simp [chkE, pat, okIt, fld]
  cases okN a <;> cases okN b <;> simp
theorem chk_4 {a b c : Int} : chkE ⟨4, a, b, c⟩ = if (okN a && okN b && okN c) = true then 0 else 9 := by
  simp [chkE, pat, okIt, fld]
  cases okN a <;> cases okN b <;> cases okN c <;> simp
theorem chk_5 {a b c : Int} : chkE ⟨5, a, b, c⟩ = if 1 ≤ a ∧ a ≤ 3 ∧ okN b = true then 0 else 9 := by
  by_cases h1 : 1 ≤ a
  · by_cases h3 : a ≤ 3
    · have ha : okN a = true := by simp [okN]; omega
      have n1 : ¬ a < 1 := by omega
      have n3 : ¬ 3 < a := by omega
      simp [chkE, pat, okIt, fld, ha, h1, h3, n1, n3]
      cases okN b <;> simp
    · have n3 : 3 < a := by omega
      simp [chkE, pat, okIt, fld, h3, n3]
  · have n1 : a < 1 := by omega
    simp [chkE, pat, okIt, fld, h1, n1]
theorem chk_6 {a b c : Int} : chkE ⟨6, a, b, c⟩ = if okN a = true ∧ (b = 0 ∨ b = 1) then 0 else 9 := by
  by_cases h1 : b = 1
  · subst h1
    simp [chkE, pat, okIt, fld]
    cases okN a <;> simp
  · by_cases h0 : b = 0
    · subst h0
      simp [chkE, pat, okIt, fld]
      cases okN a <;> simp
    · have : b < 0 ∨ 1 < b := by omega
      simp [chkE, pat, okIt, fld, h1, h0, this]
theorem pc26_1 (a b c : Int) (h : i64s ⟨1, a, b, c⟩) : PC Tryd.prog 26 [agE ⟨1, a, b, c⟩] (refL ⟨1, a, b, c⟩) := by
  obtain ⟨⟨a1, a2⟩, ⟨b1, b2⟩, c1, c2⟩ := h
  simp only at a1 a2 b1 b2 c1 c2
  have la := fmtI_len a
  have fa := @fmtI_ok a
  have lb := fmtI_len b
  have fb := @fmtI_ok b
  refine PC.walk tok mixed cfg0 Tryd.func26 rfl Tryd.call26 (by simp [bel_encE, bel_agE]) (by rfl) ?_; simp (maxSteps := 2000000) -implicitDefEqProofs +contextual (disch := first | assumption | omega | decide +kernel) only [push_cast, ↓capI, br2_true, br2_false, frk_tt, frk_tf, frk_f, frkD_tt, frkD_tf, frkD_f, pk2_true, pk2_false, imp_true, seval, Nat.reduceLeDiff, Nat.reduceEqDiff, reduceCtorEq, ↓reduceIte, cfg0, encE, agE, Nat.mul_one, Tryd.ntmps26]
  refine callO.pc (pc40 a) ?_
  simp (maxSteps := 2000000) -implicitDefEqProofs +contextual (disch := first | assumption | omega | decide +kernel) only [push_cast, ↓capI, br2_true, br2_false, frk_tt, frk_tf, frk_f, frkD_tt, frkD_tf, frkD_f, pk2_true, pk2_false, imp_true, seval, Nat.reduceLeDiff, Nat.reduceEqDiff, reduceCtorEq, ↓reduceIte, cfg0, encE, agE, Nat.mul_one]
  cases ha : okN a with
  | false =>
    simp (maxSteps := 2000000) -implicitDefEqProofs +contextual (disch := first | assumption | omega | decide +kernel) only [push_cast, ↓capI, br2_true, br2_false, frk_tt, frk_tf, frk_f, frkD_tt, frkD_tf, frkD_f, pk2_true, pk2_false, imp_true, seval, Nat.reduceLeDiff, Nat.reduceEqDiff, reduceCtorEq, ↓reduceIte, cfg0, encE, agE, Nat.mul_one]
    refine callG.pc1 (pc41 a a1 a2) ?_
    simp (maxSteps := 2000000) -implicitDefEqProofs +contextual (disch := first | assumption | omega | decide +kernel) only [push_cast, ↓capI, br2_true, br2_false, frk_tt, frk_tf, frk_f, frkD_tt, frkD_tf, frkD_f, pk2_true, pk2_false, imp_true, seval, Nat.reduceLeDiff, Nat.reduceEqDiff, reduceCtorEq, ↓reduceIte, cfg0, encE, agE, Nat.mul_one]
    refine callG.pc1 (pc41 b b1 b2) ?_
    simp (maxSteps := 2000000) -implicitDefEqProofs +contextual (disch := first | assumption | omega | decide +kernel) only [push_cast, ↓capI, br2_true, br2_false, frk_tt, frk_tf, frk_f, frkD_tt, frkD_tf, frkD_f, pk2_true, pk2_false, imp_true, seval, Nat.reduceLeDiff, Nat.reduceEqDiff, reduceCtorEq, ↓reduceIte, cfg0, encE, agE, Nat.mul_one]
    refine endK.ret ?_ (by first | rfl | simp [bel_encE, bel_agE]); simp [evRes, getT, retV, Tryd.f26,  refL, encSI, chk_1, ha]
  | true =>
    simp (maxSteps := 2000000) -implicitDefEqProofs +contextual (disch := first | assumption | omega | decide +kernel) only [push_cast, ↓capI, br2_true, br2_false, frk_tt, frk_tf, frk_f, frkD_tt, frkD_tf, frkD_f, pk2_true, pk2_false, imp_true, seval, Nat.reduceLeDiff, Nat.reduceEqDiff, reduceCtorEq, ↓reduceIte, cfg0, encE, agE, Nat.mul_one]
    refine callO.pc (pc40 b) ?_
    cases hb : okN b with
    | false =>
      simp (maxSteps := 2000000) -implicitDefEqProofs +contextual (disch := first | assumption | omega | decide +kernel) only [push_cast, ↓capI, br2_true, br2_false, frk_tt, frk_tf, frk_f, frkD_tt, frkD_tf, frkD_f, pk2_true, pk2_false, imp_true, seval, Nat.reduceLeDiff, Nat.reduceEqDiff, reduceCtorEq, ↓reduceIte, cfg0, encE, agE, Nat.mul_one]
      refine callG.pc1 (pc41 a a1 a2) ?_
      simp (maxSteps := 2000000) -implicitDefEqProofs +contextual (disch := first | assumption | omega | decide +kernel) only [push_cast, ↓capI, br2_true, br2_false, frk_tt, frk_tf, frk_f, frkD_tt, frkD_tf, frkD_f, pk2_true, pk2_false, imp_true, seval, Nat.reduceLeDiff, Nat.reduceEqDiff, reduceCtorEq, ↓reduceIte, cfg0, encE, agE, Nat.mul_one]
      refine callG.pc1 (pc41 b b1 b2) ?_
      simp (maxSteps := 2000000) -implicitDefEqProofs +contextual (disch := first | assumption | omega | decide +kernel) only [push_cast, ↓capI, br2_true, br2_false, frk_tt, frk_tf, frk_f, frkD_tt, frkD_tf, frkD_f, pk2_true, pk2_false, imp_true, seval, Nat.reduceLeDiff, Nat.reduceEqDiff, reduceCtorEq, ↓reduceIte, cfg0, encE, agE, Nat.mul_one]
      refine endK.ret ?_ (by first | rfl | simp [bel_encE, bel_agE]); simp [evRes, getT, retV, Tryd.f26,  refL, encSI, chk_1, ha, hb]
    | true =>
      simp (maxSteps := 2000000) -implicitDefEqProofs +contextual (disch := first | assumption | omega | decide +kernel) only [push_cast, ↓capI, br2_true, br2_false, frk_tt, frk_tf, frk_f, frkD_tt, frkD_tf, frkD_f, pk2_true, pk2_false, imp_true, seval, Nat.reduceLeDiff, Nat.reduceEqDiff, reduceCtorEq, ↓reduceIte, cfg0, encE, agE, Nat.mul_one]
      refine callG.pc1 (pc41 a a1 a2) ?_
      simp (maxSteps := 2000000) -implicitDefEqProofs +contextual (disch := first | assumption | omega | decide +kernel) only [push_cast, ↓capI, br2_true, br2_false, frk_tt, frk_tf, frk_f, frkD_tt, frkD_tf, frkD_f, pk2_true, pk2_false, imp_true, seval, Nat.reduceLeDiff, Nat.reduceEqDiff, reduceCtorEq, ↓reduceIte, cfg0, encE, agE, Nat.mul_one]
      refine callG.pc1 (pc41 b b1 b2) ?_
      simp (maxSteps := 2000000) -implicitDefEqProofs +contextual (disch := first | assumption | omega | decide +kernel) only [push_cast, ↓capI, br2_true, br2_false, frk_tt, frk_tf, frk_f, frkD_tt, frkD_tf, frkD_f, pk2_true, pk2_false, imp_true, seval, Nat.reduceLeDiff, Nat.reduceEqDiff, reduceCtorEq, ↓reduceIte, cfg0, encE, agE, Nat.mul_one]
      refine endK.ret ?_ (by first | rfl | simp [bel_encE, bel_agE]); simp [evRes, getT, retV, Tryd.f26,  refL, encSI, chk_1, ha, hb, lin1, fa ha, fb hb]
theorem pc26_3 (a b c : Int) (h : i64s ⟨3, a, b, c⟩) : PC Tryd.prog 26 [agE ⟨3, a, b, c⟩] (refL ⟨3, a, b, c⟩) := by
  obtain ⟨⟨a1, a2⟩, ⟨b1, b2⟩, c1, c2⟩ := h
  simp only at a1 a2 b1 b2 c1 c2
  have la := fmtI_len a
  have fa := @fmtI_ok a
  have lb := fmtI_len b
  have fb := @fmtI_ok b
  refine PC.walk tok mixed cfg0 Tryd.func26 rfl Tryd.call26 (by simp [bel_encE, bel_agE]) (by rfl) ?_; simp (maxSteps := 2000000) -implicitDefEqProofs +contextual (disch := first | assumption | omega | decide +kernel) only [push_cast, ↓capI, br2_true, br2_false, frk_tt, frk_tf, frk_f, frkD_tt, frkD_tf, frkD_f, pk2_true, pk2_false, imp_true, seval, Nat.reduceLeDiff, Nat.reduceEqDiff, reduceCtorEq, ↓reduceIte, cfg0, encE, agE, Nat.mul_one, Tryd.ntmps26]
  refine callO.pc (pc40 a) ?_
  simp (maxSteps := 2000000) -implicitDefEqProofs +contextual (disch := first | assumption | omega | decide +kernel) only [push_cast, ↓capI, br2_true, br2_false, frk_tt, frk_tf, frk_f, frkD_tt, frkD_tf, frkD_f, pk2_true, pk2_false, imp_true, seval, Nat.reduceLeDiff, Nat.reduceEqDiff, reduceCtorEq, ↓reduceIte, cfg0, encE, agE, Nat.mul_one]
  cases ha : okN a with
  | false =>
    simp (maxSteps := 2000000) -implicitDefEqProofs +contextual (disch := first | assumption | omega | decide +kernel) only [push_cast, ↓capI, br2_true, br2_false, frk_tt, frk_tf, frk_f, frkD_tt, frkD_tf, frkD_f, pk2_true, pk2_false, imp_true, seval, Nat.reduceLeDiff, Nat.reduceEqDiff, reduceCtorEq, ↓reduceIte, cfg0, encE, agE, Nat.mul_one]
    refine callG.pc1 (pc41 a a1 a2) ?_
    simp (maxSteps := 2000000) -implicitDefEqProofs +contextual (disch := first | assumption | omega | decide +kernel) only [push_cast, ↓capI, br2_true, br2_false, frk_tt, frk_tf, frk_f, frkD_tt, frkD_tf, frkD_f, pk2_true, pk2_false, imp_true, seval, Nat.reduceLeDiff, Nat.reduceEqDiff, reduceCtorEq, ↓reduceIte, cfg0, encE, agE, Nat.mul_one]
    refine callG.pc1 (pc41 b b1 b2) ?_
    simp (maxSteps := 2000000) -implicitDefEqProofs +contextual (disch := first | assumption | omega | decide +kernel) only [push_cast, ↓capI, br2_true, br2_false, frk_tt, frk_tf, frk_f, frkD_tt, frkD_tf, frkD_f, pk2_true, pk2_false, imp_true, seval, Nat.reduceLeDiff, Nat.reduceEqDiff, reduceCtorEq, ↓reduceIte, cfg0, encE, agE, Nat.mul_one]
    refine endK.ret ?_ (by first | rfl | simp [bel_encE, bel_agE]); simp [evRes, getT, retV, Tryd.f26,  refL, encSI, chk_3, ha]
  | true =>
    simp (maxSteps := 2000000) -implicitDefEqProofs +contextual (disch := first | assumption | omega | decide +kernel) only [push_cast, ↓capI, br2_true, br2_false, frk_tt, frk_tf, frk_f, frkD_tt, frkD_tf, frkD_f, pk2_true, pk2_false, imp_true, seval, Nat.reduceLeDiff, Nat.reduceEqDiff, reduceCtorEq, ↓reduceIte, cfg0, encE, agE, Nat.mul_one]
    refine callO.pc (pc40 b) ?_
    cases hb : okN b with
    | false =>
      simp (maxSteps := 2000000) -implicitDefEqProofs +contextual (disch := first | assumption | omega | decide +kernel) only [push_cast, ↓capI, br2_true, br2_false, frk_tt, frk_tf, frk_f, frkD_tt, frkD_tf, frkD_f, pk2_true, pk2_false, imp_true, seval, Nat.reduceLeDiff, Nat.reduceEqDiff, reduceCtorEq, ↓reduceIte, cfg0, encE, agE, Nat.mul_one]
      refine callG.pc1 (pc41 a a1 a2) ?_
      simp (maxSteps := 2000000) -implicitDefEqProofs +contextual (disch := first | assumption | omega | decide +kernel) only [push_cast, ↓capI, br2_true, br2_false, frk_tt, frk_tf, frk_f, frkD_tt, frkD_tf, frkD_f, pk2_true, pk2_false, imp_true, seval, Nat.reduceLeDiff, Nat.reduceEqDiff, reduceCtorEq, ↓reduceIte, cfg0, encE, agE, Nat.mul_one]
      refine callG.pc1 (pc41 b b1 b2) ?_
      simp (maxSteps := 2000000) -implicitDefEqProofs +contextual (disch := first | assumption | omega | decide +kernel) only [push_cast, ↓capI, br2_true, br2_false, frk_tt, frk_tf, frk_f, frkD_tt, frkD_tf, frkD_f, pk2_true, pk2_false, imp_true, seval, Nat.reduceLeDiff, Nat.reduceEqDiff, reduceCtorEq, ↓reduceIte, cfg0, encE, agE, Nat.mul_one]
      refine endK.ret ?_ (by first | rfl | simp [bel_encE, bel_agE]); simp [evRes, getT, retV, Tryd.f26,  refL, encSI, chk_3, ha, hb]
    | true =>
      simp (maxSteps := 2000000) -implicitDefEqProofs +contextual (disch := first | assumption | omega | decide +kernel) only [push_cast, ↓capI, br2_true, br2_false, frk_tt, frk_tf, frk_f, frkD_tt, frkD_tf, frkD_f, pk2_true, pk2_false, imp_true, seval, Nat.reduceLeDiff, Nat.reduceEqDiff, reduceCtorEq, ↓reduceIte, cfg0, encE, agE, Nat.mul_one]
      refine callG.pc1 (pc41 a a1 a2) ?_
      simp (maxSteps := 2000000) -implicitDefEqProofs +contextual (disch := first | assumption | omega | decide +kernel) only [push_cast, ↓capI, br2_true, br2_false, frk_tt, frk_tf, frk_f, frkD_tt, frkD_tf, frkD_f, pk2_true, pk2_false, imp_true, seval, Nat.reduceLeDiff, Nat.reduceEqDiff, reduceCtorEq, ↓reduceIte, cfg0, encE, agE, Nat.mul_one]
      refine callG.pc1 (pc41 b b1 b2) ?_
      simp (maxSteps := 2000000) -implicitDefEqProofs +contextual (disch := first | assumption | omega | decide +kernel) only [push_cast, ↓capI, br2_true, br2_false, frk_tt, frk_tf, frk_f, frkD_tt, frkD_tf, frkD_f, pk2_true, pk2_false, imp_true, seval, Nat.reduceLeDiff, Nat.reduceEqDiff, reduceCtorEq, ↓reduceIte, cfg0, encE, agE, Nat.mul_one]
      refine endK.ret ?_ (by first | rfl | simp [bel_encE, bel_agE]); simp [evRes, getT, retV, Tryd.f26,  refL, encSI, chk_3, ha, hb, lin3, fa ha, fb hb]
theorem pc26_4 (a b c : Int) (h : i64s ⟨4, a, b, c⟩) : PC Tryd.prog 26 [agE ⟨4, a, b, c⟩] (refL ⟨4, a, b, c⟩) := by
  obtain ⟨⟨a1, a2⟩, ⟨b1, b2⟩, c1, c2⟩ := h
  simp only at a1 a2 b1 b2 c1 c2
  have la := fmtI_len a
  have fa := @fmtI_ok a
  have lb := fmtI_len b
  have fb := @fmtI_ok b
  have lc := fmtI_len c
  have fc := @fmtI_ok c
  refine PC.walk tok mixed cfg0 Tryd.func26 rfl Tryd.call26 (by simp [bel_encE, bel_agE]) (by rfl) ?_; simp (maxSteps := 2000000) -implicitDefEqProofs +contextual (disch := first | assumption | omega | decide +kernel) only [push_cast, ↓capI, br2_true, br2_false, frk_tt, frk_tf, frk_f, frkD_tt, frkD_tf, frkD_f, pk2_true, pk2_false, imp_true, seval, Nat.reduceLeDiff, Nat.reduceEqDiff, reduceCtorEq, ↓reduceIte, cfg0, encE, agE, Nat.mul_one, Tryd.ntmps26]
  refine callO.pc (pc40 a) ?_
  simp (maxSteps := 2000000) -implicitDefEqProofs +contextual (disch := first | assumption | omega | decide +kernel) only [push_cast, ↓capI, br2_true, br2_false, frk_tt, frk_tf, frk_f, frkD_tt, frkD_tf, frkD_f, pk2_true, pk2_false, imp_true, seval, Nat.reduceLeDiff, Nat.reduceEqDiff, reduceCtorEq, ↓reduceIte, cfg0, encE, agE, Nat.mul_one]
  cases ha : okN a with
  | false =>
    simp (maxSteps := 2000000) -implicitDefEqProofs +contextual (disch := first | assumption | omega | decide +kernel) only [push_cast, ↓capI, br2_true, br2_false, frk_tt, frk_tf, frk_f, frkD_tt, frkD_tf, frkD_f, pk2_true, pk2_false, imp_true, seval, Nat.reduceLeDiff, Nat.reduceEqDiff, reduceCtorEq, ↓reduceIte, cfg0, encE, agE, Nat.mul_one]
    refine callG.pc1 (pc41 a a1 a2) ?_
    simp (maxSteps := 2000000) -implicitDefEqProofs +contextual (disch := first | assumption | omega | decide +kernel) only [push_cast, ↓capI, br2_true, br2_false, frk_tt, frk_tf, frk_f, frkD_tt, frkD_tf, frkD_f, pk2_true, pk2_false, imp_true, seval, Nat.reduceLeDiff, Nat.reduceEqDiff, reduceCtorEq, ↓reduceIte, cfg0, encE, agE, Nat.mul_one]
    refine callG.pc1 (pc41 b b1 b2) ?_
    simp (maxSteps := 2000000) -implicitDefEqProofs +contextual (disch := first | assumption | omega | decide +kernel) only [push_cast, ↓capI, br2_true, br2_false, frk_tt, frk_tf, frk_f, frkD_tt, frkD_tf, frkD_f, pk2_true, pk2_false, imp_true, seval, Nat.reduceLeDiff, Nat.reduceEqDiff, reduceCtorEq, ↓reduceIte, cfg0, encE, agE, Nat.mul_one]
    refine callG.pc1 (pc41 c c1 c2) ?_
    simp (maxSteps := 2000000) -implicitDefEqProofs +contextual (disch := first | assumption | omega | decide +kernel) only [push_cast, ↓capI, br2_true, br2_false, frk_tt, frk_tf, frk_f, frkD_tt, frkD_tf, frkD_f, pk2_true, pk2_false, imp_true, seval, Nat.reduceLeDiff, Nat.reduceEqDiff, reduceCtorEq, ↓reduceIte, cfg0, encE, agE, Nat.mul_one]
    refine endK.ret ?_ (by first | rfl | simp [bel_encE, bel_agE]); simp [evRes, getT, retV, Tryd.f26,  refL, encSI, chk_4, ha]
  | true =>
    simp (maxSteps := 2000000) -implicitDefEqProofs +contextual (disch := first | assumption | omega | decide +kernel) only [push_cast, ↓capI, br2_true, br2_false, frk_tt, frk_tf, frk_f, frkD_tt, frkD_tf, frkD_f, pk2_true, pk2_false, imp_true, seval, Nat.reduceLeDiff, Nat.reduceEqDiff, reduceCtorEq, ↓reduceIte, cfg0, encE, agE, Nat.mul_one]
    refine callO.pc (pc40 b) ?_
    cases hb : okN b with
    | false =>
      simp (maxSteps := 2000000) -implicitDefEqProofs +contextual (disch := first | assumption | omega | decide +kernel) only [push_cast, ↓capI, br2_true, br2_false, frk_tt, frk_tf, frk_f, frkD_tt, frkD_tf, frkD_f, pk2_true, pk2_false, imp_true, seval, Nat.reduceLeDiff, Nat.reduceEqDiff, reduceCtorEq, ↓reduceIte, cfg0, encE, agE, Nat.mul_one]
      refine callG.pc1 (pc41 a a1 a2) ?_
      simp (maxSteps := 2000000) -implicitDefEqProofs +contextual (disch := first | assumption | omega | decide +kernel) only [push_cast, ↓capI, br2_true, br2_false, frk_tt, frk_tf, frk_f, frkD_tt, frkD_tf, frkD_f, pk2_true, pk2_false, imp_true, seval, Nat.reduceLeDiff, Nat.reduceEqDiff, reduceCtorEq, ↓reduceIte, cfg0, encE, agE, Nat.mul_one]
      refine callG.pc1 (pc41 b b1 b2) ?_
      simp (maxSteps := 2000000) -implicitDefEqProofs +contextual (disch := first | assumption | omega | decide +kernel) only [push_cast, ↓capI, br2_true, br2_false, frk_tt, frk_tf, frk_f, frkD_tt, frkD_tf, frkD_f, pk2_true, pk2_false, imp_true, seval, Nat.reduceLeDiff, Nat.reduceEqDiff, reduceCtorEq, ↓reduceIte, cfg0, encE, agE, Nat.mul_one]
      refine callG.pc1 (pc41 c c1 c2) ?_
      simp (maxSteps := 2000000) -implicitDefEqProofs +contextual (disch := first | assumption | omega | decide +kernel) only [push_cast, ↓capI, br2_true, br2_false, frk_tt, frk_tf, frk_f, frkD_tt, frkD_tf, frkD_f, pk2_true, pk2_false, imp_true, seval, Nat.reduceLeDiff, Nat.reduceEqDiff, reduceCtorEq, ↓reduceIte, cfg0, encE, agE, Nat.mul_one]
      refine endK.ret ?_ (by first | rfl | simp [bel_encE, bel_agE]); simp [evRes, getT, retV, Tryd.f26,  refL, encSI, chk_4, ha, hb]
    | true =>
      simp (maxSteps := 2000000) -implicitDefEqProofs +contextual (disch := first | assumption | omega | decide +kernel) only [push_cast, ↓capI, br2_true, br2_false, frk_tt, frk_tf, frk_f, frkD_tt, frkD_tf, frkD_f, pk2_true, pk2_false, imp_true, seval, Nat.reduceLeDiff, Nat.reduceEqDiff, reduceCtorEq, ↓reduceIte, cfg0, encE, agE, Nat.mul_one]
      refine callO.pc (pc40 c) ?_
      cases hc : okN c with
      | false =>
        simp (maxSteps := 2000000) -implicitDefEqProofs +contextual (disch := first | assumption | omega | decide +kernel) only [push_cast, ↓capI, br2_true, br2_false, frk_tt, frk_tf, frk_f, frkD_tt, frkD_tf, frkD_f, pk2_true, pk2_false, imp_true, seval, Nat.reduceLeDiff, Nat.reduceEqDiff, reduceCtorEq, ↓reduceIte, cfg0, encE, agE, Nat.mul_one]
        refine callG.pc1 (pc41 a a1 a2) ?_
        simp (maxSteps := 2000000) -implicitDefEqProofs +contextual (disch := first | assumption | omega | decide +kernel) only [push_cast, ↓capI, br2_true, br2_false, frk_tt, frk_tf, frk_f, frkD_tt, frkD_tf, frkD_f, pk2_true, pk2_false, imp_true, seval, Nat.reduceLeDiff, Nat.reduceEqDiff, reduceCtorEq, ↓reduceIte, cfg0, encE, agE, Nat.mul_one]
        refine callG.pc1 (pc41 b b1 b2) ?_
        simp (maxSteps := 2000000) -implicitDefEqProofs +contextual (disch := first | assumption | omega | decide +kernel) only [push_cast, ↓capI, br2_true, br2_false, frk_tt, frk_tf, frk_f, frkD_tt, frkD_tf, frkD_f, pk2_true, pk2_false, imp_true, seval, Nat.reduceLeDiff, Nat.reduceEqDiff, reduceCtorEq, ↓reduceIte, cfg0, encE, agE, Nat.mul_one]
        refine callG.pc1 (pc41 c c1 c2) ?_
        simp (maxSteps := 2000000) -implicitDefEqProofs +contextual (disch := first | assumption | omega | decide +kernel) only [push_cast, ↓capI, br2_true, br2_false, frk_tt, frk_tf, frk_f, frkD_tt, frkD_tf, frkD_f, pk2_true, pk2_false, imp_true, seval, Nat.reduceLeDiff, Nat.reduceEqDiff, reduceCtorEq, ↓reduceIte, cfg0, encE, agE, Nat.mul_one]
        refine endK.ret ?_ (by first | rfl | simp [bel_encE, bel_agE]); simp [evRes, getT, retV, Tryd.f26,  refL, encSI, chk_4, ha, hb, hc]
      | true =>
        simp (maxSteps := 2000000) -implicitDefEqProofs +contextual (disch := first | assumption | omega | decide +kernel) only [push_cast, ↓capI, br2_true, br2_false, frk_tt, frk_tf, frk_f, frkD_tt, frkD_tf, frkD_f, pk2_true, pk2_false, imp_true, seval, Nat.reduceLeDiff, Nat.reduceEqDiff, reduceCtorEq, ↓reduceIte, cfg0, encE, agE, Nat.mul_one]
        refine callG.pc1 (pc41 a a1 a2) ?_
        simp (maxSteps := 2000000) -implicitDefEqProofs +contextual (disch := first | assumption | omega | decide +kernel) only [push_cast, ↓capI, br2_true, br2_false, frk_tt, frk_tf, frk_f, frkD_tt, frkD_tf, frkD_f, pk2_true, pk2_false, imp_true, seval, Nat.reduceLeDiff, Nat.reduceEqDiff, reduceCtorEq, ↓reduceIte, cfg0, encE, agE, Nat.mul_one]
        refine callG.pc1 (pc41 b b1 b2) ?_
        simp (maxSteps := 2000000) -implicitDefEqProofs +contextual (disch := first | assumption | omega | decide +kernel) only [push_cast, ↓capI, br2_true, br2_false, frk_tt, frk_tf, frk_f, frkD_tt, frkD_tf, frkD_f, pk2_true, pk2_false, imp_true, seval, Nat.reduceLeDiff, Nat.reduceEqDiff, reduceCtorEq, ↓reduceIte, cfg0, encE, agE, Nat.mul_one]
        refine callG.pc1 (pc41 c c1 c2) ?_
        simp (maxSteps := 2000000) -implicitDefEqProofs +contextual (disch := first | assumption | omega | decide +kernel) only [push_cast, ↓capI, br2_true, br2_false, frk_tt, frk_tf, frk_f, frkD_tt, frkD_tf, frkD_f, pk2_true, pk2_false, imp_true, seval, Nat.reduceLeDiff, Nat.reduceEqDiff, reduceCtorEq, ↓reduceIte, cfg0, encE, agE, Nat.mul_one]
        refine endK.ret ?_ (by first | rfl | simp [bel_encE, bel_agE]); simp [evRes, getT, retV, Tryd.f26,  refL, encSI, chk_4, ha, hb, hc, lin4, fa ha, fb hb, fc hc]
theorem pc26_2 (a b c : Int) (hn : ¬ c = -1) (h : i64s ⟨2, a, b, c⟩) : PC Tryd.prog 26 [agE ⟨2, a, b, c⟩] (refL ⟨2, a, b, c⟩) := by
  obtain ⟨⟨a1, a2⟩, ⟨b1, b2⟩, c1, c2⟩ := h
  simp only at a1 a2 b1 b2 c1 c2
  have la := fmtI_len a
  have fa := @fmtI_ok a
  have lb := fmtI_len b
  have fb := @fmtI_ok b
  have lc := fmtI_len c
  have fc := @fmtI_ok c
  refine PC.walk tok mixed cfg0 Tryd.func26 rfl Tryd.call26 (by simp [bel_encE, bel_agE]) (by rfl) ?_; simp (maxSteps := 2000000) -implicitDefEqProofs +contextual (disch := first | assumption | omega | decide +kernel) only [push_cast, ↓capI, br2_true, br2_false, frk_tt, frk_tf, frk_f, frkD_tt, frkD_tf, frkD_f, pk2_true, pk2_false, imp_true, seval, Nat.reduceLeDiff, Nat.reduceEqDiff, reduceCtorEq, ↓reduceIte, cfg0, encE, agE, Nat.mul_one, Tryd.ntmps26]
  refine callO.pc (pc40 a) ?_
  simp (maxSteps := 2000000) -implicitDefEqProofs +contextual (disch := first | assumption | omega | decide +kernel) only [push_cast, ↓capI, br2_true, br2_false, frk_tt, frk_tf, frk_f, frkD_tt, frkD_tf, frkD_f, pk2_true, pk2_false, imp_true, seval, Nat.reduceLeDiff, Nat.reduceEqDiff, reduceCtorEq, ↓reduceIte, cfg0, encE, agE, Nat.mul_one]
  cases ha : okN a with
  | false =>
    simp (maxSteps := 2000000) -implicitDefEqProofs +contextual (disch := first | assumption | omega | decide +kernel) only [push_cast, ↓capI, br2_true, br2_false, frk_tt, frk_tf, frk_f, frkD_tt, frkD_tf, frkD_f, pk2_true, pk2_false, imp_true, seval, Nat.reduceLeDiff, Nat.reduceEqDiff, reduceCtorEq, ↓reduceIte, cfg0, encE, agE, Nat.mul_one]
    refine callG.pc1 (pc41 a a1 a2) ?_
    simp (maxSteps := 2000000) -implicitDefEqProofs +contextual (disch := first | assumption | omega | decide +kernel) only [push_cast, ↓capI, br2_true, br2_false, frk_tt, frk_tf, frk_f, frkD_tt, frkD_tf, frkD_f, pk2_true, pk2_false, imp_true, seval, Nat.reduceLeDiff, Nat.reduceEqDiff, reduceCtorEq, ↓reduceIte, cfg0, encE, agE, Nat.mul_one]
    refine callG.pc1 (pc41 b b1 b2) ?_
    simp (maxSteps := 2000000) -implicitDefEqProofs +contextual (disch := first | assumption | omega | decide +kernel) only [push_cast, ↓capI, br2_true, br2_false, frk_tt, frk_tf, frk_f, frkD_tt, frkD_tf, frkD_f, pk2_true, pk2_false, imp_true, seval, Nat.reduceLeDiff, Nat.reduceEqDiff, reduceCtorEq, ↓reduceIte, cfg0, encE, agE, Nat.mul_one]
    refine callG.pc1 (pc41 c c1 c2) ?_
    simp (maxSteps := 2000000) -implicitDefEqProofs +contextual (disch := first | assumption | omega | decide +kernel) only [push_cast, ↓capI, br2_true, br2_false, frk_tt, frk_tf, frk_f, frkD_tt, frkD_tf, frkD_f, pk2_true, pk2_false, imp_true, seval, Nat.reduceLeDiff, Nat.reduceEqDiff, reduceCtorEq, ↓reduceIte, cfg0, encE, agE, Nat.mul_one]
    (try simp (maxSteps := 2000000) -implicitDefEqProofs +contextual (disch := first | assumption | omega | decide +kernel) only [push_cast, ↓capI, br2_true, br2_false, frk_tt, frk_tf, frk_f, frkD_tt, frkD_tf, frkD_f, pk2_true, pk2_false, imp_true, seval, Nat.reduceLeDiff, Nat.reduceEqDiff, reduceCtorEq, ↓reduceIte, cfg0, encE, agE, Nat.mul_one, hn])
    refine endK.ret ?_ (by first | rfl | simp [bel_encE, bel_agE]); simp [evRes, getT, retV, Tryd.f26,  refL, encSI, chk_2 hn, ha]
  | true =>
    simp (maxSteps := 2000000) -implicitDefEqProofs +contextual (disch := first | assumption | omega | decide +kernel) only [push_cast, ↓capI, br2_true, br2_false, frk_tt, frk_tf, frk_f, frkD_tt, frkD_tf, frkD_f, pk2_true, pk2_false, imp_true, seval, Nat.reduceLeDiff, Nat.reduceEqDiff, reduceCtorEq, ↓reduceIte, cfg0, encE, agE, Nat.mul_one]
    refine callO.pc (pc40 b) ?_
    cases hb : okN b with
    | false =>
      simp (maxSteps := 2000000) -implicitDefEqProofs +contextual (disch := first | assumption | omega | decide +kernel) only [push_cast, ↓capI, br2_true, br2_false, frk_tt, frk_tf, frk_f, frkD_tt, frkD_tf, frkD_f, pk2_true, pk2_false, imp_true, seval, Nat.reduceLeDiff, Nat.reduceEqDiff, reduceCtorEq, ↓reduceIte, cfg0, encE, agE, Nat.mul_one]
      refine callG.pc1 (pc41 a a1 a2) ?_
      simp (maxSteps := 2000000) -implicitDefEqProofs +contextual (disch := first | assumption | omega | decide +kernel) only [push_cast, ↓capI, br2_true, br2_false, frk_tt, frk_tf, frk_f, frkD_tt, frkD_tf, frkD_f, pk2_true, pk2_false, imp_true, seval, Nat.reduceLeDiff, Nat.reduceEqDiff, reduceCtorEq, ↓reduceIte, cfg0, encE, agE, Nat.mul_one]
      refine callG.pc1 (pc41 b b1 b2) ?_
      simp (maxSteps := 2000000) -implicitDefEqProofs +contextual (disch := first | assumption | omega | decide +kernel) only [push_cast, ↓capI, br2_true, br2_false, frk_tt, frk_tf, frk_f, frkD_tt, frkD_tf, frkD_f, pk2_true, pk2_false, imp_true, seval, Nat.reduceLeDiff, Nat.reduceEqDiff, reduceCtorEq, ↓reduceIte, cfg0, encE, agE, Nat.mul_one]
      refine callG.pc1 (pc41 c c1 c2) ?_
      simp (maxSteps := 2000000) -implicitDefEqProofs +contextual (disch := first | assumption | omega | decide +kernel) only [push_cast, ↓capI, br2_true, br2_false, frk_tt, frk_tf, frk_f, frkD_tt, frkD_tf, frkD_f, pk2_true, pk2_false, imp_true, seval, Nat.reduceLeDiff, Nat.reduceEqDiff, reduceCtorEq, ↓reduceIte, cfg0, encE, agE, Nat.mul_one]
      (try simp (maxSteps := 2000000) -implicitDefEqProofs +contextual (disch := first | assumption | omega | decide +kernel) only [push_cast, ↓capI, br2_true, br2_false, frk_tt, frk_tf, frk_f, frkD_tt, frkD_tf, frkD_f, pk2_true, pk2_false, imp_true, seval, Nat.reduceLeDiff, Nat.reduceEqDiff, reduceCtorEq, ↓reduceIte, cfg0, encE, agE, Nat.mul_one, hn])
      refine endK.ret ?_ (by first | rfl | simp [bel_encE, bel_agE]); simp [evRes, getT, retV, Tryd.f26,  refL, encSI, chk_2 hn, ha, hb]
    | true =>
      (try simp (maxSteps := 2000000) -implicitDefEqProofs +contextual (disch := first | assumption | omega | decide +kernel) only [push_cast, ↓capI, br2_true, br2_false, frk_tt, frk_tf, frk_f, frkD_tt, frkD_tf, frkD_f, pk2_true, pk2_false, imp_true, seval, Nat.reduceLeDiff, Nat.reduceEqDiff, reduceCtorEq, ↓reduceIte, cfg0, encE, agE, Nat.mul_one, hn])
      refine callO.pc (pc40 c) ?_
      cases hc : okN c with
      | false =>
        simp (maxSteps := 2000000) -implicitDefEqProofs +contextual (disch := first | assumption | omega | decide +kernel) only [push_cast, ↓capI, br2_true, br2_false, frk_tt, frk_tf, frk_f, frkD_tt, frkD_tf, frkD_f, pk2_true, pk2_false, imp_true, seval, Nat.reduceLeDiff, Nat.reduceEqDiff, reduceCtorEq, ↓reduceIte, cfg0, encE, agE, Nat.mul_one]
        refine callG.pc1 (pc41 a a1 a2) ?_
        simp (maxSteps := 2000000) -implicitDefEqProofs +contextual (disch := first | assumption | omega | decide +kernel) only [push_cast, ↓capI, br2_true, br2_false, frk_tt, frk_tf, frk_f, frkD_tt, frkD_tf, frkD_f, pk2_true, pk2_false, imp_true, seval, Nat.reduceLeDiff, Nat.reduceEqDiff, reduceCtorEq, ↓reduceIte, cfg0, encE, agE, Nat.mul_one]
        refine callG.pc1 (pc41 b b1 b2) ?_
        simp (maxSteps := 2000000) -implicitDefEqProofs +contextual (disch := first | assumption | omega | decide +kernel) only [push_cast, ↓capI, br2_true, br2_false, frk_tt, frk_tf, frk_f, frkD_tt, frkD_tf, frkD_f, pk2_true, pk2_false, imp_true, seval, Nat.reduceLeDiff, Nat.reduceEqDiff, reduceCtorEq, ↓reduceIte, cfg0, encE, agE, Nat.mul_one]
        refine callG.pc1 (pc41 c c1 c2) ?_
        simp (maxSteps := 2000000) -implicitDefEqProofs +contextual (disch := first | assumption | omega | decide +kernel) only [push_cast, ↓capI, br2_true, br2_false, frk_tt, frk_tf, frk_f, frkD_tt, frkD_tf, frkD_f, pk2_true, pk2_false, imp_true, seval, Nat.reduceLeDiff, Nat.reduceEqDiff, reduceCtorEq, ↓reduceIte, cfg0, encE, agE, Nat.mul_one]
        (try simp (maxSteps := 2000000) -implicitDefEqProofs +contextual (disch := first | assumption | omega | decide +kernel) only [push_cast, ↓capI, br2_true, br2_false, frk_tt, frk_tf, frk_f, frkD_tt, frkD_tf, frkD_f, pk2_true, pk2_false, imp_true, seval, Nat.reduceLeDiff, Nat.reduceEqDiff, reduceCtorEq, ↓reduceIte, cfg0, encE, agE, Nat.mul_one, hn])
        refine endK.ret ?_ (by first | rfl | simp [bel_encE, bel_agE]); simp [evRes, getT, retV, Tryd.f26,  refL, encSI, chk_2 hn, ha, hb, hc]
      | true =>
        simp (maxSteps := 2000000) -implicitDefEqProofs +contextual (disch := first | assumption | omega | decide +kernel) only [push_cast, ↓capI, br2_true, br2_false, frk_tt, frk_tf, frk_f, frkD_tt, frkD_tf, frkD_f, pk2_true, pk2_false, imp_true, seval, Nat.reduceLeDiff, Nat.reduceEqDiff, reduceCtorEq, ↓reduceIte, cfg0, encE, agE, Nat.mul_one]
        refine callG.pc1 (pc41 a a1 a2) ?_
        simp (maxSteps := 2000000) -implicitDefEqProofs +contextual (disch := first | assumption | omega | decide +kernel) only [push_cast, ↓capI, br2_true, br2_false, frk_tt, frk_tf, frk_f, frkD_tt, frkD_tf, frkD_f, pk2_true, pk2_false, imp_true, seval, Nat.reduceLeDiff, Nat.reduceEqDiff, reduceCtorEq, ↓reduceIte, cfg0, encE, agE, Nat.mul_one]
        refine callG.pc1 (pc41 b b1 b2) ?_
        simp (maxSteps := 2000000) -implicitDefEqProofs +contextual (disch := first | assumption | omega | decide +kernel) only [push_cast, ↓capI, br2_true, br2_false, frk_tt, frk_tf, frk_f, frkD_tt, frkD_tf, frkD_f, pk2_true, pk2_false, imp_true, seval, Nat.reduceLeDiff, Nat.reduceEqDiff, reduceCtorEq, ↓reduceIte, cfg0, encE, agE, Nat.mul_one]
        refine callG.pc1 (pc41 c c1 c2) ?_
        simp (maxSteps := 2000000) -implicitDefEqProofs +contextual (disch := first | assumption | omega | decide +kernel) only [push_cast, ↓capI, br2_true, br2_false, frk_tt, frk_tf, frk_f, frkD_tt, frkD_tf, frkD_f, pk2_true, pk2_false, imp_true, seval, Nat.reduceLeDiff, Nat.reduceEqDiff, reduceCtorEq, ↓reduceIte, cfg0, encE, agE, Nat.mul_one]
        (try simp (maxSteps := 2000000) -implicitDefEqProofs +contextual (disch := first | assumption | omega | decide +kernel) only [push_cast, ↓capI, br2_true, br2_false, frk_tt, frk_tf, frk_f, frkD_tt, frkD_tf, frkD_f, pk2_true, pk2_false, imp_true, seval, Nat.reduceLeDiff, Nat.reduceEqDiff, reduceCtorEq, ↓reduceIte, cfg0, encE, agE, Nat.mul_one, hn])
        refine endK.ret ?_ (by first | rfl | simp [bel_encE, bel_agE]); simp [evRes, getT, retV, Tryd.f26,  refL, encSI, chk_2 hn, ha, hb, hc, lin2 hn, fa ha, fb hb, fc hc]
theorem pc26_2d (a b : Int) (h : i64s ⟨2, a, b, -1⟩) : PC Tryd.prog 26 [agE ⟨2, a, b, -1⟩] (refL ⟨2, a, b, -1⟩) := by
  obtain ⟨⟨a1, a2⟩, ⟨b1, b2⟩, c1, c2⟩ := h
  simp only at a1 a2 b1 b2 c1 c2
  have la := fmtI_len a
  have fa := @fmtI_ok a
  have lb := fmtI_len b
  have fb := @fmtI_ok b
  have lc := fmtI_len (-1)
  refine PC.walk tok mixed cfg0 Tryd.func26 rfl Tryd.call26 (by simp [bel_encE, bel_agE]) (by rfl) ?_; simp (maxSteps := 2000000) -implicitDefEqProofs +contextual (disch := first | assumption | omega | decide +kernel) only [push_cast, ↓capI, br2_true, br2_false, frk_tt, frk_tf, frk_f, frkD_tt, frkD_tf, frkD_f, pk2_true, pk2_false, imp_true, seval, Nat.reduceLeDiff, Nat.reduceEqDiff, reduceCtorEq, ↓reduceIte, cfg0, encE, agE, Nat.mul_one, Tryd.ntmps26]
  refine callO.pc (pc40 a) ?_
  simp (maxSteps := 2000000) -implicitDefEqProofs +contextual (disch := first | assumption | omega | decide +kernel) only [push_cast, ↓capI, br2_true, br2_false, frk_tt, frk_tf, frk_f, frkD_tt, frkD_tf, frkD_f, pk2_true, pk2_false, imp_true, seval, Nat.reduceLeDiff, Nat.reduceEqDiff, reduceCtorEq, ↓reduceIte, cfg0, encE, agE, Nat.mul_one]
  cases ha : okN a with
  | false =>
    simp (maxSteps := 2000000) -implicitDefEqProofs +contextual (disch := first | assumption | omega | decide +kernel) only [push_cast, ↓capI, br2_true, br2_false, frk_tt, frk_tf, frk_f, frkD_tt, frkD_tf, frkD_f, pk2_true, pk2_false, imp_true, seval, Nat.reduceLeDiff, Nat.reduceEqDiff, reduceCtorEq, ↓reduceIte, cfg0, encE, agE, Nat.mul_one]
    refine callG.pc1 (pc41 a a1 a2) ?_
    simp (maxSteps := 2000000) -implicitDefEqProofs +contextual (disch := first | assumption | omega | decide +kernel) only [push_cast, ↓capI, br2_true, br2_false, frk_tt, frk_tf, frk_f, frkD_tt, frkD_tf, frkD_f, pk2_true, pk2_false, imp_true, seval, Nat.reduceLeDiff, Nat.reduceEqDiff, reduceCtorEq, ↓reduceIte, cfg0, encE, agE, Nat.mul_one]
    refine callG.pc1 (pc41 b b1 b2) ?_
    simp (maxSteps := 2000000) -implicitDefEqProofs +contextual (disch := first | assumption | omega | decide +kernel) only [push_cast, ↓capI, br2_true, br2_false, frk_tt, frk_tf, frk_f, frkD_tt, frkD_tf, frkD_f, pk2_true, pk2_false, imp_true, seval, Nat.reduceLeDiff, Nat.reduceEqDiff, reduceCtorEq, ↓reduceIte, cfg0, encE, agE, Nat.mul_one]
    refine callG.pc1 (pc41 (-1) c1 c2) ?_
    simp (maxSteps := 2000000) -implicitDefEqProofs +contextual (disch := first | assumption | omega | decide +kernel) only [push_cast, ↓capI, br2_true, br2_false, frk_tt, frk_tf, frk_f, frkD_tt, frkD_tf, frkD_f, pk2_true, pk2_false, imp_true, seval, Nat.reduceLeDiff, Nat.reduceEqDiff, reduceCtorEq, ↓reduceIte, cfg0, encE, agE, Nat.mul_one]
    refine callG.pc1 (pc41 a a1 a2) ?_
    simp (maxSteps := 2000000) -implicitDefEqProofs +contextual (disch := first | assumption | omega | decide +kernel) only [push_cast, ↓capI, br2_true, br2_false, frk_tt, frk_tf, frk_f, frkD_tt, frkD_tf, frkD_f, pk2_true, pk2_false, imp_true, seval, Nat.reduceLeDiff, Nat.reduceEqDiff, reduceCtorEq, ↓reduceIte, cfg0, encE, agE, Nat.mul_one]
    refine callG.pc1 (pc41 b b1 b2) ?_
    simp (maxSteps := 2000000) -implicitDefEqProofs +contextual (disch := first | assumption | omega | decide +kernel) only [push_cast, ↓capI, br2_true, br2_false, frk_tt, frk_tf, frk_f, frkD_tt, frkD_tf, frkD_f, pk2_true, pk2_false, imp_true, seval, Nat.reduceLeDiff, Nat.reduceEqDiff, reduceCtorEq, ↓reduceIte, cfg0, encE, agE, Nat.mul_one]
    refine endK.ret ?_ (by first | rfl | simp [bel_encE, bel_agE]); simp [evRes, getT, retV, Tryd.f26,  refL, encSI, chk_2d, ha]
  | true =>
    simp (maxSteps := 2000000) -implicitDefEqProofs +contextual (disch := first | assumption | omega | decide +kernel) only [push_cast, ↓capI, br2_true, br2_false, frk_tt, frk_tf, frk_f, frkD_tt, frkD_tf, frkD_f, pk2_true, pk2_false, imp_true, seval, Nat.reduceLeDiff, Nat.reduceEqDiff, reduceCtorEq, ↓reduceIte, cfg0, encE, agE, Nat.mul_one]
    refine callO.pc (pc40 b) ?_
    cases hb : okN b with
    | false =>
      simp (maxSteps := 2000000) -implicitDefEqProofs +contextual (disch := first | assumption | omega | decide +kernel) only [push_cast, ↓capI, br2_true, br2_false, frk_tt, frk_tf, frk_f, frkD_tt, frkD_tf, frkD_f, pk2_true, pk2_false, imp_true, seval, Nat.reduceLeDiff, Nat.reduceEqDiff, reduceCtorEq, ↓reduceIte, cfg0, encE, agE, Nat.mul_one]
      refine callG.pc1 (pc41 a a1 a2) ?_
      simp (maxSteps := 2000000) -implicitDefEqProofs +contextual (disch := first | assumption | omega | decide +kernel) only [push_cast, ↓capI, br2_true, br2_false, frk_tt, frk_tf, frk_f, frkD_tt, frkD_tf, frkD_f, pk2_true, pk2_false, imp_true, seval, Nat.reduceLeDiff, Nat.reduceEqDiff, reduceCtorEq, ↓reduceIte, cfg0, encE, agE, Nat.mul_one]
      refine callG.pc1 (pc41 b b1 b2) ?_
      simp (maxSteps := 2000000) -implicitDefEqProofs +contextual (disch := first | assumption | omega | decide +kernel) only [push_cast, ↓capI, br2_true, br2_false, frk_tt, frk_tf, frk_f, frkD_tt, frkD_tf, frkD_f, pk2_true, pk2_false, imp_true, seval, Nat.reduceLeDiff, Nat.reduceEqDiff, reduceCtorEq, ↓reduceIte, cfg0, encE, agE, Nat.mul_one]
      refine callG.pc1 (pc41 (-1) c1 c2) ?_
      simp (maxSteps := 2000000) -implicitDefEqProofs +contextual (disch := first | assumption | omega | decide +kernel) only [push_cast, ↓capI, br2_true, br2_false, frk_tt, frk_tf, frk_f, frkD_tt, frkD_tf, frkD_f, pk2_true, pk2_false, imp_true, seval, Nat.reduceLeDiff, Nat.reduceEqDiff, reduceCtorEq, ↓reduceIte, cfg0, encE, agE, Nat.mul_one]
      refine callG.pc1 (pc41 a a1 a2) ?_
      simp (maxSteps := 2000000) -implicitDefEqProofs +contextual (disch := first | assumption | omega | decide +kernel) only [push_cast, ↓capI, br2_true, br2_false, frk_tt, frk_tf, frk_f, frkD_tt, frkD_tf, frkD_f, pk2_true, pk2_false, imp_true, seval, Nat.reduceLeDiff, Nat.reduceEqDiff, reduceCtorEq, ↓reduceIte, cfg0, encE, agE, Nat.mul_one]
      refine callG.pc1 (pc41 b b1 b2) ?_
      simp (maxSteps := 2000000) -implicitDefEqProofs +contextual (disch := first | assumption | omega | decide +kernel) only [push_cast, ↓capI, br2_true, br2_false, frk_tt, frk_tf, frk_f, frkD_tt, frkD_tf, frkD_f, pk2_true, pk2_false, imp_true, seval, Nat.reduceLeDiff, Nat.reduceEqDiff, reduceCtorEq, ↓reduceIte, cfg0, encE, agE, Nat.mul_one]
      refine endK.ret ?_ (by first | rfl | simp [bel_encE, bel_agE]); simp [evRes, getT, retV, Tryd.f26,  refL, encSI, chk_2d, ha, hb]
    | true =>
      simp (maxSteps := 2000000) -implicitDefEqProofs +contextual (disch := first | assumption | omega | decide +kernel) only [push_cast, ↓capI, br2_true, br2_false, frk_tt, frk_tf, frk_f, frkD_tt, frkD_tf, frkD_f, pk2_true, pk2_false, imp_true, seval, Nat.reduceLeDiff, Nat.reduceEqDiff, reduceCtorEq, ↓reduceIte, cfg0, encE, agE, Nat.mul_one]
      refine callG.pc1 (pc41 a a1 a2) ?_
      simp (maxSteps := 2000000) -implicitDefEqProofs +contextual (disch := first | assumption | omega | decide +kernel) only [push_cast, ↓capI, br2_true, br2_false, frk_tt, frk_tf, frk_f, frkD_tt, frkD_tf, frkD_f, pk2_true, pk2_false, imp_true, seval, Nat.reduceLeDiff, Nat.reduceEqDiff, reduceCtorEq, ↓reduceIte, cfg0, encE, agE, Nat.mul_one]
      refine callG.pc1 (pc41 b b1 b2) ?_
      simp (maxSteps := 2000000) -implicitDefEqProofs +contextual (disch := first | assumption | omega | decide +kernel) only [push_cast, ↓capI, br2_true, br2_false, frk_tt, frk_tf, frk_f, frkD_tt, frkD_tf, frkD_f, pk2_true, pk2_false, imp_true, seval, Nat.reduceLeDiff, Nat.reduceEqDiff, reduceCtorEq, ↓reduceIte, cfg0, encE, agE, Nat.mul_one]
      refine callG.pc1 (pc41 (-1) c1 c2) ?_
      simp (maxSteps := 2000000) -implicitDefEqProofs +contextual (disch := first | assumption | omega | decide +kernel) only [push_cast, ↓capI, br2_true, br2_false, frk_tt, frk_tf, frk_f, frkD_tt, frkD_tf, frkD_f, pk2_true, pk2_false, imp_true, seval, Nat.reduceLeDiff, Nat.reduceEqDiff, reduceCtorEq, ↓reduceIte, cfg0, encE, agE, Nat.mul_one]
      refine callG.pc1 (pc41 a a1 a2) ?_
      simp (maxSteps := 2000000) -implicitDefEqProofs +contextual (disch := first | assumption | omega | decide +kernel) only [push_cast, ↓capI, br2_true, br2_false, frk_tt, frk_tf, frk_f, frkD_tt, frkD_tf, frkD_f, pk2_true, pk2_false, imp_true, seval, Nat.reduceLeDiff, Nat.reduceEqDiff, reduceCtorEq, ↓reduceIte, cfg0, encE, agE, Nat.mul_one]
      refine callG.pc1 (pc41 b b1 b2) ?_
      simp (maxSteps := 2000000) -implicitDefEqProofs +contextual (disch := first | assumption | omega | decide +kernel) only [push_cast, ↓capI, br2_true, br2_false, frk_tt, frk_tf, frk_f, frkD_tt, frkD_tf, frkD_f, pk2_true, pk2_false, imp_true, seval, Nat.reduceLeDiff, Nat.reduceEqDiff, reduceCtorEq, ↓reduceIte, cfg0, encE, agE, Nat.mul_one]
      refine endK.ret ?_ (by first | rfl | simp [bel_encE, bel_agE]); simp [evRes, getT, retV, Tryd.f26,  refL, encSI, chk_2d, ha, hb, lin2d, fa ha, fb hb]
theorem pc26_5 (a b c : Int) (h : i64s ⟨5, a, b, c⟩) : PC Tryd.prog 26 [agE ⟨5, a, b, c⟩] (refL ⟨5, a, b, c⟩) := by
  obtain ⟨⟨a1, a2⟩, ⟨b1, b2⟩, c1, c2⟩ := h
  simp only at a1 a2 b1 b2 c1 c2
  have la := fmtI_len a
  have fa := @fmtI_ok a
  have lb := fmtI_len b
  have fb := @fmtI_ok b
  refine PC.walk tok mixed cfg0 Tryd.func26 rfl Tryd.call26 (by simp [bel_encE, bel_agE]) (by rfl) ?_; simp (maxSteps := 2000000) -implicitDefEqProofs +contextual (disch := first | assumption | omega | decide +kernel) only [push_cast, ↓capI, br2_true, br2_false, frk_tt, frk_tf, frk_f, frkD_tt, frkD_tf, frkD_f, pk2_true, pk2_false, imp_true, seval, Nat.reduceLeDiff, Nat.reduceEqDiff, reduceCtorEq, ↓reduceIte, cfg0, encE, agE, Nat.mul_one, Tryd.ntmps26]
  refine callO.pc (pc40 a) ?_
  simp (maxSteps := 2000000) -implicitDefEqProofs +contextual (disch := first | assumption | omega | decide +kernel) only [push_cast, ↓capI, br2_true, br2_false, frk_tt, frk_tf, frk_f, frkD_tt, frkD_tf, frkD_f, pk2_true, pk2_false, imp_true, seval, Nat.reduceLeDiff, Nat.reduceEqDiff, reduceCtorEq, ↓reduceIte, cfg0, encE, agE, Nat.mul_one]
  by_cases n1 : 1 ≤ a
  case neg =>
    cases ha : okN a <;> simp (maxSteps := 2000000) -implicitDefEqProofs +contextual (disch := first | assumption | omega | decide +kernel) only [push_cast, ↓capI, br2_true, br2_false, frk_tt, frk_tf, frk_f, frkD_tt, frkD_tf, frkD_f, pk2_true, pk2_false, imp_true, seval, Nat.reduceLeDiff, Nat.reduceEqDiff, reduceCtorEq, ↓reduceIte, cfg0, encE, agE, Nat.mul_one, n1]
    all_goals refine callG.pc1 (pc41 a a1 a2) ?_
    all_goals simp (maxSteps := 2000000) -implicitDefEqProofs +contextual (disch := first | assumption | omega | decide +kernel) only [push_cast, ↓capI, br2_true, br2_false, frk_tt, frk_tf, frk_f, frkD_tt, frkD_tf, frkD_f, pk2_true, pk2_false, imp_true, seval, Nat.reduceLeDiff, Nat.reduceEqDiff, reduceCtorEq, ↓reduceIte, cfg0, encE, agE, Nat.mul_one]
    all_goals refine callG.pc1 (pc41 b b1 b2) ?_
    all_goals simp (maxSteps := 2000000) -implicitDefEqProofs +contextual (disch := first | assumption | omega | decide +kernel) only [push_cast, ↓capI, br2_true, br2_false, frk_tt, frk_tf, frk_f, frkD_tt, frkD_tf, frkD_f, pk2_true, pk2_false, imp_true, seval, Nat.reduceLeDiff, Nat.reduceEqDiff, reduceCtorEq, ↓reduceIte, cfg0, encE, agE, Nat.mul_one]
    all_goals refine endK.ret ?_ (by first | rfl | simp [bel_encE, bel_agE]); simp [evRes, getT, retV, Tryd.f26,  refL, encSI, chk_5, n1]
  by_cases n3 : a ≤ 3
  case neg =>
    simp (maxSteps := 2000000) -implicitDefEqProofs +contextual (disch := first | assumption | omega | decide +kernel) only [push_cast, ↓capI, br2_true, br2_false, frk_tt, frk_tf, frk_f, frkD_tt, frkD_tf, frkD_f, pk2_true, pk2_false, imp_true, seval, Nat.reduceLeDiff, Nat.reduceEqDiff, reduceCtorEq, ↓reduceIte, cfg0, encE, agE, Nat.mul_one, n1, n3]
    refine callG.pc1 (pc41 a a1 a2) ?_
    simp (maxSteps := 2000000) -implicitDefEqProofs +contextual (disch := first | assumption | omega | decide +kernel) only [push_cast, ↓capI, br2_true, br2_false, frk_tt, frk_tf, frk_f, frkD_tt, frkD_tf, frkD_f, pk2_true, pk2_false, imp_true, seval, Nat.reduceLeDiff, Nat.reduceEqDiff, reduceCtorEq, ↓reduceIte, cfg0, encE, agE, Nat.mul_one]
    refine callG.pc1 (pc41 b b1 b2) ?_
    simp (maxSteps := 2000000) -implicitDefEqProofs +contextual (disch := first | assumption | omega | decide +kernel) only [push_cast, ↓capI, br2_true, br2_false, frk_tt, frk_tf, frk_f, frkD_tt, frkD_tf, frkD_f, pk2_true, pk2_false, imp_true, seval, Nat.reduceLeDiff, Nat.reduceEqDiff, reduceCtorEq, ↓reduceIte, cfg0, encE, agE, Nat.mul_one]
    refine endK.ret ?_ (by first | rfl | simp [bel_encE, bel_agE]); simp [evRes, getT, retV, Tryd.f26,  refL, encSI, chk_5, n1, n3]
  have ha : okN a = true := by simp [okN]; omega
  simp (maxSteps := 2000000) -implicitDefEqProofs +contextual (disch := first | assumption | omega | decide +kernel) only [push_cast, ↓capI, br2_true, br2_false, frk_tt, frk_tf, frk_f, frkD_tt, frkD_tf, frkD_f, pk2_true, pk2_false, imp_true, seval, Nat.reduceLeDiff, Nat.reduceEqDiff, reduceCtorEq, ↓reduceIte, cfg0, encE, agE, Nat.mul_one, n1, n3]
  refine callO.pc (pc40 b) ?_
  cases hb : okN b with
  | false =>
    simp (maxSteps := 2000000) -implicitDefEqProofs +contextual (disch := first | assumption | omega | decide +kernel) only [push_cast, ↓capI, br2_true, br2_false, frk_tt, frk_tf, frk_f, frkD_tt, frkD_tf, frkD_f, pk2_true, pk2_false, imp_true, seval, Nat.reduceLeDiff, Nat.reduceEqDiff, reduceCtorEq, ↓reduceIte, cfg0, encE, agE, Nat.mul_one]
    refine callG.pc1 (pc41 a a1 a2) ?_
    simp (maxSteps := 2000000) -implicitDefEqProofs +contextual (disch := first | assumption | omega | decide +kernel) only [push_cast, ↓capI, br2_true, br2_false, frk_tt, frk_tf, frk_f, frkD_tt, frkD_tf, frkD_f, pk2_true, pk2_false, imp_true, seval, Nat.reduceLeDiff, Nat.reduceEqDiff, reduceCtorEq, ↓reduceIte, cfg0, encE, agE, Nat.mul_one]
    refine callG.pc1 (pc41 b b1 b2) ?_
    simp (maxSteps := 2000000) -implicitDefEqProofs +contextual (disch := first | assumption | omega | decide +kernel) only [push_cast, ↓capI, br2_true, br2_false, frk_tt, frk_tf, frk_f, frkD_tt, frkD_tf, frkD_f, pk2_true, pk2_false, imp_true, seval, Nat.reduceLeDiff, Nat.reduceEqDiff, reduceCtorEq, ↓reduceIte, cfg0, encE, agE, Nat.mul_one]
    refine endK.ret ?_ (by first | rfl | simp [bel_encE, bel_agE]); simp [evRes, getT, retV, Tryd.f26,  refL, encSI, chk_5, n1, n3, hb]
  | true =>
    simp (maxSteps := 2000000) -implicitDefEqProofs +contextual (disch := first | assumption | omega | decide +kernel) only [push_cast, ↓capI, br2_true, br2_false, frk_tt, frk_tf, frk_f, frkD_tt, frkD_tf, frkD_f, pk2_true, pk2_false, imp_true, seval, Nat.reduceLeDiff, Nat.reduceEqDiff, reduceCtorEq, ↓reduceIte, cfg0, encE, agE, Nat.mul_one]
    refine callG.pc1 (pc41 a a1 a2) ?_
    simp (maxSteps := 2000000) -implicitDefEqProofs +contextual (disch := first | assumption | omega | decide +kernel) only [push_cast, ↓capI, br2_true, br2_false, frk_tt, frk_tf, frk_f, frkD_tt, frkD_tf, frkD_f, pk2_true, pk2_false, imp_true, seval, Nat.reduceLeDiff, Nat.reduceEqDiff, reduceCtorEq, ↓reduceIte, cfg0, encE, agE, Nat.mul_one]
    refine callG.pc1 (pc41 b b1 b2) ?_
    simp (maxSteps := 2000000) -implicitDefEqProofs +contextual (disch := first | assumption | omega | decide +kernel) only [push_cast, ↓capI, br2_true, br2_false, frk_tt, frk_tf, frk_f, frkD_tt, frkD_tf, frkD_f, pk2_true, pk2_false, imp_true, seval, Nat.reduceLeDiff, Nat.reduceEqDiff, reduceCtorEq, ↓reduceIte, cfg0, encE, agE, Nat.mul_one]
    refine endK.ret ?_ (by first | rfl | simp [bel_encE, bel_agE]); simp [evRes, getT, retV, Tryd.f26,  refL, encSI, chk_5, n1, n3, hb, lin5, fa ha, fb hb]
theorem pc26_6 (a b c : Int) (hn : ¬ b = 1) (h : i64s ⟨6, a, b, c⟩) : PC Tryd.prog 26 [agE ⟨6, a, b, c⟩] (refL ⟨6, a, b, c⟩) := by
  obtain ⟨⟨a1, a2⟩, ⟨b1, b2⟩, c1, c2⟩ := h
  simp only at a1 a2 b1 b2 c1 c2
  have la := fmtI_len a
  have fa := @fmtI_ok a
  refine PC.walk tok mixed cfg0 Tryd.func26 rfl Tryd.call26 (by simp [bel_encE, bel_agE]) (by rfl) ?_; simp (maxSteps := 2000000) -implicitDefEqProofs +contextual (disch := first | assumption | omega | decide +kernel) only [push_cast, ↓capI, br2_true, br2_false, frk_tt, frk_tf, frk_f, frkD_tt, frkD_tf, frkD_f, pk2_true, pk2_false, imp_true, seval, Nat.reduceLeDiff, Nat.reduceEqDiff, reduceCtorEq, ↓reduceIte, cfg0, encE, agE, Nat.mul_one, Tryd.ntmps26]
  refine callO.pc (pc40 a) ?_
  simp (maxSteps := 2000000) -implicitDefEqProofs +contextual (disch := first | assumption | omega | decide +kernel) only [push_cast, ↓capI, br2_true, br2_false, frk_tt, frk_tf, frk_f, frkD_tt, frkD_tf, frkD_f, pk2_true, pk2_false, imp_true, seval, Nat.reduceLeDiff, Nat.reduceEqDiff, reduceCtorEq, ↓reduceIte, cfg0, encE, agE, Nat.mul_one]
  cases ha : okN a with
  | false =>
    simp (maxSteps := 2000000) -implicitDefEqProofs +contextual (disch := first | assumption | omega | decide +kernel) only [push_cast, ↓capI, br2_true, br2_false, frk_tt, frk_tf, frk_f, frkD_tt, frkD_tf, frkD_f, pk2_true, pk2_false, imp_true, seval, Nat.reduceLeDiff, Nat.reduceEqDiff, reduceCtorEq, ↓reduceIte, cfg0, encE, agE, Nat.mul_one]
    refine callO.pc (pc41 a a1 a2) ?_
    simp (maxSteps := 2000000) -implicitDefEqProofs +contextual (disch := first | assumption | omega | decide +kernel) only [push_cast, ↓capI, br2_true, br2_false, frk_tt, frk_tf, frk_f, frkD_tt, frkD_tf, frkD_f, pk2_true, pk2_false, imp_true, seval, Nat.reduceLeDiff, Nat.reduceEqDiff, reduceCtorEq, ↓reduceIte, cfg0, encE, agE, Nat.mul_one]
    (try simp (maxSteps := 2000000) -implicitDefEqProofs +contextual (disch := first | assumption | omega | decide +kernel) only [push_cast, ↓capI, br2_true, br2_false, frk_tt, frk_tf, frk_f, frkD_tt, frkD_tf, frkD_f, pk2_true, pk2_false, imp_true, seval, Nat.reduceLeDiff, Nat.reduceEqDiff, reduceCtorEq, ↓reduceIte, cfg0, encE, agE, Nat.mul_one, hn])
    refine endK.ret ?_ (by first | rfl | simp [bel_encE, bel_agE]); simp [evRes, getT, retV, Tryd.f26,  refL, encSI, chk_6, ha]
  | true =>
    by_cases h0 : b = 0
    · subst h0
      simp (maxSteps := 2000000) -implicitDefEqProofs +contextual (disch := first | assumption | omega | decide +kernel) only [push_cast, ↓capI, br2_true, br2_false, frk_tt, frk_tf, frk_f, frkD_tt, frkD_tf, frkD_f, pk2_true, pk2_false, imp_true, seval, Nat.reduceLeDiff, Nat.reduceEqDiff, reduceCtorEq, ↓reduceIte, cfg0, encE, agE, Nat.mul_one]
      refine callO.pc (pc41 a a1 a2) ?_
      simp (maxSteps := 2000000) -implicitDefEqProofs +contextual (disch := first | assumption | omega | decide +kernel) only [push_cast, ↓capI, br2_true, br2_false, frk_tt, frk_tf, frk_f, frkD_tt, frkD_tf, frkD_f, pk2_true, pk2_false, imp_true, seval, Nat.reduceLeDiff, Nat.reduceEqDiff, reduceCtorEq, ↓reduceIte, cfg0, encE, agE, Nat.mul_one]
      refine endK.ret ?_ (by first | rfl | simp [bel_encE, bel_agE]); simp [evRes, getT, retV, Tryd.f26,  refL, encSI, chk_6, ha, lin6 hn, fa ha]
    · simp (maxSteps := 2000000) -implicitDefEqProofs +contextual (disch := first | assumption | omega | decide +kernel) only [push_cast, ↓capI, br2_true, br2_false, frk_tt, frk_tf, frk_f, frkD_tt, frkD_tf, frkD_f, pk2_true, pk2_false, imp_true, seval, Nat.reduceLeDiff, Nat.reduceEqDiff, reduceCtorEq, ↓reduceIte, cfg0, encE, agE, Nat.mul_one, hn, h0]
      refine callO.pc (pc41 a a1 a2) ?_
      (try simp (maxSteps := 2000000) -implicitDefEqProofs +contextual (disch := first | assumption | omega | decide +kernel) only [push_cast, ↓capI, br2_true, br2_false, frk_tt, frk_tf, frk_f, frkD_tt, frkD_tf, frkD_f, pk2_true, pk2_false, imp_true, seval, Nat.reduceLeDiff, Nat.reduceEqDiff, reduceCtorEq, ↓reduceIte, cfg0, encE, agE, Nat.mul_one, hn])
      refine endK.ret ?_ (by first | rfl | simp [bel_encE, bel_agE]); simp [evRes, getT, retV, Tryd.f26,  refL, encSI, chk_6, ha, hn, h0]
theorem pc26_6d (a c : Int) (h : i64s ⟨6, a, 1, c⟩) : PC Tryd.prog 26 [agE ⟨6, a, 1, c⟩] (refL ⟨6, a, 1, c⟩) := by
  obtain ⟨⟨a1, a2⟩, ⟨b1, b2⟩, c1, c2⟩ := h
  simp only at a1 a2 b1 b2 c1 c2
  have la := fmtI_len a
  have fa := @fmtI_ok a
  refine PC.walk tok mixed cfg0 Tryd.func26 rfl Tryd.call26 (by simp [bel_encE, bel_agE]) (by rfl) ?_; simp (maxSteps := 2000000) -implicitDefEqProofs +contextual (disch := first | assumption | omega | decide +kernel) only [push_cast, ↓capI, br2_true, br2_false, frk_tt, frk_tf, frk_f, frkD_tt, frkD_tf, frkD_f, pk2_true, pk2_false, imp_true, seval, Nat.reduceLeDiff, Nat.reduceEqDiff, reduceCtorEq, ↓reduceIte, cfg0, encE, agE, Nat.mul_one, Tryd.ntmps26]
  refine callO.pc (pc40 a) ?_
  simp (maxSteps := 2000000) -implicitDefEqProofs +contextual (disch := first | assumption | omega | decide +kernel) only [push_cast, ↓capI, br2_true, br2_false, frk_tt, frk_tf, frk_f, frkD_tt, frkD_tf, frkD_f, pk2_true, pk2_false, imp_true, seval, Nat.reduceLeDiff, Nat.reduceEqDiff, reduceCtorEq, ↓reduceIte, cfg0, encE, agE, Nat.mul_one]
  cases ha : okN a with
  | false =>
    simp (maxSteps := 2000000) -implicitDefEqProofs +contextual (disch := first | assumption | omega | decide +kernel) only [push_cast, ↓capI, br2_true, br2_false, frk_tt, frk_tf, frk_f, frkD_tt, frkD_tf, frkD_f, pk2_true, pk2_false, imp_true, seval, Nat.reduceLeDiff, Nat.reduceEqDiff, reduceCtorEq, ↓reduceIte, cfg0, encE, agE, Nat.mul_one]
    refine callO.pc (pc41 a a1 a2) ?_
    simp (maxSteps := 2000000) -implicitDefEqProofs +contextual (disch := first | assumption | omega | decide +kernel) only [push_cast, ↓capI, br2_true, br2_false, frk_tt, frk_tf, frk_f, frkD_tt, frkD_tf, frkD_f, pk2_true, pk2_false, imp_true, seval, Nat.reduceLeDiff, Nat.reduceEqDiff, reduceCtorEq, ↓reduceIte, cfg0, encE, agE, Nat.mul_one]
    refine callO.pc (pc41 a a1 a2) ?_
    simp (maxSteps := 2000000) -implicitDefEqProofs +contextual (disch := first | assumption | omega | decide +kernel) only [push_cast, ↓capI, br2_true, br2_false, frk_tt, frk_tf, frk_f, frkD_tt, frkD_tf, frkD_f, pk2_true, pk2_false, imp_true, seval, Nat.reduceLeDiff, Nat.reduceEqDiff, reduceCtorEq, ↓reduceIte, cfg0, encE, agE, Nat.mul_one]
    refine endK.ret ?_ (by first | rfl | simp [bel_encE, bel_agE]); simp [evRes, getT, retV, Tryd.f26,  refL, encSI, chk_6, ha]
  | true =>
    simp (maxSteps := 2000000) -implicitDefEqProofs +contextual (disch := first | assumption | omega | decide +kernel) only [push_cast, ↓capI, br2_true, br2_false, frk_tt, frk_tf, frk_f, frkD_tt, frkD_tf, frkD_f, pk2_true, pk2_false, imp_true, seval, Nat.reduceLeDiff, Nat.reduceEqDiff, reduceCtorEq, ↓reduceIte, cfg0, encE, agE, Nat.mul_one]
    refine callO.pc (pc41 a a1 a2) ?_
    simp (maxSteps := 2000000) -implicitDefEqProofs +contextual (disch := first | assumption | omega | decide +kernel) only [push_cast, ↓capI, br2_true, br2_false, frk_tt, frk_tf, frk_f, frkD_tt, frkD_tf, frkD_f, pk2_true, pk2_false, imp_true, seval, Nat.reduceLeDiff, Nat.reduceEqDiff, reduceCtorEq, ↓reduceIte, cfg0, encE, agE, Nat.mul_one]
    refine callO.pc (pc41 a a1 a2) ?_
    simp (maxSteps := 2000000) -implicitDefEqProofs +contextual (disch := first | assumption | omega | decide +kernel) only [push_cast, ↓capI, br2_true, br2_false, frk_tt, frk_tf, frk_f, frkD_tt, frkD_tf, frkD_f, pk2_true, pk2_false, imp_true, seval, Nat.reduceLeDiff, Nat.reduceEqDiff, reduceCtorEq, ↓reduceIte, cfg0, encE, agE, Nat.mul_one]
    refine endK.ret ?_ (by first | rfl | simp [bel_encE, bel_agE]); simp [evRes, getT, retV, Tryd.f26,  refL, encSI, chk_6, ha, lin6d, fa ha]
theorem pc26 (e : Ev) (h : i64s e) : PC Tryd.prog 26 [agE e] (refL e) := by
  obtain ⟨k, a, b, c⟩ := e
  by_cases hk : k < 1 ∨ 6 < k
  · have hc : chkE ⟨k, a, b, c⟩ = 11 := by rw [chkE, if_pos hk]
    have n1 : ¬ k = 1 := by omega
    have n2 : ¬ k = 2 := by omega
    have n3 : ¬ k = 3 := by omega
    have n4 : ¬ k = 4 := by omega
    have n5 : ¬ k = 5 := by omega
    have n6 : ¬ k = 6 := by omega
    refine PC.walk tok mixed cfg0 Tryd.func26 rfl Tryd.call26 (by simp [bel_encE, bel_agE]) (by rfl) ?_; simp (maxSteps := 2000000) -implicitDefEqProofs +contextual (disch := first | assumption | omega | decide +kernel) only [push_cast, ↓capI, br2_true, br2_false, frk_tt, frk_tf, frk_f, frkD_tt, frkD_tf, frkD_f, pk2_true, pk2_false, imp_true, seval, Nat.reduceLeDiff, Nat.reduceEqDiff, reduceCtorEq, ↓reduceIte, cfg0, encE, agE, Nat.mul_one, Tryd.ntmps26]
    refine callO.pc (pc40 a) ?_
    simp (maxSteps := 2000000) -implicitDefEqProofs +contextual (disch := first | assumption | omega | decide +kernel) only [push_cast, ↓capI, br2_true, br2_false, frk_tt, frk_tf, frk_f, frkD_tt, frkD_tf, frkD_f, pk2_true, pk2_false, imp_true, seval, Nat.reduceLeDiff, Nat.reduceEqDiff, reduceCtorEq, ↓reduceIte, cfg0, encE, agE, Nat.mul_one, n1, n2, n3, n4, n5, n6]
    refine endK.ret ?_ (by first | rfl | simp [bel_encE, bel_agE]); simp [evRes, getT, retV, Tryd.f26,  refL, encSI, hc]
  have : k = 1 ∨ k = 2 ∨ k = 3 ∨ k = 4 ∨ k = 5 ∨ k = 6 := by omega
  rcases this with rfl | rfl | rfl | rfl | rfl | rfl
  · exact pc26_1 a b c h
  · by_cases hc : c = -1
    · subst hc; exact pc26_2d a b h
    · exact pc26_2 a b c hc h
  · exact pc26_3 a b c h
  · exact pc26_4 a b c h
  · exact pc26_5 a b c h
  · by_cases hb : b = 1
    · subst hb; exact pc26_6d a c h
    · exact pc26_6 a b c hb h
end Go.Proofs.YtafongdfnpnneaaDoor

/- Chapter 53: the words of a line, and a line's event, by the reference. -/
set_option maxRecDepth 100000
set_option maxHeartbeats 4000000
set_option linter.all false
namespace Go.Proofs.YtafongdfnpnneaaDoor
open Go.Vm

/-- words, with the first one begun -/
def splA : List UInt8 → List UInt8 → List (List UInt8)
  | u, [] => [u]
  | u, c :: s => if c = 32 then u :: splA [] s else splA (u ++ [c]) s
theorem splA_spl : ∀ (s u : List UInt8), splA u s = match spl s with | w :: ws => (u ++ w) :: ws | [] => [u]
  | [], u => by simp [splA, spl]
  | c :: s, u => by
    rw [splA, spl]
    split
    · simp only [List.append_nil, List.cons.injEq, true_and]
      rw [splA_spl s []]
      cases h : spl s with
      | nil => exact absurd h (spl_ne s)
      | cons w ws => simp
    · rw [splA_spl s (u ++ [c])]
      cases h : spl s with
      | nil => exact absurd h (spl_ne s)
      | cons w ws => simp
theorem splA_nil (s : List UInt8) : splA [] s = spl s := by
  rw [splA_spl]
  cases h : spl s with
  | nil => exact absurd h (spl_ne s)
  | cons w ws => simp
theorem getD_u8 {s : List UInt8} {i : Nat} (h : i < s.length) : s.getD i 0 = s[i] := by rw [List.getD_eq_getElem?_getD, List.getElem?_eq_getElem h]; rfl
theorem u8_ne {a b : UInt8} (h : ¬ a = b) : ¬ ((a.toNat : Nat) : Int) = ((b.toNat : Nat) : Int) := fun e => h (UInt8.toNat_inj.1 (by omega))
theorem pc45 (s : List UInt8) (hs : s.length ≤ 20000) : PC Tryd.prog 45 [.str s] (.sl false ((spl s).map V.str) (spl s).length) := by
  have hcnt : ∀ (s u : List UInt8), (splA u s).length ≤ s.length + 1 := by
    intro s
    induction s with
    | nil => intro u; simp [splA]
    | cons c s ih =>
      intro u
      rw [splA]
      split
      · have := ih []; simp only [List.length_cons]; omega
      · have := ih (u ++ [c]); simp only [List.length_cons]; omega
  refine PC.walk tok mixed cfg0 Tryd.func45 rfl Tryd.call45 (by simp [bel_encE, bel_agE, bel_strs, belAll_append]) (by first | rfl | simp [bel_encE, bel_agE, bel_strs, belAll_append]) ?_; simp (maxSteps := 2000000) -implicitDefEqProofs +contextual (disch := first | assumption | omega | decide +kernel) only [push_cast, ↓capI, br2_true, br2_false, frk_tt, frk_tf, frk_f, frkD_tt, frkD_tf, frkD_f, pk2_true, pk2_false, imp_true, seval, Nat.reduceLeDiff, Nat.reduceEqDiff, reduceCtorEq, ↓reduceIte, cfg0, Nat.mul_one, getV_map, List.length_map, Tryd.ntmps45]
  refine T.lp tok mixed cfg0 (fun ((W, a, i, ver) : List (List UInt8) × Nat × Nat × Nat) => kp 1 (dd 2 (sv (.buf 0 ver 0 W.length 1) (sv (.int .i64 a) (sv (.int .i64 i) (dd 26 (nl))))))) (fun H0 ((W, a, i, ver) : List (List UInt8) × Nat × Nat × Nat) => [.cells ver (W.map V.str)]) (fun ((W, a, i, ver) : List (List UInt8) × Nat × Nat × Nat) => a ≤ i ∧ ((i ≤ s.length ∧ spl s = W ++ splA ((s.drop a).take (i - a)) (s.drop i)) ∨ (i = s.length + 1 ∧ spl s = W))) (fun ((W, a, i, ver) : List (List UInt8) × Nat × Nat × Nat) => s.length + 1 - i) (([], 0, 0, 0)) ?_ ?_ ?_
  · exact ⟨Nat.le_refl _, .inl ⟨Nat.zero_le _, by simp [splA_nil]⟩⟩
  · refine (Gn.ownNil (t := 3) (sz := 1) rfl).trans ?_
    exact Gn.canon (J := []) (by first | rfl | (simp [List.append_nil]; done) | (simp [List.append_nil]; rfl)) (by simp [wk, putT, kp, dd, sv, nl]) (by simp [List.length_append]) (by simp [bel_encE, bel_agE, bel_strs, belAll_append, kp, dd, sv, nl]) (by simp [bel_encE, bel_agE, bel_strs, belAll_append])
  rintro ⟨W, a, i, ver⟩ ⟨hai, hc⟩
  (try simp only at hai hc)
  have hWl : W.length ≤ 20001 := by
    have h1 := hcnt s []
    rw [splA_nil] at h1
    rcases hc with ⟨_, h⟩ | ⟨_, h⟩
    · rw [h, List.length_append] at h1; omega
    · rw [h] at h1; omega
  rcases hc with ⟨hi, hw⟩ | ⟨hi, hw⟩
  case inr =>
    subst hi
    rw [hw]
    have hn : ¬ ((s.length + 1 : Nat) : Int) ≤ (s.length : Int) := by omega
    simp (maxSteps := 2000000) -implicitDefEqProofs +contextual (disch := first | assumption | omega | decide +kernel) only [push_cast, ↓capI, br2_true, br2_false, frk_tt, frk_tf, frk_f, frkD_tt, frkD_tf, frkD_f, pk2_true, pk2_false, imp_true, seval, Nat.reduceLeDiff, Nat.reduceEqDiff, reduceCtorEq, ↓reduceIte, cfg0, Nat.mul_one, getV_map, List.length_map, hn]
    refine endK.gn (Gn.freeze (id := 0) rfl) ?_; refine endK.ret ?_ (by first | rfl | simp [bel_encE, bel_agE, bel_strs, belAll_append]); simp [bel_encE, bel_agE, bel_strs, belAll_append, fzs_ok, imp, lenOK_iff, List.take_of_length_le, evRes, getT, getO, setO, fzs, fz, fzH, Nat.beq, retV, Res.then, ldT, ldR, mkV, getV, tt_53, tt_22, tt_9, tt_88, cfg0, Nat.mul_one, getV_map, List.length_map, Tryd.f45,  List.take_of_length_le]
  by_cases hlt : i < s.length
  · have hne : ¬ i = s.length := by omega
    have hg := getD_u8 hlt
    have hd : s.drop i = s[i] :: s.drop (i + 1) := List.drop_eq_getElem_cons hlt
    rw [hd, splA] at hw
    by_cases h32 : s[i] = 32
    · rw [if_pos h32] at hw
      have h32n : ((s[i].toNat : Nat) : Int) = 32 := by rw [h32]; rfl
      simp (maxSteps := 2000000) -implicitDefEqProofs +contextual (disch := first | assumption | omega | decide +kernel) only [push_cast, ↓capI, br2_true, br2_false, frk_tt, frk_tf, frk_f, frkD_tt, frkD_tf, frkD_f, pk2_true, pk2_false, imp_true, seval, Nat.reduceLeDiff, Nat.reduceEqDiff, reduceCtorEq, ↓reduceIte, cfg0, Nat.mul_one, getV_map, List.length_map, hne, hg, h32n]
      refine ⟨(W ++ [(s.drop a).take (i - a)], i + 1, i + 1, ver + 1), ⟨Nat.le_refl _, .inl ⟨by (try simp only); omega, by rw [hw]; simp⟩⟩, by simp only; omega, ?_⟩
      exact Gn.canon (by first | rfl | (simp [List.append_nil]; done) | (simp [List.append_nil]; rfl)) (by simp [wk]) (by simp [List.length_append]) (by simp [bel_encE, bel_agE, bel_strs, belAll_append]) (by simp [bel_encE, bel_agE, bel_strs, belAll_append])
    · rw [if_neg h32] at hw
      have h32n : ¬ ((s[i].toNat : Nat) : Int) = 32 := u8_ne (b := 32) h32
      have he : (s.drop a).take (i + 1 - a) = (s.drop a).take (i - a) ++ [s[i]] := by
        rw [show i + 1 - a = (i - a) + 1 by omega, List.take_add_one, List.getElem?_drop, show a + (i - a) = i by omega, List.getElem?_eq_getElem hlt]
        rfl
      simp (maxSteps := 2000000) -implicitDefEqProofs +contextual (disch := first | assumption | omega | decide +kernel) only [push_cast, ↓capI, br2_true, br2_false, frk_tt, frk_tf, frk_f, frkD_tt, frkD_tf, frkD_f, pk2_true, pk2_false, imp_true, seval, Nat.reduceLeDiff, Nat.reduceEqDiff, reduceCtorEq, ↓reduceIte, cfg0, Nat.mul_one, getV_map, List.length_map, hne, hg, h32n]
      refine ⟨(W, a, i + 1, ver), ⟨by (try simp only); omega, .inl ⟨by (try simp only); omega, by rw [hw, he]⟩⟩, by (try simp only); omega, ?_⟩; exact Gn.canon (by first | rfl | (simp [List.append_nil]; rfl)) (by simp [wk]) (by simp [List.length_append]) (by simp [bel_encE, bel_agE, bel_strs, belAll_append]) (by simp [bel_encE, bel_agE, bel_strs, belAll_append])
  · have hie : i = s.length := by omega
    subst hie
    rw [List.drop_length, splA] at hw
    simp (maxSteps := 2000000) -implicitDefEqProofs +contextual (disch := first | assumption | omega | decide +kernel) only [push_cast, ↓capI, br2_true, br2_false, frk_tt, frk_tf, frk_f, frkD_tt, frkD_tf, frkD_f, pk2_true, pk2_false, imp_true, seval, Nat.reduceLeDiff, Nat.reduceEqDiff, reduceCtorEq, ↓reduceIte, cfg0, Nat.mul_one, getV_map, List.length_map]
    refine ⟨(W ++ [(s.drop a).take (s.length - a)], s.length + 1, s.length + 1, ver + 1), ⟨Nat.le_refl _, .inr ⟨rfl, hw⟩⟩, by simp only; omega, ?_⟩
    exact Gn.canon (by first | rfl | (simp [List.append_nil]; done) | (simp [List.append_nil]; rfl)) (by simp [wk]) (by simp [List.length_append]) (by simp [bel_encE, bel_agE, bel_strs, belAll_append]) (by simp [bel_encE, bel_agE, bel_strs, belAll_append])
def wordR (ws : List (List UInt8)) (i : Nat) : Int := match ws[i]? with
  | some w => if (refP w).2 = true then (refP w).1 else -2
  | none => -2
theorem pc46 (ws : List (List UInt8)) (i : Nat) (hw : ∀ w ∈ ws, w.length ≤ 4000000000) : PC Tryd.prog 46 [.sl false (ws.map V.str) ws.length, .int .i64 i] (.int .i64 (wordR ws i)) := by
  by_cases h : i < ws.length
  · have h2 : ¬ (ws.length : Int) ≤ (i : Int) := by omega
    have e : ws[i]? = some ws[i] := List.getElem?_eq_getElem h
    have h60 := rdR ws[i] (hw _ (List.getElem_mem h))
    have hr : wordR ws i = if (refP ws[i]).2 = true then (refP ws[i]).1 else -2 := by rw [wordR, e]
    generalize refP ws[i] = r at h60 hr
    obtain ⟨n, b⟩ := r
    refine PC.walk tok mixed cfg0 Tryd.func46 rfl Tryd.call46 (by simp [bel_encE, bel_agE, bel_strs, belAll_append]) (by first | rfl | simp [bel_encE, bel_agE, bel_strs, belAll_append]) ?_; simp (maxSteps := 2000000) -implicitDefEqProofs +contextual (disch := first | assumption | omega | decide +kernel) only [push_cast, ↓capI, br2_true, br2_false, frk_tt, frk_tf, frk_f, frkD_tt, frkD_tf, frkD_f, pk2_true, pk2_false, imp_true, seval, Nat.reduceLeDiff, Nat.reduceEqDiff, reduceCtorEq, ↓reduceIte, cfg0, Nat.mul_one, getV_map, List.length_map, Tryd.ntmps46]
    refine callO.pc h60 ?_
    cases b
    · simp (maxSteps := 2000000) -implicitDefEqProofs +contextual (disch := first | assumption | omega | decide +kernel) only [push_cast, ↓capI, br2_true, br2_false, frk_tt, frk_tf, frk_f, frkD_tt, frkD_tf, frkD_f, pk2_true, pk2_false, imp_true, seval, Nat.reduceLeDiff, Nat.reduceEqDiff, reduceCtorEq, ↓reduceIte, cfg0, Nat.mul_one, getV_map, List.length_map, encIB]
      refine endK.ret ?_ (by first | rfl | simp [bel_encE, bel_agE, bel_strs, belAll_append]); simp [evRes, getT, retV, Tryd.f46,  hr]
    · simp (maxSteps := 2000000) -implicitDefEqProofs +contextual (disch := first | assumption | omega | decide +kernel) only [push_cast, ↓capI, br2_true, br2_false, frk_tt, frk_tf, frk_f, frkD_tt, frkD_tf, frkD_f, pk2_true, pk2_false, imp_true, seval, Nat.reduceLeDiff, Nat.reduceEqDiff, reduceCtorEq, ↓reduceIte, cfg0, Nat.mul_one, getV_map, List.length_map, encIB]
      refine endK.ret ?_ (by first | rfl | simp [bel_encE, bel_agE, bel_strs, belAll_append]); simp [evRes, getT, retV, Tryd.f46,  hr]
  · have h2 : (ws.length : Int) ≤ (i : Int) := by omega
    have e : ws[i]? = none := List.getElem?_eq_none (by omega)
    refine PC.walk tok mixed cfg0 Tryd.func46 rfl Tryd.call46 (by simp [bel_encE, bel_agE, bel_strs, belAll_append]) (by first | rfl | simp [bel_encE, bel_agE, bel_strs, belAll_append]) ?_; simp (maxSteps := 2000000) -implicitDefEqProofs +contextual (disch := first | assumption | omega | decide +kernel) only [push_cast, ↓capI, br2_true, br2_false, frk_tt, frk_tf, frk_f, frkD_tt, frkD_tf, frkD_f, pk2_true, pk2_false, imp_true, seval, Nat.reduceLeDiff, Nat.reduceEqDiff, reduceCtorEq, ↓reduceIte, cfg0, Nat.mul_one, getV_map, List.length_map, Tryd.ntmps46]
    refine endK.ret ?_ (by first | rfl | simp [bel_encE, bel_agE, bel_strs, belAll_append]); simp [evRes, getT, retV, Tryd.f46,  wordR, e]
end Go.Proofs.YtafongdfnpnneaaDoor

/- Chapter 53: a line's event, by the reference. -/
set_option maxRecDepth 100000
set_option maxHeartbeats 4000000
set_option linter.all false
namespace Go.Proofs.YtafongdfnpnneaaDoor
open Go.Vm

def slW (ws : List (List UInt8)) : V := .sl false (ws.map V.str) ws.length
theorem st_ws (L : List (List UInt8)) : (slW L).st = slW L := rfl
theorem os_ws {g : Bool} {L : List (List UInt8)} {xs : List V} {p : Prop} : optSide g (slW L :: xs) p = optSide g xs p := rfl
theorem bel_ws {n : Nat} (L : List (List UInt8)) : (slW L).bel n = true := by rw [slW, bel_sl]; exact bel_strs L
theorem getE (e : Ev) : getV (encE e) 0 4 = encE e := rfl
def c8 (ws : List (List UInt8)) : List Ev := [⟨1, wordR ws 1, wordR ws 5, 0⟩, ⟨2, wordR ws 1, wordR ws 4, wordR ws 7⟩, ⟨2, wordR ws 1, wordR ws 4, -1⟩, ⟨3, wordR ws 1, wordR ws 5, 0⟩, ⟨4, wordR ws 1, wordR ws 5, wordR ws 7⟩, ⟨5, wordR ws 1, wordR ws 3, 0⟩, ⟨6, wordR ws 1, 0, 0⟩, ⟨6, wordR ws 1, 1, 0⟩]
def tryR (s : List UInt8) (e : Ev) : Option Ev := if chkE e = 0 ∧ lineE e = s then some e else none
def refEv (s : List UInt8) : Option Ev := (c8 (spl s)).findSome? (tryR s)
theorem word_lt (ws : List (List UInt8)) (i : Nat) : -9223372036854775808 ≤ wordR ws i ∧ wordR ws i ≤ 9223372036854775807 := by
  rw [wordR]
  split
  · rename_i w _
    split
    · have h1 := decR_lt w
      have h2 := decR_lt (w.drop 1)
      rw [refP]
      split
      · split <;> simp only <;> omega
      · split <;> simp only <;> omega
    · omega
  · omega
theorem c8_i64 (ws : List (List UInt8)) : ∀ e ∈ c8 ws, i64s e := by
  have h := word_lt ws
  intro e he
  simp only [c8, List.mem_cons, List.not_mem_nil, or_false] at he
  rcases he with rfl | rfl | rfl | rfl | rfl | rfl | rfl | rfl <;> refine ⟨?_, ?_, ?_⟩ <;> simp only <;> first | exact h _ | (have := h 1; omega) | omega
theorem pc29 (s : List UInt8) (hs : s.length ≤ 20000) : PC Tryd.prog 29 [.str s] (encEO (refEv s)) := by
  have h45 : PC Tryd.prog 45 [.str s] (slW (spl s)) := pc45 s hs
  have hw : ∀ w ∈ spl s, w.length ≤ 4000000000 := fun w hw => by have := spl_le hw; omega
  rw [refEv]
  generalize spl s = ws at h45 hw ⊢
  have h46 : ∀ i : Nat, PC Tryd.prog 46 [slW ws, .int .i64 i] (.int .i64 (wordR ws i)) := fun i => pc46 ws i hw
  have hi64 := c8_i64 ws
  have hl8 : (c8 ws).length = 8 := rfl
  have hsl : V.sl false (encE ⟨1, wordR ws 1, wordR ws 5, 0⟩ ++ (encE ⟨2, wordR ws 1, wordR ws 4, wordR ws 7⟩ ++ (encE ⟨2, wordR ws 1, wordR ws 4, -1⟩ ++ (encE ⟨3, wordR ws 1, wordR ws 5, 0⟩ ++ (encE ⟨4, wordR ws 1, wordR ws 5, wordR ws 7⟩ ++ (encE ⟨5, wordR ws 1, wordR ws 3, 0⟩ ++ (encE ⟨6, wordR ws 1, 0, 0⟩ ++ encE ⟨6, wordR ws 1, 1, 0⟩))))))) 8 = slE (c8 ws) := by
    simp [slE, c8]
  simp only [encE, List.cons_append, List.nil_append] at hsl
  refine PC.walk tok mixed cfg0 Tryd.func29 rfl Tryd.call29 (by simp [bel_encE, bel_agE, bel_strs, belAll_append, bel_ws, bel_slE, bel_encEO, bel_Es]) (bel_encEO _) ?_; simp (maxSteps := 2000000) -implicitDefEqProofs +contextual (disch := first | assumption | omega | decide +kernel) only [push_cast, ↓capI, br2_true, br2_false, frk_tt, frk_tf, frk_f, frkD_tt, frkD_tf, frkD_f, pk2_true, pk2_false, imp_true, seval, Nat.reduceLeDiff, Nat.reduceEqDiff, reduceCtorEq, ↓reduceIte, cfg0, Nat.mul_one, getV_map, List.length_map, st_ws, os_ws, agE, get_flat_part lenE, get_flat0 lenE, getE, len_flat lenE, Tryd.ntmps29]
  refine callO.pc h45 ?_
  simp (maxSteps := 2000000) -implicitDefEqProofs +contextual (disch := first | assumption | omega | decide +kernel) only [push_cast, ↓capI, br2_true, br2_false, frk_tt, frk_tf, frk_f, frkD_tt, frkD_tf, frkD_f, pk2_true, pk2_false, imp_true, seval, Nat.reduceLeDiff, Nat.reduceEqDiff, reduceCtorEq, ↓reduceIte, cfg0, Nat.mul_one, getV_map, List.length_map, st_ws, os_ws, agE, get_flat_part lenE, get_flat0 lenE, getE, len_flat lenE]
  refine callO.pc (h46 1) ?_
  simp (maxSteps := 2000000) -implicitDefEqProofs +contextual (disch := first | assumption | omega | decide +kernel) only [push_cast, ↓capI, br2_true, br2_false, frk_tt, frk_tf, frk_f, frkD_tt, frkD_tf, frkD_f, pk2_true, pk2_false, imp_true, seval, Nat.reduceLeDiff, Nat.reduceEqDiff, reduceCtorEq, ↓reduceIte, cfg0, Nat.mul_one, getV_map, List.length_map, st_ws, os_ws, agE, get_flat_part lenE, get_flat0 lenE, getE, len_flat lenE]
  refine callO.pc (h46 5) ?_
  simp (maxSteps := 2000000) -implicitDefEqProofs +contextual (disch := first | assumption | omega | decide +kernel) only [push_cast, ↓capI, br2_true, br2_false, frk_tt, frk_tf, frk_f, frkD_tt, frkD_tf, frkD_f, pk2_true, pk2_false, imp_true, seval, Nat.reduceLeDiff, Nat.reduceEqDiff, reduceCtorEq, ↓reduceIte, cfg0, Nat.mul_one, getV_map, List.length_map, st_ws, os_ws, agE, get_flat_part lenE, get_flat0 lenE, getE, len_flat lenE]
  refine callO.pc (h46 4) ?_
  simp (maxSteps := 2000000) -implicitDefEqProofs +contextual (disch := first | assumption | omega | decide +kernel) only [push_cast, ↓capI, br2_true, br2_false, frk_tt, frk_tf, frk_f, frkD_tt, frkD_tf, frkD_f, pk2_true, pk2_false, imp_true, seval, Nat.reduceLeDiff, Nat.reduceEqDiff, reduceCtorEq, ↓reduceIte, cfg0, Nat.mul_one, getV_map, List.length_map, st_ws, os_ws, agE, get_flat_part lenE, get_flat0 lenE, getE, len_flat lenE]
  refine callO.pc (h46 7) ?_
  simp (maxSteps := 2000000) -implicitDefEqProofs +contextual (disch := first | assumption | omega | decide +kernel) only [push_cast, ↓capI, br2_true, br2_false, frk_tt, frk_tf, frk_f, frkD_tt, frkD_tf, frkD_f, pk2_true, pk2_false, imp_true, seval, Nat.reduceLeDiff, Nat.reduceEqDiff, reduceCtorEq, ↓reduceIte, cfg0, Nat.mul_one, getV_map, List.length_map, st_ws, os_ws, agE, get_flat_part lenE, get_flat0 lenE, getE, len_flat lenE]
  refine callO.pc (h46 4) ?_
  simp (maxSteps := 2000000) -implicitDefEqProofs +contextual (disch := first | assumption | omega | decide +kernel) only [push_cast, ↓capI, br2_true, br2_false, frk_tt, frk_tf, frk_f, frkD_tt, frkD_tf, frkD_f, pk2_true, pk2_false, imp_true, seval, Nat.reduceLeDiff, Nat.reduceEqDiff, reduceCtorEq, ↓reduceIte, cfg0, Nat.mul_one, getV_map, List.length_map, st_ws, os_ws, agE, get_flat_part lenE, get_flat0 lenE, getE, len_flat lenE]
  refine callO.pc (h46 5) ?_
  simp (maxSteps := 2000000) -implicitDefEqProofs +contextual (disch := first | assumption | omega | decide +kernel) only [push_cast, ↓capI, br2_true, br2_false, frk_tt, frk_tf, frk_f, frkD_tt, frkD_tf, frkD_f, pk2_true, pk2_false, imp_true, seval, Nat.reduceLeDiff, Nat.reduceEqDiff, reduceCtorEq, ↓reduceIte, cfg0, Nat.mul_one, getV_map, List.length_map, st_ws, os_ws, agE, get_flat_part lenE, get_flat0 lenE, getE, len_flat lenE]
  refine callO.pc (h46 5) ?_
  simp (maxSteps := 2000000) -implicitDefEqProofs +contextual (disch := first | assumption | omega | decide +kernel) only [push_cast, ↓capI, br2_true, br2_false, frk_tt, frk_tf, frk_f, frkD_tt, frkD_tf, frkD_f, pk2_true, pk2_false, imp_true, seval, Nat.reduceLeDiff, Nat.reduceEqDiff, reduceCtorEq, ↓reduceIte, cfg0, Nat.mul_one, getV_map, List.length_map, st_ws, os_ws, agE, get_flat_part lenE, get_flat0 lenE, getE, len_flat lenE]
  refine callO.pc (h46 7) ?_
  simp (maxSteps := 2000000) -implicitDefEqProofs +contextual (disch := first | assumption | omega | decide +kernel) only [push_cast, ↓capI, br2_true, br2_false, frk_tt, frk_tf, frk_f, frkD_tt, frkD_tf, frkD_f, pk2_true, pk2_false, imp_true, seval, Nat.reduceLeDiff, Nat.reduceEqDiff, reduceCtorEq, ↓reduceIte, cfg0, Nat.mul_one, getV_map, List.length_map, st_ws, os_ws, agE, get_flat_part lenE, get_flat0 lenE, getE, len_flat lenE]
  refine callO.pc (h46 3) ?_
  simp (maxSteps := 2000000) -implicitDefEqProofs +contextual (disch := first | assumption | omega | decide +kernel) only [push_cast, ↓capI, br2_true, br2_false, frk_tt, frk_tf, frk_f, frkD_tt, frkD_tf, frkD_f, pk2_true, pk2_false, imp_true, seval, Nat.reduceLeDiff, Nat.reduceEqDiff, reduceCtorEq, ↓reduceIte, cfg0, Nat.mul_one, getV_map, List.length_map, st_ws, os_ws, agE, get_flat_part lenE, get_flat0 lenE, getE, len_flat lenE]
  rw [hsl]
  clear hsl h46
  generalize c8 ws = l at hi64 hl8 ⊢
  refine T.lp tok mixed cfg0 (fun (j : Nat) => kp 1 (dd 1 (kp 1 (dd 3 (kp 1 (sv (.int .i64 j) (dd 65 (nl)))))))) (fun H0 (j : Nat) => H0) (fun (j : Nat) => j ≤ l.length ∧ (l.take j).findSome? (tryR s) = none) (fun (j : Nat) => l.length - j) (0) ?_ ?_ ?_
  · exact ⟨Nat.zero_le _, rfl⟩
  · exact Gn.canon (J := _) (by first | rfl | (simp [List.append_nil]; done) | (simp [List.append_nil]; rfl)) (by simp [wk, putT, kp, dd, sv, nl]) (by simp [List.length_append]) (by simp [bel_encE, bel_agE, bel_strs, belAll_append, bel_ws, bel_slE, bel_encEO, bel_Es, kp, dd, sv, nl]) (by simp [bel_encE, bel_agE, bel_strs, belAll_append, bel_ws, bel_slE, bel_encEO, bel_Es])
  intro j ⟨hj, hn⟩
  by_cases hlt : j < l.length
  case neg =>
    have hje : j = l.length := by omega
    subst hje
    rw [List.take_length] at hn
    rw [hn]
    simp (maxSteps := 2000000) -implicitDefEqProofs +contextual (disch := first | assumption | omega | decide +kernel) only [push_cast, ↓capI, br2_true, br2_false, frk_tt, frk_tf, frk_f, frkD_tt, frkD_tf, frkD_f, pk2_true, pk2_false, imp_true, seval, Nat.reduceLeDiff, Nat.reduceEqDiff, reduceCtorEq, ↓reduceIte, cfg0, Nat.mul_one, getV_map, List.length_map, st_ws, os_ws, agE, get_flat_part lenE, get_flat0 lenE, getE, len_flat lenE, slE]
    refine endK.ret ?_ (by first | rfl | simp [bel_encE, bel_agE, bel_strs, belAll_append, bel_ws, bel_slE, bel_encEO, bel_Es]); simp [bel_encE, bel_agE, bel_strs, belAll_append, bel_ws, bel_slE, bel_encEO, bel_Es, fzs_ok, imp, lenOK_iff, List.take_of_length_le, evRes, getT, getO, setO, fzs, fz, fzH, Nat.beq, retV, Res.then, ldT, ldR, mkV, getV, tt_53, tt_22, tt_9, tt_88, cfg0, Nat.mul_one, getV_map, List.length_map, st_ws, os_ws, agE, get_flat_part lenE, get_flat0 lenE, getE, len_flat lenE, Tryd.f29,  encEO, encE]
  have hpc := pc26 l[j] (hi64 _ (List.getElem_mem hlt))
  have e1 : l.take (j + 1) = l.take j ++ [l[j]] := by rw [List.take_add_one, List.getElem?_eq_getElem hlt]; rfl
  have hstep : tryR s l[j] = none → (l.take (j + 1)).findSome? (tryR s) = none := fun h => by rw [e1, List.findSome?_append, hn]; simp [h]
  have hfin : ∀ x, tryR s l[j] = some x → l.findSome? (tryR s) = some x := fun x hx => by
    have : l = l.take (j + 1) ++ l.drop (j + 1) := (List.take_append_drop _ _).symm
    rw [this, e1, List.append_assoc, List.findSome?_append, hn, List.findSome?_append]
    simp [hx]
  have ht : tryR s l[j] = if chkE l[j] = 0 ∧ lineE l[j] = s then some l[j] else none := rfl
  have hrl : refL l[j] = encSI (if chkE l[j] = 0 then lineE l[j] else []) (chkE l[j]) := rfl
  simp (maxSteps := 2000000) -implicitDefEqProofs +contextual (disch := first | assumption | omega | decide +kernel) only [push_cast, ↓capI, br2_true, br2_false, frk_tt, frk_tf, frk_f, frkD_tt, frkD_tf, frkD_f, pk2_true, pk2_false, imp_true, seval, Nat.reduceLeDiff, Nat.reduceEqDiff, reduceCtorEq, ↓reduceIte, cfg0, Nat.mul_one, getV_map, List.length_map, st_ws, os_ws, agE, get_flat_part lenE, get_flat0 lenE, getE, len_flat lenE, slE]
  refine callO.pc hpc ?_
  by_cases h0 : chkE l[j] = 0
  · by_cases h1 : lineE l[j] = s
    · rw [hrl, if_pos h0]
      rw [if_pos ⟨h0, h1⟩] at ht
      rw [hfin _ ht]
      simp (maxSteps := 2000000) -implicitDefEqProofs +contextual (disch := first | assumption | omega | decide +kernel) only [push_cast, ↓capI, br2_true, br2_false, frk_tt, frk_tf, frk_f, frkD_tt, frkD_tf, frkD_f, pk2_true, pk2_false, imp_true, seval, Nat.reduceLeDiff, Nat.reduceEqDiff, reduceCtorEq, ↓reduceIte, cfg0, Nat.mul_one, getV_map, List.length_map, st_ws, os_ws, agE, get_flat_part lenE, get_flat0 lenE, getE, len_flat lenE, encSI, slE, encE]
      refine endK.ret ?_ (by first | rfl | simp [bel_encE, bel_agE, bel_strs, belAll_append, bel_ws, bel_slE, bel_encEO, bel_Es]); simp [bel_encE, bel_agE, bel_strs, belAll_append, bel_ws, bel_slE, bel_encEO, bel_Es, fzs_ok, imp, lenOK_iff, List.take_of_length_le, evRes, getT, getO, setO, fzs, fz, fzH, Nat.beq, retV, Res.then, ldT, ldR, mkV, getV, tt_53, tt_22, tt_9, tt_88, cfg0, Nat.mul_one, getV_map, List.length_map, st_ws, os_ws, agE, get_flat_part lenE, get_flat0 lenE, getE, len_flat lenE, Tryd.f29,  encEO, encE]
    · rw [hrl, if_pos h0]
      rw [if_neg (fun h => h1 h.2)] at ht
      simp (maxSteps := 2000000) -implicitDefEqProofs +contextual (disch := first | assumption | omega | decide +kernel) only [push_cast, ↓capI, br2_true, br2_false, frk_tt, frk_tf, frk_f, frkD_tt, frkD_tf, frkD_f, pk2_true, pk2_false, imp_true, seval, Nat.reduceLeDiff, Nat.reduceEqDiff, reduceCtorEq, ↓reduceIte, cfg0, Nat.mul_one, getV_map, List.length_map, st_ws, os_ws, agE, get_flat_part lenE, get_flat0 lenE, getE, len_flat lenE, encSI, slE]
      refine ⟨j + 1, ⟨hlt, hstep ht⟩, by (try simp only); omega, ?_⟩; exact Gn.canon (by first | rfl | (simp [List.append_nil, slE]; rfl)) (by simp [wk, slE]) (by simp [List.length_append]) (by simp [bel_encE, bel_agE, bel_strs, belAll_append, bel_ws, bel_slE, bel_encEO, bel_Es]) (by simp [bel_encE, bel_agE, bel_strs, belAll_append, bel_ws, bel_slE, bel_encEO, bel_Es])
  · rw [hrl, if_neg h0]
    rw [if_neg (fun h => h0 h.1)] at ht
    simp (maxSteps := 2000000) -implicitDefEqProofs +contextual (disch := first | assumption | omega | decide +kernel) only [push_cast, ↓capI, br2_true, br2_false, frk_tt, frk_tf, frk_f, frkD_tt, frkD_tf, frkD_f, pk2_true, pk2_false, imp_true, seval, Nat.reduceLeDiff, Nat.reduceEqDiff, reduceCtorEq, ↓reduceIte, cfg0, Nat.mul_one, getV_map, List.length_map, st_ws, os_ws, agE, get_flat_part lenE, get_flat0 lenE, getE, len_flat lenE, encSI, slE, h0]
    refine ⟨j + 1, ⟨hlt, hstep ht⟩, by (try simp only); omega, ?_⟩; exact Gn.canon (by first | rfl | (simp [List.append_nil, slE]; rfl)) (by simp [wk, slE]) (by simp [List.length_append]) (by simp [bel_encE, bel_agE, bel_strs, belAll_append, bel_ws, bel_slE, bel_encEO, bel_Es]) (by simp [bel_encE, bel_agE, bel_strs, belAll_append, bel_ws, bel_slE, bel_encEO, bel_Es])

theorem ref_dgs {n : Int} (h : okN n = true) : refP (dgs 9 n.toNat) = (n, true) := by
  obtain ⟨h0, h1⟩ := okN_lt h
  have hd := dgs_dig 9 n.toNat
  have hne := dgs_ne h1
  have hlen := dgs_len 9 n.toNat
  have hv := valL_dgs 9 n.toNat (by decide) h1
  have hf := fmtI_ok h
  have hdec : decR (dgs 9 n.toNat) = (n.toNat, true) := by
    have : 0 < (dgs 9 n.toNat).length := List.length_pos_iff.2 hne
    rw [decR, if_neg (by omega), hv]
  have hh : ¬ (dgs 9 n.toNat).head? = some 45 := by
    intro e
    have := hd 45 (List.mem_of_mem_head? e)
    revert this
    decide
  have e : ((n.toNat : Nat) : Int) = n := by omega
  rw [refP, if_neg hh, hdec]
  simp only [e, hf, and_self, if_true]
theorem word_at {ws : List (List UInt8)} {i : Nat} {n : Int} (h : okN n = true) (hw : ws[i]? = some (dgs 9 n.toNat)) : wordR ws i = n := by
  rw [wordR, hw]
  simp only [ref_dgs h, if_true]
theorem try_R {s : List UInt8} {e x : Ev} (h : tryR s e = some x) : x = e ∧ chkE x = 0 ∧ lineE x = s := by
  rw [tryR] at h
  split at h
  · rename_i h1
    simp only [Option.some.injEq] at h
    subst h
    exact ⟨rfl, h1⟩
  · cases h
theorem c8_tidy (ws : List (List UInt8)) : ∀ e ∈ c8 ws, tidy e := by
  intro e he
  simp only [c8, List.mem_cons, List.not_mem_nil, or_false] at he
  rcases he with rfl | rfl | rfl | rfl | rfl | rfl | rfl | rfl <;> simp [tidy]
theorem c8_in {e : Ev} (hc : chkE e = 0) (ht : tidy e) : e ∈ c8 (wdsE e) := by
  rcases form hc ht with ⟨a, b, rfl, p0, p1⟩ | ⟨a, b, c, rfl, p0, p1, p2, p3⟩ | ⟨a, b, rfl, p0, p1⟩ | ⟨a, b, rfl, p0, p1⟩ | ⟨a, b, c, rfl, p0, p1, p2⟩ | ⟨a, b, rfl, p0, p1, p2, p3⟩ | ⟨a, rfl, p0⟩ | ⟨a, rfl, p0⟩
  · rw [wds1]
    have q1 := word_at (ws := [wPacket, dgs 9 a.toNat, wSent, wBy, wHost, dgs 9 b.toNat]) (i := 1) p0 rfl
    have q5 := word_at (ws := [wPacket, dgs 9 a.toNat, wSent, wBy, wHost, dgs 9 b.toNat]) (i := 5) p1 rfl
    simp [c8, q1, q5]
  · rw [wds2 a b c p0]
    have q1 := word_at (ws := [wPacket, dgs 9 a.toNat, wAt, wSwitch, dgs 9 b.toNat, wTo, wPort, dgs 9 c.toNat]) (i := 1) p1 rfl
    have q4 := word_at (ws := [wPacket, dgs 9 a.toNat, wAt, wSwitch, dgs 9 b.toNat, wTo, wPort, dgs 9 c.toNat]) (i := 4) p2 rfl
    have q7 := word_at (ws := [wPacket, dgs 9 a.toNat, wAt, wSwitch, dgs 9 b.toNat, wTo, wPort, dgs 9 c.toNat]) (i := 7) p3 rfl
    simp [c8, q1, q4, q7]
  · rw [wds2d]
    have q1 := word_at (ws := [wPacket, dgs 9 a.toNat, wAt, wSwitch, dgs 9 b.toNat, wDropped]) (i := 1) p0 rfl
    have q4 := word_at (ws := [wPacket, dgs 9 a.toNat, wAt, wSwitch, dgs 9 b.toNat, wDropped]) (i := 4) p1 rfl
    simp [c8, q1, q4]
  · rw [wds3]
    have q1 := word_at (ws := [wPacket, dgs 9 a.toNat, wDelivered, wTo, wHost, dgs 9 b.toNat]) (i := 1) p0 rfl
    have q5 := word_at (ws := [wPacket, dgs 9 a.toNat, wDelivered, wTo, wHost, dgs 9 b.toNat]) (i := 5) p1 rfl
    simp [c8, q1, q5]
  · rw [wds4]
    have q1 := word_at (ws := [wPacket, dgs 9 a.toNat, wLost, wAt, wSwitch, dgs 9 b.toNat, wPort, dgs 9 c.toNat]) (i := 1) p0 rfl
    have q5 := word_at (ws := [wPacket, dgs 9 a.toNat, wLost, wAt, wSwitch, dgs 9 b.toNat, wPort, dgs 9 c.toNat]) (i := 5) p1 rfl
    have q7 := word_at (ws := [wPacket, dgs 9 a.toNat, wLost, wAt, wSwitch, dgs 9 b.toNat, wPort, dgs 9 c.toNat]) (i := 7) p2 rfl
    simp [c8, q1, q5, q7]
  · rw [wds5]
    have q1 := word_at (ws := [wPhase, dgs 9 a.toNat, wStep, dgs 9 b.toNat]) (i := 1) p2 rfl
    have q3 := word_at (ws := [wPhase, dgs 9 a.toNat, wStep, dgs 9 b.toNat]) (i := 3) p3 rfl
    simp [c8, q1, q3]
  · rw [wds6]
    have q1 := word_at (ws := [wLink, dgs 9 a.toNat, wUp]) (i := 1) p0 rfl
    simp [c8, q1]
  · rw [wds6d]
    have q1 := word_at (ws := [wLink, dgs 9 a.toNat, wDown]) (i := 1) p0 rfl
    simp [c8, q1]
/-- both read the same events -/
theorem ref_par (s : List UInt8) : refEv s = parE (spl s) := by
  cases h : refEv s with
  | some x =>
    rw [refEv] at h
    obtain ⟨e0, h1, h2⟩ := List.exists_of_findSome?_eq_some h
    obtain ⟨rfl, h3, h4⟩ := try_R h2
    exact (par_iff.2 ⟨h3, c8_tidy _ _ h1, h4⟩).symm
  | none =>
    cases h2 : parE (spl s) with
    | none => rfl
    | some e =>
      obtain ⟨a, b, c⟩ := par_iff.1 h2
      have h3 := c8_in a b
      rw [← par_words a b c] at h3
      rw [refEv, List.findSome?_eq_none_iff] at h
      have := h e h3
      rw [tryR, if_pos ⟨a, c⟩] at this
      cases this
end Go.Proofs.YtafongdfnpnneaaDoor

/- Chapter 53: Format, Parse and Equal of the reference. -/
set_option maxRecDepth 100000
set_option maxHeartbeats 4000000
set_option linter.all false
namespace Go.Proofs.YtafongdfnpnneaaDoor
open Go.Vm

theorem pc9 (l : List Ev) (hl : l.length ≤ 400) (hi : ∀ e ∈ l, i64s e) : PC Tryd.prog 9 [slE l] (.tup [.str (fmtE l).1, .int .i64 (fmtE l).2]) := by
  have htl := txt_len l
  refine PC.walk tok mixed cfg0 Tryd.func9 rfl Tryd.call9 (by simp [bel_encE, bel_agE, belAll_append, bel_slE, bel_encEO, bel_Es, bel_encPr]) (by first | rfl | simp [bel_encE, bel_agE, belAll_append, bel_slE, bel_encEO, bel_Es, bel_encPr]) ?_; simp (maxSteps := 2000000) -implicitDefEqProofs +contextual (disch := first | assumption | omega | decide +kernel) only [push_cast, ↓capI, br2_true, br2_false, frk_tt, frk_tf, frk_f, frkD_tt, frkD_tf, frkD_f, pk2_true, pk2_false, imp_true, seval, Nat.reduceLeDiff, Nat.reduceEqDiff, reduceCtorEq, ↓reduceIte, cfg0, Nat.mul_one, get_flat_part lenE, get_flat0 lenE, getE, len_flat lenE, take_E, beq_dec, Tryd.ntmps9]
  refine T.lp tok mixed cfg0 (fun (j : Nat) => kp 1 (dd 1 (kp 2 (sv (.str (txtE (l.take j))) (sv (.int .i64 j) (dd 27 (nl))))))) (fun H0 (j : Nat) => H0) (fun (j : Nat) => j ≤ l.length ∧ badE (l.take j) = 0) (fun (j : Nat) => l.length - j) (0) ?_ ?_ ?_
  · exact ⟨Nat.zero_le _, rfl⟩
  · have e0 : txtE [] = [] := rfl
    rw [List.take_zero, e0]
    exact Gn.canon (J := _) (by first | rfl | (simp [List.append_nil]; done) | (simp [List.append_nil]; rfl)) (by simp [wk, slE, putT, kp, dd, sv, nl]) (by simp [List.length_append]) (by simp [bel_encE, bel_agE, belAll_append, bel_slE, bel_encEO, bel_Es, bel_encPr, kp, dd, sv, nl]) (by simp [bel_encE, bel_agE, belAll_append, bel_slE, bel_encEO, bel_Es, bel_encPr])
  intro j ⟨hj, hn⟩
  by_cases hlt : j < l.length
  case neg =>
    have hje : j = l.length := by omega
    subst hje
    rw [List.take_length] at hn
    by_cases h4 : 16384 < (txtE l).length
    · have hf : fmtE l = ([], 4) := by rw [fmtE, if_neg (by omega), if_pos h4]
      have h4b : (16384 : Int) < ((txtE l).length : Int) := by omega
      rw [hf]
      simp (maxSteps := 2000000) -implicitDefEqProofs +contextual (disch := first | assumption | omega | decide +kernel) only [push_cast, ↓capI, br2_true, br2_false, frk_tt, frk_tf, frk_f, frkD_tt, frkD_tf, frkD_f, pk2_true, pk2_false, imp_true, seval, Nat.reduceLeDiff, Nat.reduceEqDiff, reduceCtorEq, ↓reduceIte, cfg0, Nat.mul_one, get_flat_part lenE, get_flat0 lenE, getE, len_flat lenE, take_E, beq_dec, slE, List.take_length]
      refine endK.ret ?_ (by first | rfl | simp [bel_encE, bel_agE, belAll_append, bel_slE, bel_encEO, bel_Es, bel_encPr]); simp [evRes, getT, retV, Tryd.f9]
    · have hf : fmtE l = (txtE l, 0) := by rw [fmtE, if_neg (by omega), if_neg h4]
      have h4b : ¬ (16384 : Int) < ((txtE l).length : Int) := by omega
      rw [hf]
      simp (maxSteps := 2000000) -implicitDefEqProofs +contextual (disch := first | assumption | omega | decide +kernel) only [push_cast, ↓capI, br2_true, br2_false, frk_tt, frk_tf, frk_f, frkD_tt, frkD_tf, frkD_f, pk2_true, pk2_false, imp_true, seval, Nat.reduceLeDiff, Nat.reduceEqDiff, reduceCtorEq, ↓reduceIte, cfg0, Nat.mul_one, get_flat_part lenE, get_flat0 lenE, getE, len_flat lenE, take_E, beq_dec, slE, List.take_length]
      refine endK.ret ?_ (by first | rfl | simp [bel_encE, bel_agE, belAll_append, bel_slE, bel_encEO, bel_Es, bel_encPr]); simp [evRes, getT, retV, Tryd.f9]
  have hpc := pc26 l[j] (hi _ (List.getElem_mem hlt))
  have hg : l[j]? = some l[j] := List.getElem?_eq_getElem hlt
  have hrl : refL l[j] = encSI (if chkE l[j] = 0 then lineE l[j] else []) (chkE l[j]) := rfl
  have htj := txt_len (l.take j)
  rw [List.length_take] at htj
  have hll := line_len l[j]
  simp (maxSteps := 2000000) -implicitDefEqProofs +contextual (disch := first | assumption | omega | decide +kernel) only [push_cast, ↓capI, br2_true, br2_false, frk_tt, frk_tf, frk_f, frkD_tt, frkD_tf, frkD_f, pk2_true, pk2_false, imp_true, seval, Nat.reduceLeDiff, Nat.reduceEqDiff, reduceCtorEq, ↓reduceIte, cfg0, Nat.mul_one, get_flat_part lenE, get_flat0 lenE, getE, len_flat lenE, take_E, beq_dec, slE]
  refine callO.pc hpc ?_
  by_cases h0 : chkE l[j] = 0
  · rw [hrl, if_pos h0]
    have ht := txt_step hg
    simp (maxSteps := 2000000) -implicitDefEqProofs +contextual (disch := first | assumption | omega | decide +kernel) only [push_cast, ↓capI, br2_true, br2_false, frk_tt, frk_tf, frk_f, frkD_tt, frkD_tf, frkD_f, pk2_true, pk2_false, imp_true, seval, Nat.reduceLeDiff, Nat.reduceEqDiff, reduceCtorEq, ↓reduceIte, cfg0, Nat.mul_one, get_flat_part lenE, get_flat0 lenE, getE, len_flat lenE, take_E, beq_dec, encSI]
    refine ⟨j + 1, ⟨hlt, bad_step hg hn h0⟩, by (try simp only); omega, ?_⟩; exact Gn.canon (by first | rfl | (simp [List.append_nil, slE, ht]; rfl)) (by simp [wk, slE, slE, ht]) (by simp [List.length_append]) (by simp [bel_encE, bel_agE, belAll_append, bel_slE, bel_encEO, bel_Es, bel_encPr]) (by simp [bel_encE, bel_agE, belAll_append, bel_slE, bel_encEO, bel_Es, bel_encPr])
  · rw [hrl, if_neg h0]
    have hb := badE_at hg hn h0
    have hf : fmtE l = ([], chkE l[j]) := by rw [fmtE, hb, if_pos h0]
    rw [hf]
    simp (maxSteps := 2000000) -implicitDefEqProofs +contextual (disch := first | assumption | omega | decide +kernel) only [push_cast, ↓capI, br2_true, br2_false, frk_tt, frk_tf, frk_f, frkD_tt, frkD_tf, frkD_f, pk2_true, pk2_false, imp_true, seval, Nat.reduceLeDiff, Nat.reduceEqDiff, reduceCtorEq, ↓reduceIte, cfg0, Nat.mul_one, get_flat_part lenE, get_flat0 lenE, getE, len_flat lenE, take_E, beq_dec, encSI, h0]
    refine endK.ret ?_ (by first | rfl | simp [bel_encE, bel_agE, belAll_append, bel_slE, bel_encEO, bel_Es, bel_encPr]); simp [evRes, getT, retV, Tryd.f9]
theorem cut_take {c : UInt8} {s : List UInt8} {a e : Nat} {x : UInt8} (hc : cutC c (s.drop a) = ((s.drop a).take (e - a) ++ (cutC c (s.drop e)).1, (cutC c (s.drop e)).2.1, (cutC c (s.drop e)).2.2)) (hae : a ≤ e) (hx : s[e]? = some x) (hn : ¬ x = c) :
    cutC c (s.drop a) = ((s.drop a).take (e + 1 - a) ++ (cutC c (s.drop (e + 1))).1, (cutC c (s.drop (e + 1))).2.1, (cutC c (s.drop (e + 1))).2.2) := by
  obtain ⟨h1, h2⟩ := List.getElem?_eq_some_iff.1 hx
  have hd : s.drop e = x :: s.drop (e + 1) := by rw [List.drop_eq_getElem_cons h1, h2]
  rw [hc, hd, cutC, if_neg hn]
  have : (s.drop a).take (e + 1 - a) = (s.drop a).take (e - a) ++ [x] := by
    rw [show e + 1 - a = (e - a) + 1 by omega, List.take_add_one, List.getElem?_drop, show a + (e - a) = e by omega, hx]
    rfl
  rw [this, List.append_assoc]
  rfl
theorem pc11 (s : List UInt8) (hs : s.length ≤ 4000000000) : PC Tryd.prog 11 [.str s] (encPr (prsE s)) := by
  refine PC.walk tok mixed cfg0 Tryd.func11 rfl Tryd.call11 (by simp [bel_encE, bel_agE, belAll_append, bel_slE, bel_encEO, bel_Es, bel_encPr]) (bel_encPr _) ?_; simp (maxSteps := 2000000) -implicitDefEqProofs +contextual (disch := first | assumption | omega | decide +kernel) only [push_cast, ↓capI, br2_true, br2_false, frk_tt, frk_tf, frk_f, frkD_tt, frkD_tf, frkD_f, pk2_true, pk2_false, imp_true, seval, Nat.reduceLeDiff, Nat.reduceEqDiff, reduceCtorEq, ↓reduceIte, cfg0, Nat.mul_one, get_flat_part lenE, get_flat0 lenE, getE, len_flat lenE, take_E, beq_dec, Tryd.ntmps11]
  by_cases hl : 16384 < s.length
  · have hl2 : (16384 : Int) < (s.length : Int) := by omega
    rw [prsE, if_pos hl]
    simp (maxSteps := 2000000) -implicitDefEqProofs +contextual (disch := first | assumption | omega | decide +kernel) only [push_cast, ↓capI, br2_true, br2_false, frk_tt, frk_tf, frk_f, frkD_tt, frkD_tf, frkD_f, pk2_true, pk2_false, imp_true, seval, Nat.reduceLeDiff, Nat.reduceEqDiff, reduceCtorEq, ↓reduceIte, cfg0, Nat.mul_one, get_flat_part lenE, get_flat0 lenE, getE, len_flat lenE, take_E, beq_dec, hl2]
    refine endK.ret ?_ (by first | rfl | simp [bel_encE, bel_agE, belAll_append, bel_slE, bel_encEO, bel_Es, bel_encPr]); simp [evRes, getT, retV, Tryd.f11,  encPr]
  rw [prsE, if_neg hl]
  have hl2 : ¬ (16384 : Int) < (s.length : Int) := by omega
  simp (maxSteps := 2000000) -implicitDefEqProofs +contextual (disch := first | assumption | omega | decide +kernel) only [push_cast, ↓capI, br2_true, br2_false, frk_tt, frk_tf, frk_f, frkD_tt, frkD_tf, frkD_f, pk2_true, pk2_false, imp_true, seval, Nat.reduceLeDiff, Nat.reduceEqDiff, reduceCtorEq, ↓reduceIte, cfg0, Nat.mul_one, get_flat_part lenE, get_flat0 lenE, getE, len_flat lenE, take_E, beq_dec, hl2]
  refine T.lp tok mixed cfg0 (fun ((a, l, n, ver) : Nat × List Ev × Nat × Nat) => kp 1 (dd 4 (sv (.buf 0 ver 0 l.length 4) (sv (.int .i64 a) (sv (.int .i64 n) (dd 49 (nl))))))) (fun H0 ((a, l, n, ver) : Nat × List Ev × Nat × Nat) => [.cells ver (l.flatMap encE)]) (fun ((a, l, n, ver) : Nat × List Ev × Nat × Nat) => (a ≤ s.length ∧ n ≤ a ∧ l.length ≤ n) ∧ ∃ f, s.length - a < f ∧ prsG f (s.drop a) (n + 1) l = prsG (s.length + 1) s 1 []) (fun ((a, l, n, ver) : Nat × List Ev × Nat × Nat) => s.length - a) ((0, [], 0, 0)) ?_ ?_ ?_
  · exact ⟨⟨Nat.zero_le _, Nat.le_refl _, Nat.le_refl _⟩, s.length + 1, by (try simp only); omega, rfl⟩
  · refine (Gn.ownNil (t := 5) (sz := 4) rfl).trans ?_
    exact Gn.canon (J := []) (by first | rfl | (simp [List.append_nil]; done) | (simp [List.append_nil]; rfl)) (by simp [wk, slE, putT, kp, dd, sv, nl]) (by simp [List.length_append]) (by simp [bel_encE, bel_agE, belAll_append, bel_slE, bel_encEO, bel_Es, bel_encPr, kp, dd, sv, nl]) (by simp [bel_encE, bel_agE, belAll_append, bel_slE, bel_encEO, bel_Es, bel_encPr])
  rintro ⟨a, l, n, ver⟩ ⟨⟨ha, hna, hln⟩, f, hf, hp⟩
  (try simp only at ha hna hln hf hp)
  obtain ⟨f, rfl⟩ : ∃ g, f = g + 1 := ⟨f - 1, by omega⟩
  rw [prsG] at hp
  by_cases hq : a < s.length
  case neg =>
    have hae : a = s.length := by omega
    subst hae
    rw [List.drop_length, if_pos rfl] at hp
    rw [← hp]
    simp (maxSteps := 2000000) -implicitDefEqProofs +contextual (disch := first | assumption | omega | decide +kernel) only [push_cast, ↓capI, br2_true, br2_false, frk_tt, frk_tf, frk_f, frkD_tt, frkD_tf, frkD_f, pk2_true, pk2_false, imp_true, seval, Nat.reduceLeDiff, Nat.reduceEqDiff, reduceCtorEq, ↓reduceIte, cfg0, Nat.mul_one, get_flat_part lenE, get_flat0 lenE, getE, len_flat lenE, take_E, beq_dec]
    refine endK.gn (Gn.freeze (id := 0) rfl) ?_; refine endK.ret ?_ (by first | rfl | simp [bel_encE, bel_agE, belAll_append, bel_slE, bel_encEO, bel_Es, bel_encPr]); simp [bel_encE, bel_agE, belAll_append, bel_slE, bel_encEO, bel_Es, bel_encPr, fzs_ok, imp, lenOK_iff, List.take_of_length_le, evRes, getT, getO, setO, fzs, fz, fzH, Nat.beq, retV, Res.then, ldT, ldR, mkV, getV, tt_53, tt_22, tt_9, tt_88, cfg0, Nat.mul_one, get_flat_part lenE, get_flat0 lenE, getE, len_flat lenE, take_E, beq_dec, Tryd.f11,  encPr, slE]
  have hne : ¬ s.drop a = [] := by
    intro e
    have := congrArg List.length e
    simp at this
    omega
  rw [if_neg hne] at hp
  simp (maxSteps := 2000000) -implicitDefEqProofs +contextual (disch := first | assumption | omega | decide +kernel) only [push_cast, ↓capI, br2_true, br2_false, frk_tt, frk_tf, frk_f, frkD_tt, frkD_tf, frkD_f, pk2_true, pk2_false, imp_true, seval, Nat.reduceLeDiff, Nat.reduceEqDiff, reduceCtorEq, ↓reduceIte, cfg0, Nat.mul_one, get_flat_part lenE, get_flat0 lenE, getE, len_flat lenE, take_E, beq_dec, hq]
  refine T.lp tok mixed cfg0 (fun (e : Nat) => kp 1 (dd 4 (kp 3 (sv (.int .i64 e) (dd 48 (nl)))))) (fun H0 (e : Nat) => H0) (fun (e : Nat) => a ≤ e ∧ e ≤ s.length ∧ cutC 10 (s.drop a) = ((s.drop a).take (e - a) ++ (cutC 10 (s.drop e)).1, (cutC 10 (s.drop e)).2.1, (cutC 10 (s.drop e)).2.2)) (fun (e : Nat) => s.length - e) (a) ?_ ?_ ?_
  · exact ⟨Nat.le_refl _, ha, by simp⟩
  · exact Gn.canon (J := _) (by first | rfl | (simp [List.append_nil]; done) | (simp [List.append_nil]; rfl)) (by simp [wk, slE, putT, kp, dd, sv, nl]) (by simp [List.length_append]) (by simp [bel_encE, bel_agE, belAll_append, bel_slE, bel_encEO, bel_Es, bel_encPr, kp, dd, sv, nl]) (by simp [bel_encE, bel_agE, belAll_append, bel_slE, bel_encEO, bel_Es, bel_encPr])
  intro e ⟨hae, hel, hc⟩
  have hpc : PC Tryd.prog 29 [.str ((s.drop a).take (e - a))] (encEO (parE (spl ((s.drop a).take (e - a))))) := by
    rw [← ref_par]
    exact pc29 _ (by rw [List.length_take, List.length_drop]; omega)
  by_cases hlt : e < s.length
  · have hg := getD_u8 hlt
    have hgq : s[e]? = some s[e] := List.getElem?_eq_getElem hlt
    by_cases h10 : s[e] = 10
    · have h10n : ((s[e].toNat : Nat) : Int) = 10 := by rw [h10]; rfl
      have hd : s.drop e = s[e] :: s.drop (e + 1) := List.drop_eq_getElem_cons hlt
      rw [hd, cutC, if_pos h10, List.append_nil] at hc
      rw [hc] at hp
      simp only [if_true] at hp
      have hnl : ¬ e = s.length := by omega
      generalize parE (spl ((s.drop a).take (e - a))) = x at hpc hp
      simp (maxSteps := 2000000) -implicitDefEqProofs +contextual (disch := first | assumption | omega | decide +kernel) only [push_cast, ↓capI, br2_true, br2_false, frk_tt, frk_tf, frk_f, frkD_tt, frkD_tf, frkD_f, pk2_true, pk2_false, imp_true, seval, Nat.reduceLeDiff, Nat.reduceEqDiff, reduceCtorEq, ↓reduceIte, cfg0, Nat.mul_one, get_flat_part lenE, get_flat0 lenE, getE, len_flat lenE, take_E, beq_dec, hg, h10n]
      refine callO.pc hpc ?_
      cases x with
      | none =>
        rw [← hp]
        simp (maxSteps := 2000000) -implicitDefEqProofs +contextual (disch := first | assumption | omega | decide +kernel) only [push_cast, ↓capI, br2_true, br2_false, frk_tt, frk_tf, frk_f, frkD_tt, frkD_tf, frkD_f, pk2_true, pk2_false, imp_true, seval, Nat.reduceLeDiff, Nat.reduceEqDiff, reduceCtorEq, ↓reduceIte, cfg0, Nat.mul_one, get_flat_part lenE, get_flat0 lenE, getE, len_flat lenE, take_E, beq_dec, encEO, agE, encE]
        refine endK.ret ?_ (by first | rfl | simp [bel_encE, bel_agE, belAll_append, bel_slE, bel_encEO, bel_Es, bel_encPr]); simp [bel_encE, bel_agE, belAll_append, bel_slE, bel_encEO, bel_Es, bel_encPr, fzs_ok, imp, lenOK_iff, List.take_of_length_le, evRes, getT, getO, setO, fzs, fz, fzH, Nat.beq, retV, Res.then, ldT, ldR, mkV, getV, tt_53, tt_22, tt_9, tt_88, cfg0, Nat.mul_one, get_flat_part lenE, get_flat0 lenE, getE, len_flat lenE, take_E, beq_dec, Tryd.f11,  encPr, slE]
      | some x =>
        simp only at hp
        simp (maxSteps := 2000000) -implicitDefEqProofs +contextual (disch := first | assumption | omega | decide +kernel) only [push_cast, ↓capI, br2_true, br2_false, frk_tt, frk_tf, frk_f, frkD_tt, frkD_tf, frkD_f, pk2_true, pk2_false, imp_true, seval, Nat.reduceLeDiff, Nat.reduceEqDiff, reduceCtorEq, ↓reduceIte, cfg0, Nat.mul_one, get_flat_part lenE, get_flat0 lenE, getE, len_flat lenE, take_E, beq_dec, encEO, agE, encE]
        refine ⟨(e + 1, l ++ [x], n + 1, ver + 1), ⟨⟨by (try simp only); omega, by (try simp only); omega, by simp; omega⟩, f, by (try simp only); omega, hp⟩, by (try simp only); omega, ?_⟩
        exact Gn.canon (by first | rfl | (simp [List.append_nil, encE]; done) | (simp [List.append_nil, encE]; rfl)) (by simp [wk, slE]) (by simp [List.length_append]) (by simp [bel_encE, bel_agE, belAll_append, bel_slE, bel_encEO, bel_Es, bel_encPr]) (by simp [bel_encE, bel_agE, belAll_append, bel_slE, bel_encEO, bel_Es, bel_encPr])
    · have h10n : ¬ ((s[e].toNat : Nat) : Int) = 10 := u8_ne (b := 10) h10
      simp (maxSteps := 2000000) -implicitDefEqProofs +contextual (disch := first | assumption | omega | decide +kernel) only [push_cast, ↓capI, br2_true, br2_false, frk_tt, frk_tf, frk_f, frkD_tt, frkD_tf, frkD_f, pk2_true, pk2_false, imp_true, seval, Nat.reduceLeDiff, Nat.reduceEqDiff, reduceCtorEq, ↓reduceIte, cfg0, Nat.mul_one, get_flat_part lenE, get_flat0 lenE, getE, len_flat lenE, take_E, beq_dec, hg, h10n]
      refine ⟨e + 1, ⟨by omega, by omega, cut_take hc hae hgq h10⟩, by (try simp only); omega, ?_⟩; exact Gn.canon (by first | rfl | (simp [List.append_nil]; rfl)) (by simp [wk, slE]) (by simp [List.length_append]) (by simp [bel_encE, bel_agE, belAll_append, bel_slE, bel_encEO, bel_Es, bel_encPr]) (by simp [bel_encE, bel_agE, belAll_append, bel_slE, bel_encEO, bel_Es, bel_encPr])
  · have hee : e = s.length := by omega
    subst hee
    rw [List.drop_length, cutC, List.append_nil] at hc
    rw [hc] at hp
    simp only [Bool.false_eq_true, if_false] at hp
    rw [← hp]
    generalize parE (spl ((s.drop a).take (s.length - a))) = x at hpc
    simp (maxSteps := 2000000) -implicitDefEqProofs +contextual (disch := first | assumption | omega | decide +kernel) only [push_cast, ↓capI, br2_true, br2_false, frk_tt, frk_tf, frk_f, frkD_tt, frkD_tf, frkD_f, pk2_true, pk2_false, imp_true, seval, Nat.reduceLeDiff, Nat.reduceEqDiff, reduceCtorEq, ↓reduceIte, cfg0, Nat.mul_one, get_flat_part lenE, get_flat0 lenE, getE, len_flat lenE, take_E, beq_dec]
    refine callO.pc hpc ?_
    cases x with
    | none =>
      simp (maxSteps := 2000000) -implicitDefEqProofs +contextual (disch := first | assumption | omega | decide +kernel) only [push_cast, ↓capI, br2_true, br2_false, frk_tt, frk_tf, frk_f, frkD_tt, frkD_tf, frkD_f, pk2_true, pk2_false, imp_true, seval, Nat.reduceLeDiff, Nat.reduceEqDiff, reduceCtorEq, ↓reduceIte, cfg0, Nat.mul_one, get_flat_part lenE, get_flat0 lenE, getE, len_flat lenE, take_E, beq_dec, encEO, agE, encE]
      refine endK.ret ?_ (by first | rfl | simp [bel_encE, bel_agE, belAll_append, bel_slE, bel_encEO, bel_Es, bel_encPr]); simp [bel_encE, bel_agE, belAll_append, bel_slE, bel_encEO, bel_Es, bel_encPr, fzs_ok, imp, lenOK_iff, List.take_of_length_le, evRes, getT, getO, setO, fzs, fz, fzH, Nat.beq, retV, Res.then, ldT, ldR, mkV, getV, tt_53, tt_22, tt_9, tt_88, cfg0, Nat.mul_one, get_flat_part lenE, get_flat0 lenE, getE, len_flat lenE, take_E, beq_dec, Tryd.f11,  encPr, slE]
    | some x =>
      simp (maxSteps := 2000000) -implicitDefEqProofs +contextual (disch := first | assumption | omega | decide +kernel) only [push_cast, ↓capI, br2_true, br2_false, frk_tt, frk_tf, frk_f, frkD_tt, frkD_tf, frkD_f, pk2_true, pk2_false, imp_true, seval, Nat.reduceLeDiff, Nat.reduceEqDiff, reduceCtorEq, ↓reduceIte, cfg0, Nat.mul_one, get_flat_part lenE, get_flat0 lenE, getE, len_flat lenE, take_E, beq_dec, encEO, agE, encE]
      refine endK.ret ?_ (by first | rfl | simp [bel_encE, bel_agE, belAll_append, bel_slE, bel_encEO, bel_Es, bel_encPr]); simp [bel_encE, bel_agE, belAll_append, bel_slE, bel_encEO, bel_Es, bel_encPr, fzs_ok, imp, lenOK_iff, List.take_of_length_le, evRes, getT, getO, setO, fzs, fz, fzH, Nat.beq, retV, Res.then, ldT, ldR, mkV, getV, tt_53, tt_22, tt_9, tt_88, cfg0, Nat.mul_one, get_flat_part lenE, get_flat0 lenE, getE, len_flat lenE, take_E, beq_dec, Tryd.f11,  encPr, slE]
theorem eqE {x y : Ev} : (x.k == y.k && (x.a == y.a && (x.b == y.b && (x.c == y.c)))) = decide (x = y) := by
  obtain ⟨k, a, b, c⟩ := x
  obtain ⟨k', a', b', c'⟩ := y
  simp only [Ev.mk.injEq, Bool.decide_and]
  rfl
theorem pc12 (a b : List Ev) (ha : a.length ≤ 4000000000) (hb : b.length ≤ 4000000000) : PC Tryd.prog 12 [slE a, slE b] (.bool (decide (a = b))) := by
  by_cases h1 : a.length = b.length
  case neg =>
    have h1i : ¬ (a.length : Int) = (b.length : Int) := by omega
    have hne : ¬ a = b := fun e => h1 (by rw [e])
    refine PC.walk tok mixed cfg0 Tryd.func12 rfl Tryd.call12 (by simp [bel_encE, bel_agE, belAll_append, bel_slE, bel_encEO, bel_Es, bel_encPr]) (by first | rfl | simp [bel_encE, bel_agE, belAll_append, bel_slE, bel_encEO, bel_Es, bel_encPr]) ?_; simp (maxSteps := 2000000) -implicitDefEqProofs +contextual (disch := first | assumption | omega | decide +kernel) only [push_cast, ↓capI, br2_true, br2_false, frk_tt, frk_tf, frk_f, frkD_tt, frkD_tf, frkD_f, pk2_true, pk2_false, imp_true, seval, Nat.reduceLeDiff, Nat.reduceEqDiff, reduceCtorEq, ↓reduceIte, cfg0, Nat.mul_one, get_flat_part lenE, get_flat0 lenE, getE, len_flat lenE, take_E, beq_dec, Tryd.ntmps12]
    simp (maxSteps := 2000000) -implicitDefEqProofs +contextual (disch := first | assumption | omega | decide +kernel) only [push_cast, ↓capI, br2_true, br2_false, frk_tt, frk_tf, frk_f, frkD_tt, frkD_tf, frkD_f, pk2_true, pk2_false, imp_true, seval, Nat.reduceLeDiff, Nat.reduceEqDiff, reduceCtorEq, ↓reduceIte, cfg0, Nat.mul_one, get_flat_part lenE, get_flat0 lenE, getE, len_flat lenE, take_E, beq_dec, slE]
    refine endK.ret ?_ (by first | rfl | simp [bel_encE, bel_agE, belAll_append, bel_slE, bel_encEO, bel_Es, bel_encPr]); simp [evRes, getT, retV, Tryd.f12,  hne]
  refine PC.walk tok mixed cfg0 Tryd.func12 rfl Tryd.call12 (by simp [bel_encE, bel_agE, belAll_append, bel_slE, bel_encEO, bel_Es, bel_encPr]) (by first | rfl | simp [bel_encE, bel_agE, belAll_append, bel_slE, bel_encEO, bel_Es, bel_encPr]) ?_; simp (maxSteps := 2000000) -implicitDefEqProofs +contextual (disch := first | assumption | omega | decide +kernel) only [push_cast, ↓capI, br2_true, br2_false, frk_tt, frk_tf, frk_f, frkD_tt, frkD_tf, frkD_f, pk2_true, pk2_false, imp_true, seval, Nat.reduceLeDiff, Nat.reduceEqDiff, reduceCtorEq, ↓reduceIte, cfg0, Nat.mul_one, get_flat_part lenE, get_flat0 lenE, getE, len_flat lenE, take_E, beq_dec, Tryd.ntmps12]
  simp (maxSteps := 2000000) -implicitDefEqProofs +contextual (disch := first | assumption | omega | decide +kernel) only [push_cast, ↓capI, br2_true, br2_false, frk_tt, frk_tf, frk_f, frkD_tt, frkD_tf, frkD_f, pk2_true, pk2_false, imp_true, seval, Nat.reduceLeDiff, Nat.reduceEqDiff, reduceCtorEq, ↓reduceIte, cfg0, Nat.mul_one, get_flat_part lenE, get_flat0 lenE, getE, len_flat lenE, take_E, beq_dec, slE, h1]
  refine T.lp tok mixed cfg0 (fun (j : Nat) => kp 2 (dd 3 (sv (.int .i64 j) (dd 20 (nl))))) (fun H0 (j : Nat) => H0) (fun (j : Nat) => j ≤ a.length ∧ decide (a.drop j = b.drop j) = decide (a = b)) (fun (j : Nat) => a.length - j) (0) ?_ ?_ ?_
  · exact ⟨Nat.zero_le _, rfl⟩
  · exact Gn.canon (J := _) (by first | rfl | (simp [List.append_nil]; done) | (simp [List.append_nil]; rfl)) (by simp [wk, slE, putT, kp, dd, sv, nl]) (by simp [List.length_append]) (by simp [bel_encE, bel_agE, belAll_append, bel_slE, bel_encEO, bel_Es, bel_encPr, kp, dd, sv, nl]) (by simp [bel_encE, bel_agE, belAll_append, bel_slE, bel_encEO, bel_Es, bel_encPr])
  intro j ⟨hj, hc⟩
  by_cases hlt : j < a.length
  · have hlt2 : j < b.length := by omega
    obtain ⟨c1, c2⟩ := deq_cons hlt hlt2 hc
    simp (maxSteps := 2000000) -implicitDefEqProofs +contextual (disch := first | assumption | omega | decide +kernel) only [push_cast, ↓capI, br2_true, br2_false, frk_tt, frk_tf, frk_f, frkD_tt, frkD_tf, frkD_f, pk2_true, pk2_false, imp_true, seval, Nat.reduceLeDiff, Nat.reduceEqDiff, reduceCtorEq, ↓reduceIte, cfg0, Nat.mul_one, get_flat_part lenE, get_flat0 lenE, getE, len_flat lenE, take_E, beq_dec, encE, eqE]
    refine ⟨fun he => ?_, fun he => ?_⟩
    · have := of_decide_eq_false (c1 he)
      refine endK.ret ?_ (by first | rfl | simp [bel_encE, bel_agE, belAll_append, bel_slE, bel_encEO, bel_Es, bel_encPr]); simp [evRes, getT, retV, Tryd.f12,  this]
    · refine ⟨j + 1, ⟨by omega, c2 he⟩, by (try simp only); omega, ?_⟩; exact Gn.canon (by first | rfl | (simp [List.append_nil]; rfl)) (by simp [wk, slE]) (by simp [List.length_append]) (by simp [bel_encE, bel_agE, belAll_append, bel_slE, bel_encEO, bel_Es, bel_encPr]) (by simp [bel_encE, bel_agE, belAll_append, bel_slE, bel_encEO, bel_Es, bel_encPr])
  · have hr := deq_end (by omega) (by omega) hc
    have he : a = b := of_decide_eq_true hr
    simp (maxSteps := 2000000) -implicitDefEqProofs +contextual (disch := first | assumption | omega | decide +kernel) only [push_cast, ↓capI, br2_true, br2_false, frk_tt, frk_tf, frk_f, frkD_tt, frkD_tf, frkD_f, pk2_true, pk2_false, imp_true, seval, Nat.reduceLeDiff, Nat.reduceEqDiff, reduceCtorEq, ↓reduceIte, cfg0, Nat.mul_one, get_flat_part lenE, get_flat0 lenE, getE, len_flat lenE, take_E, beq_dec]
    refine endK.ret ?_ (by first | rfl | simp [bel_encE, bel_agE, belAll_append, bel_slE, bel_encEO, bel_Es, bel_encPr]); simp [evRes, getT, retV, Tryd.f12,  he]
end Go.Proofs.YtafongdfnpnneaaDoor


/-
  Joined by a program from the texts Prt Fol Adv Lvp Ptp Mcn Bls Lg Drl.
-/
import Derived.Test.YtkjffppioddnpaaMc
import Derived.Test.YtkjffppioddnpaaMa
import Derived.Test.YtkjffppioddnpaaMb
/- Chapter 42: words of 32 bits; the reference's part. -/
set_option maxRecDepth 100000
set_option maxHeartbeats 4000000
set_option linter.all false
namespace Go.Proofs.Ytkjffppioddnpaa
open Go.Vm
abbrev W32 := BitVec 32
theorem u32_wrap (n : Int) : IntKind.u32.wrap n = ((BitVec.ofInt 32 n).toNat : Int) := by
  simp only [IntKind.wrap, BitVec.toNat_ofInt]
  simp [IntKind.signed, IntKind.bits]
  omega
theorem u32_nat {k : Nat} (h : k < 2 ^ 32) : IntKind.u32.wrap (k : Int) = k := by
  rw [u32_wrap, BitVec.ofInt_natCast, BitVec.toNat_ofNat, Nat.mod_eq_of_lt h]
theorem of32 {x : W32} : BitVec.ofInt 32 (x.toNat : Int) = x := by
  rw [BitVec.ofInt_natCast, BitVec.ofNat_toNat, BitVec.setWidth_eq]
theorem or32 {x y : W32} : ibits .or .u32 (x.toNat : Int) (y.toNat : Int) = ((x ||| y).toNat : Int) := by
  simp only [ibits]
  refine (u32_nat (BitVec.isLt (BitVec.ofInt 32 (x.toNat : Int) ||| BitVec.ofInt 32 (y.toNat : Int)))).trans ?_
  rw [of32, of32]
theorem and32 {x : W32} : ibits .and .u32 (x.toNat : Int) 1 = ((x &&& 1#32).toNat : Int) := by
  simp only [ibits]
  refine (u32_nat (BitVec.isLt (BitVec.ofInt 32 (x.toNat : Int) &&& BitVec.ofInt 32 1))).trans ?_
  rw [of32]
  rfl
theorem shl32 {k : Nat} : ishl .u32 1 (k : Int) = ((1#32 <<< k).toNat : Int) := by
  simp only [ishl, Int.toNat_natCast]
  rw [u32_wrap]
  congr 1
  have hb : IntKind.u32.bits = 32 := rfl
  rw [hb, show ((1 : Int) * 2 ^ min k 32) = ((1 * 2 ^ min k 32 : Nat) : Int) by push_cast; rfl, BitVec.ofInt_natCast, BitVec.toNat_ofNat, BitVec.toNat_shiftLeft, Nat.shiftLeft_eq]
  by_cases h : k ≤ 32
  · rw [Nat.min_eq_left h]; rfl
  · rw [Nat.min_eq_right (by omega)]
    have e : (2 : Nat) ^ k = 2 ^ 32 * 2 ^ (k - 32) := by rw [← Nat.pow_add]; congr 1; omega
    rw [e]
    simp [Nat.mul_mod_right]
theorem shr32 {x : W32} {k : Nat} : ishr .u32 (x.toNat : Int) (k : Int) = ((x >>> k).toNat : Int) := by
  simp only [ishr, Int.toNat_natCast]
  have hb : IntKind.u32.bits = 32 := rfl
  rw [hb, show ((2 : Int) ^ min k 32) = ((2 ^ min k 32 : Nat) : Int) by push_cast; rfl, BitVec.toNat_ushiftRight, Nat.shiftRight_eq_div_pow]
  rw [Int.fdiv_eq_ediv_of_nonneg _ (Int.natCast_nonneg _), ← Int.natCast_ediv]
  congr 1
  by_cases h : k ≤ 32
  · rw [Nat.min_eq_left h]
  · rw [Nat.min_eq_right (by omega)]
    have hx := x.isLt
    rw [Nat.div_eq_of_lt hx, Nat.div_eq_of_lt]
    exact Nat.lt_of_lt_of_le hx (Nat.pow_le_pow_right (by omega) (by omega))
theorem bit32 {x : W32} {i : Nat} : (((x >>> i &&& 1#32).toNat : Int) == 1) = x.getLsbD i := by
  have h : (x >>> i &&& 1#32) = if x.getLsbD i then 1#32 else 0#32 := by
    refine BitVec.eq_of_getLsbD_eq fun j hj => ?_
    rw [BitVec.getLsbD_and, BitVec.getLsbD_ushiftRight]
    by_cases h0 : j = 0
    · subst h0; cases h : x.getLsbD i <;> simp [h]
    · cases h : x.getLsbD i <;> simp [BitVec.getLsbD_one, h0]
  rw [h]
  cases x.getLsbD i <;> rfl
structure Pt where
  emp : Bool
  fst : W32
  lst : W32
  to : Nat
def encPt (x : Pt) : List V := [.bool x.emp, .int .u32 x.fst.toNat, .int .u32 x.lst.toNat, .int .i64 (x.to : Int)]
theorem bel_Pt {n : Nat} (x : Pt) : belAll n (encPt x) = true := rfl
def ptP : Nat → Pr → Pt
  | a, .leaf x => if x.op = 1 then ⟨true, 0#32, 0#32, a + 1⟩ else ⟨false, 1#32 <<< a, 1#32 <<< a, a + 1⟩
  | a, .un _ p => ⟨true, (ptP (a + 1) p).fst, (ptP (a + 1) p).lst, (ptP (a + 1) p).to⟩
  | a, .bin x p q =>
    if x.op = 5 then ⟨(ptP (a + 1) p).emp || (ptP (ptP (a + 1) p).to q).emp, (ptP (a + 1) p).fst ||| (ptP (ptP (a + 1) p).to q).fst, (ptP (a + 1) p).lst ||| (ptP (ptP (a + 1) p).to q).lst, (ptP (ptP (a + 1) p).to q).to⟩
    else ⟨(ptP (a + 1) p).emp && (ptP (ptP (a + 1) p).to q).emp, if (ptP (a + 1) p).emp = true then (ptP (a + 1) p).fst ||| (ptP (ptP (a + 1) p).to q).fst else (ptP (a + 1) p).fst,
      if (ptP (ptP (a + 1) p).to q).emp = true then (ptP (a + 1) p).lst ||| (ptP (ptP (a + 1) p).to q).lst else (ptP (ptP (a + 1) p).to q).lst, (ptP (ptP (a + 1) p).to q).to⟩
theorem ptP_to : ∀ (p : Pr) (a : Nat), (ptP a p).to = a + (flat p).length
  | .leaf x, a => by rw [ptP]; split <;> rfl
  | .un _ p, a => by rw [ptP]; simp only [ptP_to p, flat, List.length_cons]; omega
  | .bin x p q, a => by
    rw [ptP]
    split <;> simp only [ptP_to q, ptP_to p, flat, List.length_cons, List.length_append] <;> omega
theorem getN0 {l : List Nd} {i : Nat} (h : i < l.length) : getV (l.flatMap encN) (i * 2) 1 = [.int .i64 l[i].op] := by
  have := get_flat_part (enc := encN) lenN l i h 1 (by decide)
  rw [getV, List.drop_zero] at this
  rw [getV]
  exact this
theorem pc44 (sw : Int) (r : List Nd) (hr : r.length ≤ 24) : ∀ (p : Pr) (a : Nat) (s : List Nd), okP sw p → r.drop a = flat p ++ s → PC Try.prog 44 [slN r, .int .i64 (a : Int)] (.agg (encPt (ptP a p))) := by
  intro p
  induction p with
  | leaf x =>
    intro a s hp hd
    obtain ⟨ha, hx, _⟩ := drop_cons hd
    have hlen := len_flat lenN r
    have q1 := len_flat_at lenN r a 2 ha (by decide)
    rcases hp.1 with h | h | h
    · rw [ptP, if_pos h]
      refine PC.walk tok mixed cfg0 Try.func44 rfl Try.call44 (by simp [belN, bel_Ns, bel_slN, bel_Pt]) (by first | rfl | simp [belN, bel_Ns, bel_slN, bel_Pt]) ?_; simp (maxSteps := 2000000) -implicitDefEqProofs +contextual (disch := first | assumption | omega | decide +kernel) only [push_cast, ↓capI, br2_true, br2_false, frk_tt, frk_tf, frk_f, frkD_tt, frkD_tf, frkD_f, pk2_true, pk2_false, imp_true, seval, Nat.reduceLeDiff, Nat.reduceEqDiff, reduceCtorEq, ↓reduceIte, fmN, fm0, take_N, toN1, slN_nil, encN, slN, cfg0, get_flat_part lenN, get_flat_drop lenN, len_flat lenN, getN0, w_nat, shl32, shr32, or32, and32, encPt, Try.ntmps44]
      simp (maxSteps := 2000000) -implicitDefEqProofs +contextual (disch := first | assumption | omega | decide +kernel) only [push_cast, ↓capI, br2_true, br2_false, frk_tt, frk_tf, frk_f, frkD_tt, frkD_tf, frkD_f, pk2_true, pk2_false, imp_true, seval, Nat.reduceLeDiff, Nat.reduceEqDiff, reduceCtorEq, ↓reduceIte, fmN, fm0, take_N, toN1, slN_nil, encN, slN, cfg0, get_flat_part lenN, get_flat_drop lenN, len_flat lenN, getN0, w_nat, shl32, shr32, or32, and32, encPt, ha, hx, h]
      refine endK.ret ?_ (by first | rfl | simp [belN, bel_Ns, bel_slN, bel_Pt]); simp [evRes, getT, retV, Try.f44,  encPt, tt_108, Res.then, ldT, ldR, getO, mkV, getV, imp, lenOK_iff]
    · rw [ptP, if_neg (by omega)]
      refine PC.walk tok mixed cfg0 Try.func44 rfl Try.call44 (by simp [belN, bel_Ns, bel_slN, bel_Pt]) (by first | rfl | simp [belN, bel_Ns, bel_slN, bel_Pt]) ?_; simp (maxSteps := 2000000) -implicitDefEqProofs +contextual (disch := first | assumption | omega | decide +kernel) only [push_cast, ↓capI, br2_true, br2_false, frk_tt, frk_tf, frk_f, frkD_tt, frkD_tf, frkD_f, pk2_true, pk2_false, imp_true, seval, Nat.reduceLeDiff, Nat.reduceEqDiff, reduceCtorEq, ↓reduceIte, fmN, fm0, take_N, toN1, slN_nil, encN, slN, cfg0, get_flat_part lenN, get_flat_drop lenN, len_flat lenN, getN0, w_nat, shl32, shr32, or32, and32, encPt, Try.ntmps44]
      simp (maxSteps := 2000000) -implicitDefEqProofs +contextual (disch := first | assumption | omega | decide +kernel) only [push_cast, ↓capI, br2_true, br2_false, frk_tt, frk_tf, frk_f, frkD_tt, frkD_tf, frkD_f, pk2_true, pk2_false, imp_true, seval, Nat.reduceLeDiff, Nat.reduceEqDiff, reduceCtorEq, ↓reduceIte, fmN, fm0, take_N, toN1, slN_nil, encN, slN, cfg0, get_flat_part lenN, get_flat_drop lenN, len_flat lenN, getN0, w_nat, shl32, shr32, or32, and32, encPt, ha, hx, h]
      refine endK.ret ?_ (by first | rfl | simp [belN, bel_Ns, bel_slN, bel_Pt]); simp [evRes, getT, retV, Try.f44,  encPt, tt_108, Res.then, ldT, ldR, getO, mkV, getV, imp, lenOK_iff]
    · rw [ptP, if_neg (by omega)]
      refine PC.walk tok mixed cfg0 Try.func44 rfl Try.call44 (by simp [belN, bel_Ns, bel_slN, bel_Pt]) (by first | rfl | simp [belN, bel_Ns, bel_slN, bel_Pt]) ?_; simp (maxSteps := 2000000) -implicitDefEqProofs +contextual (disch := first | assumption | omega | decide +kernel) only [push_cast, ↓capI, br2_true, br2_false, frk_tt, frk_tf, frk_f, frkD_tt, frkD_tf, frkD_f, pk2_true, pk2_false, imp_true, seval, Nat.reduceLeDiff, Nat.reduceEqDiff, reduceCtorEq, ↓reduceIte, fmN, fm0, take_N, toN1, slN_nil, encN, slN, cfg0, get_flat_part lenN, get_flat_drop lenN, len_flat lenN, getN0, w_nat, shl32, shr32, or32, and32, encPt, Try.ntmps44]
      simp (maxSteps := 2000000) -implicitDefEqProofs +contextual (disch := first | assumption | omega | decide +kernel) only [push_cast, ↓capI, br2_true, br2_false, frk_tt, frk_tf, frk_f, frkD_tt, frkD_tf, frkD_f, pk2_true, pk2_false, imp_true, seval, Nat.reduceLeDiff, Nat.reduceEqDiff, reduceCtorEq, ↓reduceIte, fmN, fm0, take_N, toN1, slN_nil, encN, slN, cfg0, get_flat_part lenN, get_flat_drop lenN, len_flat lenN, getN0, w_nat, shl32, shr32, or32, and32, encPt, ha, hx, h]
      refine endK.ret ?_ (by first | rfl | simp [belN, bel_Ns, bel_slN, bel_Pt]); simp [evRes, getT, retV, Try.f44,  encPt, tt_108, Res.then, ldT, ldR, getO, mkV, getV, imp, lenOK_iff]
  | un x p ih =>
    intro a s hp hd
    obtain ⟨ha, hx, hd2⟩ := drop_cons (show r.drop a = x :: (flat p ++ s) from hd)
    have hlen := len_flat lenN r
    have q1 := len_flat_at lenN r a 2 ha (by decide)
    have i1 := ih (a + 1) s hp.2 hd2
    have h := hp.1
    rw [ptP]
    generalize ptP (a + 1) p = u at i1 ⊢
    obtain ⟨e1, f1, l1, t1⟩ := u
    refine PC.walk tok mixed cfg0 Try.func44 rfl Try.call44 (by simp [belN, bel_Ns, bel_slN, bel_Pt]) (by first | rfl | simp [belN, bel_Ns, bel_slN, bel_Pt]) ?_; simp (maxSteps := 2000000) -implicitDefEqProofs +contextual (disch := first | assumption | omega | decide +kernel) only [push_cast, ↓capI, br2_true, br2_false, frk_tt, frk_tf, frk_f, frkD_tt, frkD_tf, frkD_f, pk2_true, pk2_false, imp_true, seval, Nat.reduceLeDiff, Nat.reduceEqDiff, reduceCtorEq, ↓reduceIte, fmN, fm0, take_N, toN1, slN_nil, encN, slN, cfg0, get_flat_part lenN, get_flat_drop lenN, len_flat lenN, getN0, w_nat, shl32, shr32, or32, and32, encPt, Try.ntmps44]
    simp (maxSteps := 2000000) -implicitDefEqProofs +contextual (disch := first | assumption | omega | decide +kernel) only [push_cast, ↓capI, br2_true, br2_false, frk_tt, frk_tf, frk_f, frkD_tt, frkD_tf, frkD_f, pk2_true, pk2_false, imp_true, seval, Nat.reduceLeDiff, Nat.reduceEqDiff, reduceCtorEq, ↓reduceIte, fmN, fm0, take_N, toN1, slN_nil, encN, slN, cfg0, get_flat_part lenN, get_flat_drop lenN, len_flat lenN, getN0, w_nat, shl32, shr32, or32, and32, encPt, ha, hx, h]
    refine callO.pc i1 ?_
    simp (maxSteps := 2000000) -implicitDefEqProofs +contextual (disch := first | assumption | omega | decide +kernel) only [push_cast, ↓capI, br2_true, br2_false, frk_tt, frk_tf, frk_f, frkD_tt, frkD_tf, frkD_f, pk2_true, pk2_false, imp_true, seval, Nat.reduceLeDiff, Nat.reduceEqDiff, reduceCtorEq, ↓reduceIte, fmN, fm0, take_N, toN1, slN_nil, encN, slN, cfg0, get_flat_part lenN, get_flat_drop lenN, len_flat lenN, getN0, w_nat, shl32, shr32, or32, and32, encPt, ha, hx, h]
    refine endK.ret ?_ (by first | rfl | simp [belN, bel_Ns, bel_slN, bel_Pt]); simp [evRes, getT, retV, Try.f44,  encPt, tt_108, Res.then, ldT, ldR, getO, mkV, getV, imp, lenOK_iff]
  | bin x p q ih1 ih2 =>
    intro a s hp hd
    obtain ⟨ha, hx, hd2⟩ := drop_cons (show r.drop a = x :: (flat p ++ flat q ++ s) from hd)
    have hlen := len_flat lenN r
    have q1 := len_flat_at lenN r a 2 ha (by decide)
    rw [List.append_assoc] at hd2
    have i1 := ih1 (a + 1) (flat q ++ s) hp.2.1 hd2
    have hd3 := drop_app hd2
    have hto := ptP_to p (a + 1)
    rw [← hto] at hd3
    have i2 := ih2 _ s hp.2.2 hd3
    have ht2 := drop_len (by have := ptP_to p (a + 1); have := drop_len ha hd2; omega) hd3
    rw [ptP]
    generalize ptP (a + 1) p = u at i1 i2 hto ht2 ⊢
    obtain ⟨e1, f1, l1, t1⟩ := u
    simp only at i1 i2 hto ht2 ⊢
    generalize ptP t1 q = v at i2 ⊢
    obtain ⟨e2, f2, l2, t2⟩ := v
    simp only at i2 ⊢
    rcases hp.1 with h | h
    · rw [if_neg (by omega)]
      cases e1 <;> cases e2
      all_goals
        refine PC.walk tok mixed cfg0 Try.func44 rfl Try.call44 (by simp [belN, bel_Ns, bel_slN, bel_Pt]) (by first | rfl | simp [belN, bel_Ns, bel_slN, bel_Pt]) ?_; simp (maxSteps := 2000000) -implicitDefEqProofs +contextual (disch := first | assumption | omega | decide +kernel) only [push_cast, ↓capI, br2_true, br2_false, frk_tt, frk_tf, frk_f, frkD_tt, frkD_tf, frkD_f, pk2_true, pk2_false, imp_true, seval, Nat.reduceLeDiff, Nat.reduceEqDiff, reduceCtorEq, ↓reduceIte, fmN, fm0, take_N, toN1, slN_nil, encN, slN, cfg0, get_flat_part lenN, get_flat_drop lenN, len_flat lenN, getN0, w_nat, shl32, shr32, or32, and32, encPt, Try.ntmps44]
        simp (maxSteps := 2000000) -implicitDefEqProofs +contextual (disch := first | assumption | omega | decide +kernel) only [push_cast, ↓capI, br2_true, br2_false, frk_tt, frk_tf, frk_f, frkD_tt, frkD_tf, frkD_f, pk2_true, pk2_false, imp_true, seval, Nat.reduceLeDiff, Nat.reduceEqDiff, reduceCtorEq, ↓reduceIte, fmN, fm0, take_N, toN1, slN_nil, encN, slN, cfg0, get_flat_part lenN, get_flat_drop lenN, len_flat lenN, getN0, w_nat, shl32, shr32, or32, and32, encPt, ha, hx, h]
        refine callO.pc i1 ?_
        simp (maxSteps := 2000000) -implicitDefEqProofs +contextual (disch := first | assumption | omega | decide +kernel) only [push_cast, ↓capI, br2_true, br2_false, frk_tt, frk_tf, frk_f, frkD_tt, frkD_tf, frkD_f, pk2_true, pk2_false, imp_true, seval, Nat.reduceLeDiff, Nat.reduceEqDiff, reduceCtorEq, ↓reduceIte, fmN, fm0, take_N, toN1, slN_nil, encN, slN, cfg0, get_flat_part lenN, get_flat_drop lenN, len_flat lenN, getN0, w_nat, shl32, shr32, or32, and32, encPt, ha, hx, h]
        refine callO.pc i2 ?_
        simp (maxSteps := 2000000) -implicitDefEqProofs +contextual (disch := first | assumption | omega | decide +kernel) only [push_cast, ↓capI, br2_true, br2_false, frk_tt, frk_tf, frk_f, frkD_tt, frkD_tf, frkD_f, pk2_true, pk2_false, imp_true, seval, Nat.reduceLeDiff, Nat.reduceEqDiff, reduceCtorEq, ↓reduceIte, fmN, fm0, take_N, toN1, slN_nil, encN, slN, cfg0, get_flat_part lenN, get_flat_drop lenN, len_flat lenN, getN0, w_nat, shl32, shr32, or32, and32, encPt, ha, hx, h]
        refine endK.ret ?_ (by first | rfl | simp [belN, bel_Ns, bel_slN, bel_Pt]); simp [evRes, getT, retV, Try.f44,  encPt, tt_108, Res.then, ldT, ldR, getO, mkV, getV, imp, lenOK_iff]
    · rw [if_pos h]
      cases e1 <;> cases e2
      all_goals
        refine PC.walk tok mixed cfg0 Try.func44 rfl Try.call44 (by simp [belN, bel_Ns, bel_slN, bel_Pt]) (by first | rfl | simp [belN, bel_Ns, bel_slN, bel_Pt]) ?_; simp (maxSteps := 2000000) -implicitDefEqProofs +contextual (disch := first | assumption | omega | decide +kernel) only [push_cast, ↓capI, br2_true, br2_false, frk_tt, frk_tf, frk_f, frkD_tt, frkD_tf, frkD_f, pk2_true, pk2_false, imp_true, seval, Nat.reduceLeDiff, Nat.reduceEqDiff, reduceCtorEq, ↓reduceIte, fmN, fm0, take_N, toN1, slN_nil, encN, slN, cfg0, get_flat_part lenN, get_flat_drop lenN, len_flat lenN, getN0, w_nat, shl32, shr32, or32, and32, encPt, Try.ntmps44]
        simp (maxSteps := 2000000) -implicitDefEqProofs +contextual (disch := first | assumption | omega | decide +kernel) only [push_cast, ↓capI, br2_true, br2_false, frk_tt, frk_tf, frk_f, frkD_tt, frkD_tf, frkD_f, pk2_true, pk2_false, imp_true, seval, Nat.reduceLeDiff, Nat.reduceEqDiff, reduceCtorEq, ↓reduceIte, fmN, fm0, take_N, toN1, slN_nil, encN, slN, cfg0, get_flat_part lenN, get_flat_drop lenN, len_flat lenN, getN0, w_nat, shl32, shr32, or32, and32, encPt, ha, hx, h]
        refine callO.pc i1 ?_
        simp (maxSteps := 2000000) -implicitDefEqProofs +contextual (disch := first | assumption | omega | decide +kernel) only [push_cast, ↓capI, br2_true, br2_false, frk_tt, frk_tf, frk_f, frkD_tt, frkD_tf, frkD_f, pk2_true, pk2_false, imp_true, seval, Nat.reduceLeDiff, Nat.reduceEqDiff, reduceCtorEq, ↓reduceIte, fmN, fm0, take_N, toN1, slN_nil, encN, slN, cfg0, get_flat_part lenN, get_flat_drop lenN, len_flat lenN, getN0, w_nat, shl32, shr32, or32, and32, encPt, ha, hx, h]
        refine callO.pc i2 ?_
        simp (maxSteps := 2000000) -implicitDefEqProofs +contextual (disch := first | assumption | omega | decide +kernel) only [push_cast, ↓capI, br2_true, br2_false, frk_tt, frk_tf, frk_f, frkD_tt, frkD_tf, frkD_f, pk2_true, pk2_false, imp_true, seval, Nat.reduceLeDiff, Nat.reduceEqDiff, reduceCtorEq, ↓reduceIte, fmN, fm0, take_N, toN1, slN_nil, encN, slN, cfg0, get_flat_part lenN, get_flat_drop lenN, len_flat lenN, getN0, w_nat, shl32, shr32, or32, and32, encPt, ha, hx, h]
        refine endK.ret ?_ (by first | rfl | simp [belN, bel_Ns, bel_slN, bel_Pt]); simp [evRes, getT, retV, Try.f44,  encPt, tt_108, Res.then, ldT, ldR, getO, mkV, getV, imp, lenOK_iff]
end Go.Proofs.Ytkjffppioddnpaa

/- Chapter 42: the reference's follow, advance and find. -/
set_option maxRecDepth 100000
set_option maxHeartbeats 4000000
set_option linter.all false
namespace Go.Proofs.Ytkjffppioddnpaa
open Go.Vm
def orL (l : List W32) : W32 := l.foldl (· ||| ·) 0#32
def ownF (a : Nat) (p : Pr) (leaf : Nat) : W32 :=
  match p with
  | .leaf _ => 0#32
  | .un _ p => if (ptP (a + 1) p).lst.getLsbD leaf = true then (ptP (a + 1) p).fst else 0#32
  | .bin x p q => if x.op = 4 then (if (ptP (a + 1) p).lst.getLsbD leaf = true then (ptP (ptP (a + 1) p).to q).fst else 0#32) else 0#32
def conL : Nat → Pr → Nat → List W32
  | a, .leaf x, l => [ownF a (.leaf x) l]
  | a, .un x p, l => ownF a (.un x p) l :: conL (a + 1) p l
  | a, .bin x p q, l => ownF a (.bin x p q) l :: (conL (a + 1) p l ++ conL (ptP (a + 1) p).to q l)
theorem conL_len : ∀ (p : Pr) (a l : Nat), (conL a p l).length = (flat p).length
  | .leaf _, _, _ => rfl
  | .un _ p, a, l => by rw [conL, flat, List.length_cons, List.length_cons, conL_len p]
  | .bin _ p q, a, l => by rw [conL, flat, List.length_cons, List.length_cons, List.length_append, List.length_append, conL_len p, conL_len q]
theorem con_at (sw : Int) (l : Nat) : ∀ (p : Pr) (a i : Nat), okP sw p → i < (flat p).length → ∃ (p' : Pr) (s : List Nd), okP sw p' ∧ (flat p).drop i = flat p' ++ s ∧ (conL a p l)[i]? = some (ownF (a + i) p' l)
  | .leaf x, a, i, hp, hi => by
    have : i = 0 := by simp [flat] at hi; omega
    subst this
    exact ⟨.leaf x, [], hp, rfl, rfl⟩
  | .un x p, a, i, hp, hi => by
    cases i with
    | zero => exact ⟨.un x p, [], hp, by simp, rfl⟩
    | succ i =>
      obtain ⟨p', s, h1, h2, h3⟩ := con_at sw l p (a + 1) i hp.2 (by simpa [flat] using hi)
      exact ⟨p', s, h1, h2, by rw [conL, List.getElem?_cons_succ, h3, show a + 1 + i = a + (i + 1) from by omega]⟩
  | .bin x p q, a, i, hp, hi => by
    cases i with
    | zero => exact ⟨.bin x p q, [], hp, by simp, rfl⟩
    | succ i =>
      simp only [flat, List.length_cons, List.length_append] at hi
      by_cases hip : i < (flat p).length
      · obtain ⟨p', s, h1, h2, h3⟩ := con_at sw l p (a + 1) i hp.2.1 hip
        refine ⟨p', s ++ flat q, h1, ?_, ?_⟩
        · rw [flat, List.drop_succ_cons, List.drop_append_of_le_length (by omega), h2, List.append_assoc]
        · rw [conL, List.getElem?_cons_succ, List.getElem?_append_left (by rw [conL_len]; exact hip), h3, show a + 1 + i = a + (i + 1) from by omega]
      · obtain ⟨p', s, h1, h2, h3⟩ := con_at sw l q (ptP (a + 1) p).to (i - (flat p).length) hp.2.2 (by omega)
        refine ⟨p', s, h1, ?_, ?_⟩
        · rw [flat, List.drop_succ_cons, List.drop_append, List.drop_of_length_le (by omega), List.nil_append]
          exact h2
        · rw [conL, List.getElem?_cons_succ, List.getElem?_append_right (by rw [conL_len]; omega), conL_len, h3, ptP_to, show a + 1 + (flat p).length + (i - (flat p).length) = a + (i + 1) from by omega]
theorem orL_app {l : List W32} {x : W32} : orL (l ++ [x]) = orL l ||| x := by
  simp [orL]
theorem orL1 : ((orL []).toNat : Int) = 0 := rfl
theorem orL_take {l : List W32} {i : Nat} {x : W32} (h : l[i]? = some x) : orL (l.take (i + 1)) = orL (l.take i) ||| x := by
  obtain ⟨hi, e⟩ := List.getElem?_eq_some_iff.1 h
  rw [List.take_succ_eq_append_getElem hi, e, orL_app]
theorem pc45 {sw : Int} {p : Pr} (hp : okP sw p) (h24 : (flat p).length ≤ 24) {leaf : Nat} (hl : leaf ≤ 24) : PC Try.prog 45 [slN (flat p), .int .i64 (leaf : Int)] (.int .u32 (orL (conL 0 p leaf)).toNat) := by
  have h44 := fun p' a s => pc44 sw (flat p) h24 p' a s
  have hat := con_at sw leaf p 0
  have hcl := conL_len p 0 leaf
  have h0 : (0 : Int) = ((0#32).toNat : Int) := rfl
  generalize hr : flat p = r at h44 hat hcl h24
  have hlen := len_flat lenN r
  generalize conL 0 p leaf = C at hat hcl
  refine PC.walk tok mixed cfg0 Try.func45 rfl Try.call45 (by simp [belN, bel_Ns, bel_slN, bel_Pt]) (by first | rfl | simp [belN, bel_Ns, bel_slN, bel_Pt]) ?_; simp (maxSteps := 2000000) -implicitDefEqProofs +contextual (disch := first | assumption | omega | decide +kernel) only [push_cast, ↓capI, br2_true, br2_false, frk_tt, frk_tf, frk_f, frkD_tt, frkD_tf, frkD_f, pk2_true, pk2_false, imp_true, seval, Nat.reduceLeDiff, Nat.reduceEqDiff, reduceCtorEq, ↓reduceIte, fmN, fm0, take_N, toN1, slN_nil, encN, slN, cfg0, get_flat_part lenN, get_flat_drop lenN, len_flat lenN, getN0, w_nat, shl32, shr32, or32, and32, encPt, bit32, Try.ntmps45]
  refine T.lp tok mixed cfg0 (fun ((i : Nat)) => kp 2 (dd 3 (sv (.int .u32 (orL (C.take i)).toNat) (sv (.int .i64 (i : Int)) (dd 50 (nl)))))) (fun H0 ((i : Nat)) => H0) (fun ((i : Nat)) => i ≤ r.length) (fun ((i : Nat)) => r.length - i) (0) ?_ ?_ ?_
  · exact Nat.zero_le _
  · exact Gn.canon (J := _) (by first | rfl | (simp [List.append_nil, encPt]; done) | (simp [List.append_nil, encPt]; rfl)) (by simp [wk, slN, encPt, orL1, putT, kp, dd, sv, nl]) (by simp [List.length_append]) (by simp [belN, bel_Ns, bel_slN, bel_Pt, kp, dd, sv, nl]) (by simp [belN, bel_Ns, bel_slN, bel_Pt])
  · intro i hi
    have hi0 : i ≤ r.length := hi
    by_cases hlt : i < r.length
    · obtain ⟨p', s, hp', hd, hc⟩ := hat i hp hlt
      have hor := orL_take hc
      rw [Nat.zero_add] at hor
      have q1 := len_flat_at lenN r i 2 hlt (by decide)
      cases p' with
      | leaf x =>
        obtain ⟨_, hx, _⟩ := drop_cons hd
        have h4 : ¬ x.op = 4 := by have := hp'.1; omega
        have h6 : ¬ x.op = 6 := by have := hp'.1; omega
        rw [ownF, BitVec.or_zero] at hor
        simp (maxSteps := 2000000) -implicitDefEqProofs +contextual (disch := first | assumption | omega | decide +kernel) only [push_cast, ↓capI, br2_true, br2_false, frk_tt, frk_tf, frk_f, frkD_tt, frkD_tf, frkD_f, pk2_true, pk2_false, imp_true, seval, Nat.reduceLeDiff, Nat.reduceEqDiff, reduceCtorEq, ↓reduceIte, fmN, fm0, take_N, toN1, slN_nil, encN, slN, cfg0, get_flat_part lenN, get_flat_drop lenN, len_flat lenN, getN0, w_nat, shl32, shr32, or32, and32, encPt, bit32, hlt, hx, h4, h6]
        refine ⟨(i + 1), by omega, by (try simp only); omega, ?_⟩; exact Gn.canon (by first | rfl | (simp [List.append_nil, encPt, hor]; rfl)) (by simp [wk, slN, encPt, orL1, hor]) (by simp [List.length_append]) (by simp [belN, bel_Ns, bel_slN, bel_Pt]) (by simp [belN, bel_Ns, bel_slN, bel_Pt])
      | un x p1 =>
        obtain ⟨_, hx, hd2⟩ := drop_cons (show r.drop i = x :: (flat p1 ++ s) from hd)
        have h6 := hp'.1
        have i1 := h44 p1 (i + 1) s hp'.2 hd2
        rw [ownF] at hor
        generalize ptP (i + 1) p1 = u at i1 hor
        obtain ⟨e1, f1, l1, t1⟩ := u
        simp only at hor
        simp (maxSteps := 2000000) -implicitDefEqProofs +contextual (disch := first | assumption | omega | decide +kernel) only [push_cast, ↓capI, br2_true, br2_false, frk_tt, frk_tf, frk_f, frkD_tt, frkD_tf, frkD_f, pk2_true, pk2_false, imp_true, seval, Nat.reduceLeDiff, Nat.reduceEqDiff, reduceCtorEq, ↓reduceIte, fmN, fm0, take_N, toN1, slN_nil, encN, slN, cfg0, get_flat_part lenN, get_flat_drop lenN, len_flat lenN, getN0, w_nat, shl32, shr32, or32, and32, encPt, bit32, hlt, hx, h6]
        refine callO.pc i1 ?_
        cases hb : l1.getLsbD leaf with
        | true =>
          rw [hb, if_pos rfl] at hor
          simp (maxSteps := 2000000) -implicitDefEqProofs +contextual (disch := first | assumption | omega | decide +kernel) only [push_cast, ↓capI, br2_true, br2_false, frk_tt, frk_tf, frk_f, frkD_tt, frkD_tf, frkD_f, pk2_true, pk2_false, imp_true, seval, Nat.reduceLeDiff, Nat.reduceEqDiff, reduceCtorEq, ↓reduceIte, fmN, fm0, take_N, toN1, slN_nil, encN, slN, cfg0, get_flat_part lenN, get_flat_drop lenN, len_flat lenN, getN0, w_nat, shl32, shr32, or32, and32, encPt, bit32, hlt, hx, h6, hb]
          refine ⟨(i + 1), by omega, by (try simp only); omega, ?_⟩; exact Gn.canon (by first | rfl | (simp [List.append_nil, encPt, hor]; rfl)) (by simp [wk, slN, encPt, orL1, hor]) (by simp [List.length_append]) (by simp [belN, bel_Ns, bel_slN, bel_Pt]) (by simp [belN, bel_Ns, bel_slN, bel_Pt])
        | false =>
          rw [hb, if_neg (by decide), BitVec.or_zero] at hor
          simp (maxSteps := 2000000) -implicitDefEqProofs +contextual (disch := first | assumption | omega | decide +kernel) only [push_cast, ↓capI, br2_true, br2_false, frk_tt, frk_tf, frk_f, frkD_tt, frkD_tf, frkD_f, pk2_true, pk2_false, imp_true, seval, Nat.reduceLeDiff, Nat.reduceEqDiff, reduceCtorEq, ↓reduceIte, fmN, fm0, take_N, toN1, slN_nil, encN, slN, cfg0, get_flat_part lenN, get_flat_drop lenN, len_flat lenN, getN0, w_nat, shl32, shr32, or32, and32, encPt, bit32, hlt, hx, h6, hb]
          refine ⟨(i + 1), by omega, by (try simp only); omega, ?_⟩; exact Gn.canon (by first | rfl | (simp [List.append_nil, encPt, hor]; rfl)) (by simp [wk, slN, encPt, orL1, hor]) (by simp [List.length_append]) (by simp [belN, bel_Ns, bel_slN, bel_Pt]) (by simp [belN, bel_Ns, bel_slN, bel_Pt])
      | bin x p1 p2 =>
        obtain ⟨ha, hx, hd2⟩ := drop_cons (show r.drop i = x :: (flat p1 ++ flat p2 ++ s) from hd)
        rw [ownF] at hor
        rcases hp'.1 with h | h
        · rw [List.append_assoc] at hd2
          have i1 := h44 p1 (i + 1) (flat p2 ++ s) hp'.2.1 hd2
          have hd3 := drop_app hd2
          have hto := ptP_to p1 (i + 1)
          rw [← hto] at hd3
          have i2 := h44 p2 _ s hp'.2.2 hd3
          rw [if_pos h] at hor
          generalize ptP (i + 1) p1 = u at i1 i2 hor
          obtain ⟨e1, f1, l1, t1⟩ := u
          simp only at i2 hor
          generalize ptP t1 p2 = v at i2 hor
          obtain ⟨e2, f2, l2, t2⟩ := v
          simp only at hor
          simp (maxSteps := 2000000) -implicitDefEqProofs +contextual (disch := first | assumption | omega | decide +kernel) only [push_cast, ↓capI, br2_true, br2_false, frk_tt, frk_tf, frk_f, frkD_tt, frkD_tf, frkD_f, pk2_true, pk2_false, imp_true, seval, Nat.reduceLeDiff, Nat.reduceEqDiff, reduceCtorEq, ↓reduceIte, fmN, fm0, take_N, toN1, slN_nil, encN, slN, cfg0, get_flat_part lenN, get_flat_drop lenN, len_flat lenN, getN0, w_nat, shl32, shr32, or32, and32, encPt, bit32, hlt, hx, h]
          refine callO.pc i1 ?_
          simp (maxSteps := 2000000) -implicitDefEqProofs +contextual (disch := first | assumption | omega | decide +kernel) only [push_cast, ↓capI, br2_true, br2_false, frk_tt, frk_tf, frk_f, frkD_tt, frkD_tf, frkD_f, pk2_true, pk2_false, imp_true, seval, Nat.reduceLeDiff, Nat.reduceEqDiff, reduceCtorEq, ↓reduceIte, fmN, fm0, take_N, toN1, slN_nil, encN, slN, cfg0, get_flat_part lenN, get_flat_drop lenN, len_flat lenN, getN0, w_nat, shl32, shr32, or32, and32, encPt, bit32, hlt, hx, h]
          refine callO.pc i2 ?_
          cases hb : l1.getLsbD leaf with
          | true =>
            rw [hb, if_pos rfl] at hor
            simp (maxSteps := 2000000) -implicitDefEqProofs +contextual (disch := first | assumption | omega | decide +kernel) only [push_cast, ↓capI, br2_true, br2_false, frk_tt, frk_tf, frk_f, frkD_tt, frkD_tf, frkD_f, pk2_true, pk2_false, imp_true, seval, Nat.reduceLeDiff, Nat.reduceEqDiff, reduceCtorEq, ↓reduceIte, fmN, fm0, take_N, toN1, slN_nil, encN, slN, cfg0, get_flat_part lenN, get_flat_drop lenN, len_flat lenN, getN0, w_nat, shl32, shr32, or32, and32, encPt, bit32, hlt, hx, h, hb]
            refine ⟨(i + 1), by omega, by (try simp only); omega, ?_⟩; exact Gn.canon (by first | rfl | (simp [List.append_nil, encPt, hor]; rfl)) (by simp [wk, slN, encPt, orL1, hor]) (by simp [List.length_append]) (by simp [belN, bel_Ns, bel_slN, bel_Pt]) (by simp [belN, bel_Ns, bel_slN, bel_Pt])
          | false =>
            rw [hb, if_neg (by decide), BitVec.or_zero] at hor
            simp (maxSteps := 2000000) -implicitDefEqProofs +contextual (disch := first | assumption | omega | decide +kernel) only [push_cast, ↓capI, br2_true, br2_false, frk_tt, frk_tf, frk_f, frkD_tt, frkD_tf, frkD_f, pk2_true, pk2_false, imp_true, seval, Nat.reduceLeDiff, Nat.reduceEqDiff, reduceCtorEq, ↓reduceIte, fmN, fm0, take_N, toN1, slN_nil, encN, slN, cfg0, get_flat_part lenN, get_flat_drop lenN, len_flat lenN, getN0, w_nat, shl32, shr32, or32, and32, encPt, bit32, hlt, hx, h, hb]
            refine ⟨(i + 1), by omega, by (try simp only); omega, ?_⟩; exact Gn.canon (by first | rfl | (simp [List.append_nil, encPt, hor]; rfl)) (by simp [wk, slN, encPt, orL1, hor]) (by simp [List.length_append]) (by simp [belN, bel_Ns, bel_slN, bel_Pt]) (by simp [belN, bel_Ns, bel_slN, bel_Pt])
        · have h4 : ¬ x.op = 4 := by omega
          have h6 : ¬ x.op = 6 := by omega
          rw [if_neg h4, BitVec.or_zero] at hor
          simp (maxSteps := 2000000) -implicitDefEqProofs +contextual (disch := first | assumption | omega | decide +kernel) only [push_cast, ↓capI, br2_true, br2_false, frk_tt, frk_tf, frk_f, frkD_tt, frkD_tf, frkD_f, pk2_true, pk2_false, imp_true, seval, Nat.reduceLeDiff, Nat.reduceEqDiff, reduceCtorEq, ↓reduceIte, fmN, fm0, take_N, toN1, slN_nil, encN, slN, cfg0, get_flat_part lenN, get_flat_drop lenN, len_flat lenN, getN0, w_nat, shl32, shr32, or32, and32, encPt, bit32, hlt, hx, h4, h6]
          refine ⟨(i + 1), by omega, by (try simp only); omega, ?_⟩; exact Gn.canon (by first | rfl | (simp [List.append_nil, encPt, hor]; rfl)) (by simp [wk, slN, encPt, orL1, hor]) (by simp [List.length_append]) (by simp [belN, bel_Ns, bel_slN, bel_Pt]) (by simp [belN, bel_Ns, bel_slN, bel_Pt])
    · have : C.take i = C := List.take_of_length_le (by omega)
      simp (maxSteps := 2000000) -implicitDefEqProofs +contextual (disch := first | assumption | omega | decide +kernel) only [push_cast, ↓capI, br2_true, br2_false, frk_tt, frk_tf, frk_f, frkD_tt, frkD_tf, frkD_f, pk2_true, pk2_false, imp_true, seval, Nat.reduceLeDiff, Nat.reduceEqDiff, reduceCtorEq, ↓reduceIte, fmN, fm0, take_N, toN1, slN_nil, encN, slN, cfg0, get_flat_part lenN, get_flat_drop lenN, len_flat lenN, getN0, w_nat, shl32, shr32, or32, and32, encPt, bit32, hlt, this]
      refine endK.ret ?_ (by first | rfl | simp [belN, bel_Ns, bel_slN, bel_Pt]); simp [evRes, getT, retV, Try.f45]
end Go.Proofs.Ytkjffppioddnpaa

/- Chapter 42: the reference's advance and find. -/
set_option maxRecDepth 100000
set_option maxHeartbeats 4000000
set_option linter.all false
namespace Go.Proofs.Ytkjffppioddnpaa
open Go.Vm
structure Gs where
  nx : W32
  ac : Bool
  deriving DecidableEq
def encGs (x : Gs) : List V := [.int .u32 x.nx.toNat, .bool x.ac]
theorem bel_Gs {n : Nat} (x : Gs) : belAll n (encGs x) = true := rfl
theorem len_Gs (x : Gs) : (encGs x).length = 2 := rfl
def slW (l : List W32) : V := .sl false (l.map fun x => .int .u32 x.toNat) l.length
theorem bel_Ws {n : Nat} (l : List W32) : belAll n (l.map fun x => V.int .u32 x.toNat) = true := belAll_map (fun _ => rfl) l
theorem bel_slW {n : Nat} (l : List W32) : (slW l).bel n = true := by rw [slW, bel_sl]; exact bel_Ws l
def slG (l : List Gs) : V := .sl false (l.flatMap encGs) l.length
theorem bel_Gss {n : Nat} (l : List Gs) : belAll n (l.flatMap encGs) = true := belAll_flat bel_Gs l
theorem bel_slG {n : Nat} (l : List Gs) : (slG l).bel n = true := by rw [slG, bel_sl]; exact bel_Gss l
def mtc (x : Nd) (sw : Int) : Bool := decide (x.op = 2) || decide (x.n = sw)
def advI (r : List Nd) (fl : List W32) (last : W32) (s : Gs) (sw : Int) (i : Nat) (o : Gs × Bool) : Gs × Bool :=
  if (s.nx.getLsbD i && mtc (r.getD i ⟨0, 0⟩) sw) = true then (⟨o.1.nx ||| fl.getD i 0#32, o.1.ac || last.getLsbD i⟩, true) else o
def advN (r : List Nd) (fl : List W32) (last : W32) (s : Gs) (sw : Int) : Nat → Gs × Bool
  | 0 => (⟨0#32, false⟩, false)
  | n + 1 => advI r fl last s sw n (advN r fl last s sw n)
def advS (r : List Nd) (fl : List W32) (last : W32) (s : Gs) (sw : Int) : Gs × Bool := advN r fl last s sw r.length
theorem pc46 {r : List Nd} (hr : r.length ≤ 24) {fl : List W32} (hf : fl.length = r.length) (last : W32) (s : Gs) (sw : Int) :
    PC Try.prog 46 [slN r, slW fl, .int .u32 last.toNat, .agg (encGs s), .int .i64 sw] (.tup [.agg (encGs (advS r fl last s sw).1), .bool (advS r fl last s sw).2]) := by
  obtain ⟨nx, ac⟩ := s
  have hlen := len_flat lenN r
  rw [advS]
  obtain ⟨zz, hzz⟩ : ∃ zz : Gs × Bool, zz = advN r fl last ⟨nx, ac⟩ sw 0 := ⟨_, rfl⟩
  refine PC.walk tok mixed cfg0 Try.func46 rfl Try.call46 (by simp [belN, bel_Ns, bel_slN, bel_Gs, bel_Ws, bel_slW, bel_Gss, bel_slG]) (by first | rfl | simp [belN, bel_Ns, bel_slN, bel_Gs, bel_Ws, bel_slW, bel_Gss, bel_slG]) ?_; simp (maxSteps := 2000000) -implicitDefEqProofs +contextual (disch := first | assumption | omega | decide +kernel) only [push_cast, ↓capI, br2_true, br2_false, frk_tt, frk_tf, frk_f, frkD_tt, frkD_tf, frkD_f, pk2_true, pk2_false, imp_true, seval, Nat.reduceLeDiff, Nat.reduceEqDiff, reduceCtorEq, ↓reduceIte, fmN, fm0, take_N, toN1, slN_nil, encN, slN, cfg0, get_flat_part lenN, get_flat_drop lenN, len_flat lenN, w_nat, shl32, shr32, or32, and32, encGs, bit32, slW, getV_map, getV_mapO, List.length_map, Nat.mul_one, Try.ntmps46]
  refine T.lp tok mixed cfg0 (fun ((i : Nat)) => kp 3 (dd 1 (kp 1 (dd 3 (kp 1 (dd 1 (kp 1 (dd 1 (kp 1 (sv (.bool (advN r fl last ⟨nx, ac⟩ sw i).2) (sv (.int .i64 (i : Int)) (dd 52 (nl))))))))))))) (fun H0 ((i : Nat)) => [.cells 0 [.int .u32 nx.toNat, .bool ac], .cells 0 [.int .u32 0, .bool false], .cells 0 (encGs (advN r fl last ⟨nx, ac⟩ sw i).1)]) (fun ((i : Nat)) => i ≤ r.length) (fun ((i : Nat)) => r.length - i) (0) ?_ ?_ ?_
  · exact Nat.zero_le _
  · exact Gn.canon (J := []) (by simp [List.append_nil, encGs, advN]) (by simp [wk, slN, encGs, slW, putT, kp, dd, sv, nl, advN]) (by simp [List.length_append]) (by simp [belN, bel_Ns, bel_slN, bel_Gs, bel_Ws, bel_slW, bel_Gss, bel_slG, kp, dd, sv, nl]) (by simp [belN, bel_Ns, bel_slN, bel_Gs, bel_Ws, bel_slW, bel_Gss, bel_slG])
  · intro i hi
    have hi0 : i ≤ r.length := hi
    have hnx : advN r fl last ⟨nx, ac⟩ sw (i + 1) = advI r fl last ⟨nx, ac⟩ sw i (advN r fl last ⟨nx, ac⟩ sw i) := rfl
    have hlast : i = r.length → advN r fl last ⟨nx, ac⟩ sw r.length = advN r fl last ⟨nx, ac⟩ sw i := fun e => by rw [e]
    generalize hA : advN r fl last ⟨nx, ac⟩ sw i = o at hnx hlast
    simp only [hA]
    obtain ⟨⟨on, oa⟩, os⟩ := o
    by_cases hlt : i < r.length
    · have hif : i < fl.length := by omega
      have hgr : r.getD i ⟨0, 0⟩ = r[i] := by rw [List.getD_eq_getElem?_getD, List.getElem?_eq_getElem hlt]; rfl
      have hgf : fl.getD i 0#32 = fl[i] := by rw [List.getD_eq_getElem?_getD, List.getElem?_eq_getElem hif]; rfl
      have q1 := len_flat_at lenN r i 2 hlt (by decide)
      have q2 := len_flat_at2 lenN r i 1 1 hlt (by decide)
      rw [advI, hgr, hgf] at hnx
      simp only at hnx
      generalize hx : r[i] = x at hnx
      obtain ⟨op, n⟩ := x
      cases hb : nx.getLsbD i with
      | false =>
        rw [hb, Bool.false_and, if_neg (by decide)] at hnx
        simp (maxSteps := 2000000) -implicitDefEqProofs +contextual (disch := first | assumption | omega | decide +kernel) only [push_cast, ↓capI, br2_true, br2_false, frk_tt, frk_tf, frk_f, frkD_tt, frkD_tf, frkD_f, pk2_true, pk2_false, imp_true, seval, Nat.reduceLeDiff, Nat.reduceEqDiff, reduceCtorEq, ↓reduceIte, fmN, fm0, take_N, toN1, slN_nil, encN, slN, cfg0, get_flat_part lenN, get_flat_drop lenN, len_flat lenN, w_nat, shl32, shr32, or32, and32, encGs, bit32, slW, getV_map, getV_mapO, List.length_map, Nat.mul_one, hlt, hb]
        refine ⟨(i + 1), by omega, by (try simp only); omega, ?_⟩; exact Gn.canon (by first | rfl | (simp [List.append_nil, encGs, hnx]; rfl)) (by simp [wk, slN, encGs, slW, hnx]) (by simp [List.length_append]) (by simp [belN, bel_Ns, bel_slN, bel_Gs, bel_Ws, bel_slW, bel_Gss, bel_slG]) (by simp [belN, bel_Ns, bel_slN, bel_Gs, bel_Ws, bel_slW, bel_Gss, bel_slG])
      | true =>
        rw [hb, Bool.true_and, mtc] at hnx
        simp only at hnx
        by_cases h2 : op = 2
        · rw [decide_eq_true h2, Bool.true_or, if_pos rfl] at hnx
          cases hac : oa with
          | true =>
            rw [hac, Bool.true_or] at hnx
            simp (maxSteps := 2000000) -implicitDefEqProofs +contextual (disch := first | assumption | omega | decide +kernel) only [push_cast, ↓capI, br2_true, br2_false, frk_tt, frk_tf, frk_f, frkD_tt, frkD_tf, frkD_f, pk2_true, pk2_false, imp_true, seval, Nat.reduceLeDiff, Nat.reduceEqDiff, reduceCtorEq, ↓reduceIte, fmN, fm0, take_N, toN1, slN_nil, encN, slN, cfg0, get_flat_part lenN, get_flat_drop lenN, len_flat lenN, w_nat, shl32, shr32, or32, and32, encGs, bit32, slW, getV_map, getV_mapO, List.length_map, Nat.mul_one, hlt, hb, hx, h2, hif]
            refine ⟨(i + 1), by omega, by (try simp only); omega, ?_⟩; exact Gn.canon (by first | rfl | (simp [List.append_nil, encGs, hnx]; rfl)) (by simp [wk, slN, encGs, slW, hnx]) (by simp [List.length_append]) (by simp [belN, bel_Ns, bel_slN, bel_Gs, bel_Ws, bel_slW, bel_Gss, bel_slG]) (by simp [belN, bel_Ns, bel_slN, bel_Gs, bel_Ws, bel_slW, bel_Gss, bel_slG])
          | false =>
            rw [hac, Bool.false_or] at hnx
            simp (maxSteps := 2000000) -implicitDefEqProofs +contextual (disch := first | assumption | omega | decide +kernel) only [push_cast, ↓capI, br2_true, br2_false, frk_tt, frk_tf, frk_f, frkD_tt, frkD_tf, frkD_f, pk2_true, pk2_false, imp_true, seval, Nat.reduceLeDiff, Nat.reduceEqDiff, reduceCtorEq, ↓reduceIte, fmN, fm0, take_N, toN1, slN_nil, encN, slN, cfg0, get_flat_part lenN, get_flat_drop lenN, len_flat lenN, w_nat, shl32, shr32, or32, and32, encGs, bit32, slW, getV_map, getV_mapO, List.length_map, Nat.mul_one, hlt, hb, hx, h2, hif]
            refine ⟨(i + 1), by omega, by (try simp only); omega, ?_⟩; exact Gn.canon (by first | rfl | (simp [List.append_nil, encGs, hnx]; rfl)) (by simp [wk, slN, encGs, slW, hnx]) (by simp [List.length_append]) (by simp [belN, bel_Ns, bel_slN, bel_Gs, bel_Ws, bel_slW, bel_Gss, bel_slG]) (by simp [belN, bel_Ns, bel_slN, bel_Gs, bel_Ws, bel_slW, bel_Gss, bel_slG])
        · rw [decide_eq_false h2, Bool.false_or] at hnx
          by_cases hn : n = sw
          · rw [decide_eq_true hn, if_pos rfl] at hnx
            cases hac : oa with
            | true =>
              rw [hac, Bool.true_or] at hnx
              simp (maxSteps := 2000000) -implicitDefEqProofs +contextual (disch := first | assumption | omega | decide +kernel) only [push_cast, ↓capI, br2_true, br2_false, frk_tt, frk_tf, frk_f, frkD_tt, frkD_tf, frkD_f, pk2_true, pk2_false, imp_true, seval, Nat.reduceLeDiff, Nat.reduceEqDiff, reduceCtorEq, ↓reduceIte, fmN, fm0, take_N, toN1, slN_nil, encN, slN, cfg0, get_flat_part lenN, get_flat_drop lenN, len_flat lenN, w_nat, shl32, shr32, or32, and32, encGs, bit32, slW, getV_map, getV_mapO, List.length_map, Nat.mul_one, hlt, hb, hx, h2, hn, hif]
              refine ⟨(i + 1), by omega, by (try simp only); omega, ?_⟩; exact Gn.canon (by first | rfl | (simp [List.append_nil, encGs, hnx]; rfl)) (by simp [wk, slN, encGs, slW, hnx]) (by simp [List.length_append]) (by simp [belN, bel_Ns, bel_slN, bel_Gs, bel_Ws, bel_slW, bel_Gss, bel_slG]) (by simp [belN, bel_Ns, bel_slN, bel_Gs, bel_Ws, bel_slW, bel_Gss, bel_slG])
            | false =>
              rw [hac, Bool.false_or] at hnx
              simp (maxSteps := 2000000) -implicitDefEqProofs +contextual (disch := first | assumption | omega | decide +kernel) only [push_cast, ↓capI, br2_true, br2_false, frk_tt, frk_tf, frk_f, frkD_tt, frkD_tf, frkD_f, pk2_true, pk2_false, imp_true, seval, Nat.reduceLeDiff, Nat.reduceEqDiff, reduceCtorEq, ↓reduceIte, fmN, fm0, take_N, toN1, slN_nil, encN, slN, cfg0, get_flat_part lenN, get_flat_drop lenN, len_flat lenN, w_nat, shl32, shr32, or32, and32, encGs, bit32, slW, getV_map, getV_mapO, List.length_map, Nat.mul_one, hlt, hb, hx, h2, hn, hif]
              refine ⟨(i + 1), by omega, by (try simp only); omega, ?_⟩; exact Gn.canon (by first | rfl | (simp [List.append_nil, encGs, hnx]; rfl)) (by simp [wk, slN, encGs, slW, hnx]) (by simp [List.length_append]) (by simp [belN, bel_Ns, bel_slN, bel_Gs, bel_Ws, bel_slW, bel_Gss, bel_slG]) (by simp [belN, bel_Ns, bel_slN, bel_Gs, bel_Ws, bel_slW, bel_Gss, bel_slG])
          · rw [decide_eq_false hn, if_neg (by decide)] at hnx
            simp (maxSteps := 2000000) -implicitDefEqProofs +contextual (disch := first | assumption | omega | decide +kernel) only [push_cast, ↓capI, br2_true, br2_false, frk_tt, frk_tf, frk_f, frkD_tt, frkD_tf, frkD_f, pk2_true, pk2_false, imp_true, seval, Nat.reduceLeDiff, Nat.reduceEqDiff, reduceCtorEq, ↓reduceIte, fmN, fm0, take_N, toN1, slN_nil, encN, slN, cfg0, get_flat_part lenN, get_flat_drop lenN, len_flat lenN, w_nat, shl32, shr32, or32, and32, encGs, bit32, slW, getV_map, getV_mapO, List.length_map, Nat.mul_one, hlt, hb, hx, h2, hn]
            refine ⟨(i + 1), by omega, by (try simp only); omega, ?_⟩; exact Gn.canon (by first | rfl | (simp [List.append_nil, encGs, hnx]; rfl)) (by simp [wk, slN, encGs, slW, hnx]) (by simp [List.length_append]) (by simp [belN, bel_Ns, bel_slN, bel_Gs, bel_Ws, bel_slW, bel_Gss, bel_slG]) (by simp [belN, bel_Ns, bel_slN, bel_Gs, bel_Ws, bel_slW, bel_Gss, bel_slG])
    · rw [hlast (by omega)]
      simp (maxSteps := 2000000) -implicitDefEqProofs +contextual (disch := first | assumption | omega | decide +kernel) only [push_cast, ↓capI, br2_true, br2_false, frk_tt, frk_tf, frk_f, frkD_tt, frkD_tf, frkD_f, pk2_true, pk2_false, imp_true, seval, Nat.reduceLeDiff, Nat.reduceEqDiff, reduceCtorEq, ↓reduceIte, fmN, fm0, take_N, toN1, slN_nil, encN, slN, cfg0, get_flat_part lenN, get_flat_drop lenN, len_flat lenN, w_nat, shl32, shr32, or32, and32, encGs, bit32, slW, getV_map, getV_mapO, List.length_map, Nat.mul_one, hlt]
      refine endK.ret ?_ (by first | rfl | simp [belN, bel_Ns, bel_slN, bel_Gs, bel_Ws, bel_slW, bel_Gss, bel_slG]); simp [evRes, getT, retV, Try.f46,  encGs, tt_113, Res.then, ldT, ldR, getO, mkV, getV, imp, lenOK_iff]
def idxG (x : Gs) : List Gs → Option Nat
  | [] => none
  | y :: r => if x = y then some 0 else (idxG x r).map (· + 1)
def fndG (x : Gs) (l : List Gs) : Int := match idxG x l with | some k => (k : Int) | none => -1
theorem idxG_at {x : Gs} : ∀ {l : List Gs} {i : Nat} (hi : i < l.length), x ∉ l.take i → x = l[i] → idxG x l = some i
  | [], i, hi, _, _ => by simp at hi
  | y :: l, 0, hi, _, e => by rw [idxG, if_pos (by simpa using e)]
  | y :: l, i + 1, hi, hn, e => by
    simp only [List.take_succ_cons, List.mem_cons, not_or] at hn
    rw [idxG, if_neg hn.1, idxG_at (l := l) (by simpa using hi) hn.2 (by simpa using e)]
    rfl
theorem idxG_no {x : Gs} : ∀ {l : List Gs}, x ∉ l → idxG x l = none
  | [], _ => rfl
  | y :: l, h => by
    simp only [List.mem_cons, not_or] at h
    rw [idxG, if_neg h.1, idxG_no h.2]
    rfl
theorem pc47 {l : List Gs} (hl : l.length ≤ 2 ^ 30) (x : Gs) : PC Try.prog 47 [slG l, .agg (encGs x)] (.int .i64 (fndG x l)) := by
  obtain ⟨nx, ac⟩ := x
  have hlen := len_flat len_Gs l
  refine PC.walk tok mixed cfg0 Try.func47 rfl Try.call47 (by simp [belN, bel_Ns, bel_slN, bel_Gs, bel_Ws, bel_slW, bel_Gss, bel_slG, bel_slG]) (by first | rfl | simp [belN, bel_Ns, bel_slN, bel_Gs, bel_Ws, bel_slW, bel_Gss, bel_slG]) ?_
  simp (maxSteps := 2000000) -implicitDefEqProofs +contextual (disch := first | assumption | omega | decide +kernel) only [push_cast, ↓capI, br2_true, br2_false, frk_tt, frk_tf, frk_f, frkD_tt, frkD_tf, frkD_f, pk2_true, pk2_false, imp_true, seval, Nat.reduceLeDiff, Nat.reduceEqDiff, reduceCtorEq, ↓reduceIte, fmN, fm0, take_N, toN1, slN_nil, encN, slN, cfg0, get_flat_part lenN, get_flat_drop lenN, len_flat lenN, w_nat, shl32, shr32, or32, and32, encGs, bit32, slW, getV_map, getV_mapO, List.length_map, Nat.mul_one, Try.ntmps47, slG]
  refine T.lp tok mixed cfg0 (fun ((i : Nat)) => kp 1 (dd 2 (kp 1 (dd 1 (sv (.int .i64 (i : Int)) (dd 13 (nl))))))) (fun H0 ((i : Nat)) => H0) (fun ((i : Nat)) => i ≤ l.length ∧ (⟨nx, ac⟩ : Gs) ∉ l.take i) (fun ((i : Nat)) => l.length - i) (0) ?_ ?_ ?_
  · exact ⟨Nat.zero_le _, by simp⟩
  · exact Gn.canon (J := []) (by simp [List.append_nil, encGs]) (by simp [wk, slN, encGs, slW, putT, kp, dd, sv, nl, slG]) (by simp [List.length_append]) (by simp [belN, bel_Ns, bel_slN, bel_Gs, bel_Ws, bel_slW, bel_Gss, bel_slG, bel_Gss, kp, dd, sv, nl]) (by simp [belN, bel_Ns, bel_slN, bel_Gs, bel_Ws, bel_slW, bel_Gss, bel_slG, bel_Gss])
  · intro i hi
    obtain ⟨hi, hn⟩ := hi
    by_cases hlt : i < l.length
    · have hgv : getV ((l.flatMap encGs).drop (i * 2)) 0 2 = encGs l[i] := get_flat0 len_Gs l i hlt
      have q1 := len_flat_at len_Gs l i 2 hlt (by decide)
      by_cases he : (⟨nx, ac⟩ : Gs) = l[i]
      · rw [fndG, idxG_at hlt hn he]
        generalize hy : l[i] = y at hgv he
        subst he
        simp (maxSteps := 2000000) -implicitDefEqProofs +contextual (disch := first | assumption | omega | decide +kernel) only [push_cast, ↓capI, br2_true, br2_false, frk_tt, frk_tf, frk_f, frkD_tt, frkD_tf, frkD_f, pk2_true, pk2_false, imp_true, seval, Nat.reduceLeDiff, Nat.reduceEqDiff, reduceCtorEq, ↓reduceIte, fmN, fm0, take_N, toN1, slN_nil, encN, slN, cfg0, get_flat_part lenN, get_flat_drop lenN, len_flat lenN, w_nat, shl32, shr32, or32, and32, encGs, bit32, slW, getV_map, getV_mapO, List.length_map, Nat.mul_one, hlt, hgv]
        refine endK.ret ?_ (by first | rfl | simp [belN, bel_Ns, bel_slN, bel_Gs, bel_Ws, bel_slW, bel_Gss, bel_slG]); simp [evRes, getT, retV, Try.f47]
      · have hn2 : (⟨nx, ac⟩ : Gs) ∉ l.take (i + 1) := fun h => by
          rw [List.take_succ_eq_append_getElem hlt] at h
          rcases List.mem_append.1 h with h | h
          · exact hn h
          · rw [List.mem_singleton] at h; exact he h
        generalize hy : l[i] = y at hgv he
        obtain ⟨ny, ay⟩ := y
        have hbq : (((ny.toNat : Int) == (nx.toNat : Int)) && (ay == ac)) = false := by
          cases h : (((ny.toNat : Int) == (nx.toNat : Int)) && (ay == ac)) with
          | false => rfl
          | true =>
            exfalso
            rw [Bool.and_eq_true, beq_iff_eq, beq_iff_eq] at h
            have h1 : ny = nx := BitVec.eq_of_toNat_eq (by omega)
            exact he (by rw [h1, h.2])
        simp (maxSteps := 2000000) -implicitDefEqProofs +contextual (disch := first | assumption | omega | decide +kernel) only [push_cast, ↓capI, br2_true, br2_false, frk_tt, frk_tf, frk_f, frkD_tt, frkD_tf, frkD_f, pk2_true, pk2_false, imp_true, seval, Nat.reduceLeDiff, Nat.reduceEqDiff, reduceCtorEq, ↓reduceIte, fmN, fm0, take_N, toN1, slN_nil, encN, slN, cfg0, get_flat_part lenN, get_flat_drop lenN, len_flat lenN, w_nat, shl32, shr32, or32, and32, encGs, bit32, slW, getV_map, getV_mapO, List.length_map, Nat.mul_one, hlt, hgv, hbq]
        refine ⟨(i + 1), ⟨by omega, hn2⟩, by (try simp only); omega, ?_⟩; exact Gn.canon (by first | rfl | (simp [List.append_nil, encGs]; rfl)) (by simp [wk, slN, encGs, slW]) (by simp [List.length_append]) (by simp [belN, bel_Ns, bel_slN, bel_Gs, bel_Ws, bel_slW, bel_Gss, bel_slG]) (by simp [belN, bel_Ns, bel_slN, bel_Gs, bel_Ws, bel_slW, bel_Gss, bel_slG])
    · rw [List.take_of_length_le (by omega)] at hn
      rw [fndG, idxG_no hn]
      simp (maxSteps := 2000000) -implicitDefEqProofs +contextual (disch := first | assumption | omega | decide +kernel) only [push_cast, ↓capI, br2_true, br2_false, frk_tt, frk_tf, frk_f, frkD_tt, frkD_tf, frkD_f, pk2_true, pk2_false, imp_true, seval, Nat.reduceLeDiff, Nat.reduceEqDiff, reduceCtorEq, ↓reduceIte, fmN, fm0, take_N, toN1, slN_nil, encN, slN, cfg0, get_flat_part lenN, get_flat_drop lenN, len_flat lenN, w_nat, shl32, shr32, or32, and32, encGs, bit32, slW, getV_map, getV_mapO, List.length_map, Nat.mul_one, hlt]
      refine endK.ret ?_ (by first | rfl | simp [belN, bel_Ns, bel_slN, bel_Gs, bel_Ws, bel_slW, bel_Gss, bel_slG]); simp [evRes, getT, retV, Try.f47]
end Go.Proofs.Ytkjffppioddnpaa

/- Chapter 42: languages of states; live states (plain). -/
set_option maxRecDepth 100000
set_option maxHeartbeats 4000000
set_option linter.all false
namespace Go.Proofs.Ytkjffppioddnpaa
open Go.Vm
def La (t : Tb) (q : Int) (l : List Int) : Bool := accq t (runA t q l)
theorem La_nil {t : Tb} {q : Int} : La t q [] = accq t q := rfl
theorem La_cons {t : Tb} {q s : Int} {l : List Int} : La t q (s :: l) = La t (suc t q s) l := rfl
theorem suc_neg {t : Tb} {q s : Int} (h : q < 0) : suc t q s = -1 := by rw [suc, if_pos (.inl h)]
theorem La_neg {t : Tb} : ∀ {l : List Int} {q : Int}, q < 0 → La t q l = false
  | [], q, h => by rw [La_nil, accq, decide_eq_false (by omega), Bool.false_and]
  | s :: l, q, h => by rw [La_cons, suc_neg h]; exact La_neg (by decide)
def Dd (t : Tb) (q : Int) : Prop := ∀ l, La t q l = false
def Eq2 (t : Tb) (q : Int) (t' : Tb) (q' : Int) : Prop := ∀ l, La t q l = La t' q' l
theorem Eq2.suc {t t' : Tb} {q q' : Int} (h : Eq2 t q t' q') (s : Int) : Eq2 t (Go.Proofs.Ytkjffppioddnpaa.suc t q s) t' (Go.Proofs.Ytkjffppioddnpaa.suc t' q' s) := fun l => h (s :: l)
theorem Eq2.dd {t t' : Tb} {q q' : Int} (h : Eq2 t q t' q') : Dd t q ↔ Dd t' q' :=
  ⟨fun hd l => by rw [← h l]; exact hd l, fun hd l => by rw [h l]; exact hd l⟩
theorem Eq2.symm {t t' : Tb} {q q' : Int} (h : Eq2 t q t' q') : Eq2 t' q' t q := fun l => (h l).symm
theorem Eq2.trans {t t' t'' : Tb} {q q' q'' : Int} (h : Eq2 t q t' q') (h' : Eq2 t' q' t'' q'') : Eq2 t q t'' q'' := fun l => (h l).trans (h' l)
theorem Dd.neg {t : Tb} {q : Int} (h : q < 0) : Dd t q := fun _ => La_neg h
theorem Dd.suc {t : Tb} {q : Int} (h : Dd t q) (s : Int) : Dd t (Go.Proofs.Ytkjffppioddnpaa.suc t q s) := fun l => h (s :: l)
theorem eq2_dd {t t' : Tb} {q q' : Int} (h : Dd t q) (h' : Dd t' q') : Eq2 t q t' q' := fun l => by rw [h l, h' l]
section
variable {n m : Nat} {t : Tb} (ht : okT n m t)
include ht
theorem suc_at {q : Nat} (hq : q < n) {s : Nat} (hs : s < m) : suc t q s = gI (t.next.getD q []) s := by
  have hl := ht.rows
  have hr := ht.row _ (getRow0 hl hq)
  rw [suc, if_neg]
  · rw [Int.toNat_natCast]
  · rw [Int.toNat_natCast, hr]; omega
 where
  getRow0 {n : Nat} {q : Nat} (hl : t.next.length = n) (hq : q < n) : t.next.getD q [] ∈ t.next := by
    rw [List.getD_eq_getElem?_getD, List.getElem?_eq_getElem (by omega)]
    exact List.getElem_mem _
theorem row_mem {q : Nat} (hq : q < n) : t.next.getD q [] ∈ t.next := by
  have hl := ht.rows
  rw [List.getD_eq_getElem?_getD, List.getElem?_eq_getElem (by omega)]
  exact List.getElem_mem _
theorem row_len {q : Nat} (hq : q < n) : (t.next.getD q []).length = m := ht.row _ (row_mem ht hq)
theorem suc_out {q s : Int} (hq : q < (n : Int)) (hs : s < 0 ∨ (m : Int) ≤ s) : suc t q s = -1 := by
  by_cases h0 : q < 0
  · exact suc_neg h0
  · rw [suc, if_pos]
    have := row_len ht (q := q.toNat) (by omega)
    rw [this]
    omega
def Lok (t : Tb) (n : Nat) (o : List Bool) : Prop := (∀ q, q < n → o.getD q false = true → ¬ Dd t q) ∧ (∀ q, q < n → t.acc.getD q false = true → o.getD q false = true) ∧ o.length = n
theorem getD_set {o : List Bool} {q k : Nat} (hq : q < o.length) : (o.set q true).getD k false = if q = k then true else o.getD k false := by
  rw [List.getD_eq_getElem?_getD, List.getD_eq_getElem?_getD, List.getElem?_set]
  by_cases h : q = k
  · subst h; simp [hq]
  · simp [h]
theorem toL_live {o : List Bool} (ho : Lok t n o) {q : Nat} (hq : q < n) (h : toL o (t.next.getD q []) = true) : ¬ Dd t q := by
  rw [toL, List.any_eq_true] at h
  obtain ⟨x, hx, h⟩ := h
  simp only [Bool.and_eq_true, decide_eq_true_eq] at h
  obtain ⟨j, hj, e⟩ := List.getElem_of_mem hx
  have hm := row_len ht hq
  have hxr := ht.rng _ (row_mem ht hq) x hx
  have hs := suc_at ht hq (s := j) (by omega)
  have hg : gI (t.next.getD q []) (j : Int) = x := by
    rw [gI, Int.toNat_natCast, List.getD_eq_getElem?_getD, List.getElem?_eq_getElem hj]; exact e
  rw [hg] at hs
  intro hd
  refine ho.1 x.toNat (by omega) h.2 ?_
  rw [show ((x.toNat : Nat) : Int) = x from by omega, ← hs]
  exact hd.suc j
theorem liveN_ok {o : List Bool} (ho : Lok t n o) : ∀ k, k ≤ n → Lok t n (liveN t o k).1
  | 0, _ => ho
  | k + 1, hk => by
    have ih := liveN_ok ho k (by omega)
    rw [liveN, liveI]
    split
    · rename_i h
      have hl := ih.2.2
      have hg := fun j => getD_set ht (o := (liveN t o k).1) (q := k) (k := j) (by omega)
      refine ⟨fun q hq hb => ?_, fun q hq ha => ?_, by rw [List.length_set]; exact hl⟩
      · simp only at hb
        rw [hg] at hb
        split at hb
        · rename_i e; subst e; exact toL_live ht ih hq h.2
        · exact ih.1 q hq hb
      · simp only
        rw [hg]
        split
        · rfl
        · exact ih.2.1 q hq ha
    · exact ih
theorem liveN_same {o : List Bool} : ∀ k, (liveN t o k).2 = false → (liveN t o k).1 = o ∧ ∀ q, q < k → o.getD q false = false → toL o (t.next.getD q []) = false
  | 0, _ => ⟨rfl, fun q h => by omega⟩
  | k + 1, h => by
    rw [liveN, liveI] at h ⊢
    split at h
    · cases h
    · rename_i hc
      obtain ⟨h1, h2⟩ := liveN_same k h
      rw [if_neg hc]
      refine ⟨h1, fun q hq hf => ?_⟩
      by_cases e : q = k
      · subst e
        rw [h1] at hc
        cases hb : toL o (t.next.getD q []) with
        | false => rfl
        | true => exact absurd ⟨hf, hb⟩ hc
      · exact h2 q (by omega) hf
theorem liveF_ok : ∀ (k : Nat) (o : List Bool), Lok t n o → cntF o < k → Lok t n (liveF t k o) ∧ ∀ q, q < n → (liveF t k o).getD q false = false → toL (liveF t k o) (t.next.getD q []) = false
  | 0, o, _, h => by omega
  | k + 1, o, ho, hk => by
    have hp : Lok t n (pass t o).1 := by
      have := liveN_ok ht ho n (Nat.le_refl _)
      rwa [pass, ht.rows]
    have hstep := liveF_step t (k := k + 1) (o := o) (by rw [ht.rows, ho.2.2]; exact Nat.le_refl _) hk
    rw [liveF]
    split
    · rename_i h
      have hl := (hstep.1 h).1
      exact liveF_ok k _ hp (by omega)
    · rename_i h
      rw [Bool.not_eq_true] at h
      refine ⟨hp, ?_⟩
      rw [pass] at h ⊢
      obtain ⟨h1, h2⟩ := liveN_same ht _ h
      rw [h1]
      intro q hq
      exact h2 q (by rw [ht.rows]; exact hq)
theorem live_iff {q : Nat} (hq : q < n) : (liveS t).getD q false = true ↔ ¬ Dd t q := by
  have h0 : Lok t n t.acc := by
    refine ⟨fun q hq h hd => ?_, fun q _ h => h, ht.accs⟩
    have := hd []
    rw [La_nil, accq, gB, Int.toNat_natCast, h, decide_eq_true (by omega)] at this
    cases this
  obtain ⟨h1, h2⟩ := liveF_ok ht (cntF t.acc + 1) t.acc h0 (by omega)
  rw [← liveS] at h1 h2
  refine ⟨h1.1 q hq, fun hn => ?_⟩
  cases hb : (liveS t).getD q false with
  | true => rfl
  | false =>
    exfalso
    refine hn ?_
    have key : ∀ (l : List Int) (q : Int), -1 ≤ q ∧ q < (n : Int) → (0 ≤ q → (liveS t).getD q.toNat false = false) → La t q l = false := by
      intro l
      induction l with
      | nil =>
        intro q hq hf
        by_cases h0 : 0 ≤ q
        · rw [La_nil, accq, gB]
          cases hacc : t.acc.getD q.toNat false with
          | false => rw [Bool.and_false]
          | true =>
            have := h1.2.1 q.toNat (by omega) hacc
            rw [hf h0] at this
            cases this
        · exact La_neg (by omega)
      | cons s l ih =>
        intro q hq hf
        rw [La_cons]
        refine ih _ (suc_rng ht hq) fun hs => ?_
        by_cases h0 : 0 ≤ q
        · have hd := h2 q.toNat (by omega) (hf h0)
          by_cases hsm : 0 ≤ s ∧ s < (m : Int)
          · have e := suc_at ht (q := q.toNat) (by omega) (s := s.toNat) (by omega)
            rw [show ((q.toNat : Nat) : Int) = q from by omega, show ((s.toNat : Nat) : Int) = s from by omega] at e
            have hm := row_len ht (q := q.toNat) (by omega)
            have hmem : gI (t.next.getD q.toNat []) s ∈ t.next.getD q.toNat [] := by
              have hsl : s.toNat < (t.next.getD q.toNat []).length := by omega
              rw [gI, lgetD hsl]
              exact List.getElem_mem _
            rw [toL, List.any_eq_false] at hd
            have := hd _ hmem
            rw [← e] at this
            cases hg : gB (liveS t) (suc t q s) with
            | false => exact hg
            | true => rw [hg, decide_eq_true hs] at this; exact absurd rfl this
          · rw [suc_out ht hq.2 (by omega)] at hs
            omega
        · rw [suc_neg (by omega)] at hs
          omega
    intro l
    exact key l q (by omega) (fun _ => by rw [Int.toNat_natCast]; exact hb)
end
end Go.Proofs.Ytkjffppioddnpaa

/- Chapter 42: classes of states (plain). -/
set_option maxRecDepth 100000
set_option maxHeartbeats 4000000
set_option linter.all false
namespace Go.Proofs.Ytkjffppioddnpaa
open Go.Vm
def clx (c : List Int) (x : Int) : Int := if 0 ≤ x then gI c x else -1
theorem sig_eq {c row : List Int} {q : Nat} : sigO c row q = c.getD q 0 :: row.map (clx c) := rfl
theorem clx_nat {c : List Int} {q : Nat} : clx c q = c.getD q 0 := by rw [clx, if_pos (by omega), gI, Int.toNat_natCast]
theorem clx_neg {c : List Int} {x : Int} (h : x < 0) : clx c x = -1 := by rw [clx, if_neg (by omega)]
structure Crs (n : Nat) (t : Tb) (c : List Int) : Prop where
  len : c.length = n
  rng : ∀ q, q < n → -1 ≤ c.getD q 0
  dd : ∀ q, q < n → (c.getD q 0 = -1 ↔ Dd t q)
  snd : ∀ q q', q < n → q' < n → Eq2 t q t q' → c.getD q 0 = c.getD q' 0
  acc : ∀ q q', q < n → q' < n → c.getD q 0 = c.getD q' 0 → t.acc.getD q false = t.acc.getD q' false
structure Good (n : Nat) (t : Tb) (c : List Int) : Prop where
  len : c.length = n
  dd : ∀ x : Int, -1 ≤ x → x < (n : Int) → (clx c x < 0 ↔ Dd t x)
  eq : ∀ x y : Int, -1 ≤ x → x < (n : Int) → -1 ≤ y → y < (n : Int) → (clx c x = clx c y ↔ Eq2 t x t y)
theorem head_inj {l : List Int} {cnt : Nat} (hl : l.length = cnt) (h : ∀ k, k < cnt → ((k : Nat) : Int) ∈ l) {i j : Nat} (hi : i < l.length) (hj : j < l.length) (e : l[i]? = l[j]?) : i = j := by
  by_cases hij : i = j
  · exact hij
  exfalso
  have := len_sub (L := (List.range cnt).map fun (k : Nat) => (k : Int)) (D := l.eraseIdx j) (map_nodup (fun a b e => by omega) List.nodup_range) (fun x hx => by
    obtain ⟨k, hk, rfl⟩ := List.mem_map.1 hx
    rw [List.mem_range] at hk
    obtain ⟨u, hu, eu⟩ := List.getElem_of_mem (h k hk)
    rw [List.mem_eraseIdx_iff_getElem?]
    by_cases huj : u = j
    · refine ⟨i, hij, ?_⟩
      rw [e, ← huj, List.getElem?_eq_getElem hu, eu]
    · exact ⟨u, huj, by rw [List.getElem?_eq_getElem hu, eu]⟩)
  rw [List.length_map, List.length_range, List.length_eraseIdx, if_pos hj] at this
  omega
theorem refN_at (t : Tb) (c : List Int) : ∀ k q, q < k → (c.getD q 0 < 0 → (refN t c k).1.getD q 0 = -1) ∧ (¬ c.getD q 0 < 0 → ∃ j : Nat, (refN t c k).1.getD q 0 = (j : Int) ∧ (refN t c k).2[j]? = some (sigO c (t.next.getD q []) q))
  | 0, q, h => by omega
  | k + 1, q, h => by
    have hl := refN_len t c k
    have ih := refN_at t c k q
    have hlt : ∀ x : Int, q < k → ((refN t c k).1 ++ [x]).getD q 0 = (refN t c k).1.getD q 0 := fun x hq => by
      rw [List.getD_eq_getElem?_getD, List.getD_eq_getElem?_getD, List.getElem?_append_left (by omega)]
    have heq : ∀ x : Int, q = k → ((refN t c k).1 ++ [x]).getD q 0 = x := fun x hq => by
      rw [List.getD_eq_getElem?_getD, List.getElem?_append_right (by omega), show q - (refN t c k).1.length = 0 from by omega]; rfl
    by_cases hq : q < k
    · have ih := ih hq
      have hs : ∀ (j : Nat) (y : List (List Int)) (z : List Int), (refN t c k).2[j]? = some z → ((refN t c k).2 ++ y)[j]? = some z := fun j y z hj => by
        rw [List.getElem?_append_left (List.getElem?_eq_some_iff.1 hj).1]; exact hj
      rw [refN, refI]
      split
      · simp only [hlt _ hq]; exact ih
      · split
        · simp only [hlt _ hq]; exact ih
        · simp only [hlt _ hq]
          refine ⟨ih.1, fun hn => ?_⟩
          obtain ⟨j, h1, h2⟩ := ih.2 hn
          exact ⟨j, h1, hs j _ _ h2⟩
    · have hqk : q = k := by omega
      rw [refN, refI]
      split
      · rename_i hn
        rw [← hqk] at hn
        exact ⟨fun _ => heq _ hqk, fun h => absurd hn h⟩
      · rename_i hn
        rw [← hqk] at hn
        split
        · rename_i j hj
          simp only [heq _ hqk]
          refine ⟨fun h => absurd h hn, fun _ => ⟨j, rfl, ?_⟩⟩
          rw [hqk]
          exact idxL_some hj
        · simp only [heq _ hqk]
          refine ⟨fun h => absurd h hn, fun _ => ⟨_, rfl, ?_⟩⟩
          rw [List.getElem?_append_right (Nat.le_refl _), Nat.sub_self, hqk]
          first | rfl | trivial | simp
section
variable {n m : Nat} {t : Tb} (ht : okT n m t)
include ht
theorem clx_eq {c : List Int} (hc : Crs n t c) {x y : Int} (hx : -1 ≤ x ∧ x < (n : Int)) (hy : -1 ≤ y ∧ y < (n : Int)) (h : Eq2 t x t y) : clx c x = clx c y := by
  have aux : ∀ z : Int, -1 ≤ z ∧ z < (n : Int) → Dd t z → clx c z = -1 := fun z hz hd => by
    by_cases h0 : 0 ≤ z
    · obtain ⟨k, rfl⟩ : ∃ k : Nat, z = k := ⟨z.toNat, by omega⟩
      rw [clx_nat]
      exact (hc.dd k (by omega)).2 hd
    · exact clx_neg (by omega)
  by_cases hd : Dd t x
  · rw [aux x hx hd, aux y hy (h.dd.1 hd)]
  · have hx0 : 0 ≤ x := by
      by_cases h0 : 0 ≤ x
      · exact h0
      · exact absurd (Dd.neg (by omega)) hd
    have hy0 : 0 ≤ y := by
      by_cases h0 : 0 ≤ y
      · exact h0
      · exact absurd (h.dd.2 (Dd.neg (by omega))) hd
    obtain ⟨k, rfl⟩ : ∃ k : Nat, x = k := ⟨x.toNat, by omega⟩
    obtain ⟨j, rfl⟩ : ∃ j : Nat, y = j := ⟨y.toNat, by omega⟩
    rw [clx_nat, clx_nat]
    exact hc.snd k j (by omega) (by omega) h
theorem sig_same {c : List Int} (hc : Crs n t c) {q q' : Nat} (hq : q < n) (hq' : q' < n) (h : Eq2 t q t q') : sigO c (t.next.getD q []) q = sigO c (t.next.getD q' []) q' := by
  rw [sig_eq, sig_eq, hc.snd q q' hq hq' h]
  congr 1
  have l1 := row_len ht hq
  have l2 := row_len ht hq'
  refine List.ext_getElem (by simp only [List.length_map]; omega) fun j h1 h2 => ?_
  rw [List.length_map] at h1 h2
  rw [List.getElem_map, List.getElem_map]
  have e1 := suc_at ht hq (s := j) (by omega)
  have e2 := suc_at ht hq' (s := j) (by omega)
  rw [gI, Int.toNat_natCast, lgetD h1] at e1
  rw [gI, Int.toNat_natCast, lgetD h2] at e2
  rw [← e1, ← e2]
  exact clx_eq ht hc (suc_rng ht ⟨by omega, by omega⟩) (suc_rng ht ⟨by omega, by omega⟩) (h.suc j)
theorem ref_at (c : List Int) {q : Nat} (hq : q < n) : (c.getD q 0 < 0 → (ref t c).1.getD q 0 = -1) ∧ (¬ c.getD q 0 < 0 → ∃ j : Nat, (ref t c).1.getD q 0 = (j : Int) ∧ (ref t c).2[j]? = some (sigO c (t.next.getD q []) q)) := by
  rw [ref]
  exact refN_at t c _ q (by rw [ht.rows]; exact hq)
theorem ref_sig (c : List Int) {q q' : Nat} (hq : q < n) (hq' : q' < n) (h0 : ¬ c.getD q 0 < 0) (h0' : ¬ c.getD q' 0 < 0) :
    (ref t c).1.getD q 0 = (ref t c).1.getD q' 0 ↔ sigO c (t.next.getD q []) q = sigO c (t.next.getD q' []) q' := by
  obtain ⟨j, h1, h2⟩ := (ref_at ht c hq).2 h0
  obtain ⟨j', h1', h2'⟩ := (ref_at ht c hq').2 h0'
  rw [h1, h1']
  constructor
  · intro e
    have : j = j' := by omega
    subst this
    rw [h2] at h2'
    exact Option.some.inj h2'
  · intro e
    rw [← e, ← h2] at h2'
    have hn := (refN_ok t c t.next.length).nodup
    rw [show refN t c t.next.length = ref t c from rfl] at hn
    have hj := (List.getElem?_eq_some_iff.1 h2).1
    have := (List.getElem?_inj hj hn).1 h2'.symm
    rw [this]
theorem ref_crs {c : List Int} (hc : Crs n t c) : Crs n t (ref t c).1 := by
  have hneg : ∀ q, q < n → (c.getD q 0 < 0 ↔ Dd t q) := fun q hq => by
    rw [← hc.dd q hq]
    have := hc.rng q hq
    omega
  refine ⟨by rw [ref_len, ht.rows], fun q hq => ?_, fun q hq => ?_, fun q q' hq hq' h => ?_, fun q q' hq hq' h => ?_⟩
  · by_cases h0 : c.getD q 0 < 0
    · rw [(ref_at ht c hq).1 h0]; omega
    · obtain ⟨j, h1, _⟩ := (ref_at ht c hq).2 h0
      rw [h1]; omega
  · rw [← hneg q hq]
    by_cases h0 : c.getD q 0 < 0
    · rw [(ref_at ht c hq).1 h0]; exact ⟨fun _ => h0, fun _ => rfl⟩
    · obtain ⟨j, h1, _⟩ := (ref_at ht c hq).2 h0
      rw [h1]
      constructor
      · intro h; omega
      · intro h; exact absurd h h0
  · by_cases h0 : c.getD q 0 < 0
    · have h0' : c.getD q' 0 < 0 := by rw [hneg q' hq', ← h.dd, ← hneg q hq]; exact h0
      rw [(ref_at ht c hq).1 h0, (ref_at ht c hq').1 h0']
    · have h0' : ¬ c.getD q' 0 < 0 := by rw [hneg q' hq', ← h.dd, ← hneg q hq]; exact h0
      exact (ref_sig ht c hq hq' h0 h0').2 (sig_same ht hc hq hq' h)
  · by_cases h0 : c.getD q 0 < 0
    · have h0' : c.getD q' 0 < 0 := by
        by_cases h1 : c.getD q' 0 < 0
        · exact h1
        · obtain ⟨j, h2, _⟩ := (ref_at ht c hq').2 h1
          rw [(ref_at ht c hq).1 h0, h2] at h
          omega
      have a1 := ((hneg q hq).1 h0) []
      have a2 := ((hneg q' hq').1 h0') []
      rw [La_nil, accq, gB, Int.toNat_natCast, decide_eq_true (by omega), Bool.true_and] at a1 a2
      rw [a1, a2]
    · have h0' : ¬ c.getD q' 0 < 0 := fun h1 => by
        obtain ⟨j, h2, _⟩ := (ref_at ht c hq).2 h0
        rw [(ref_at ht c hq').1 h1, h2] at h
        omega
      have := (ref_sig ht c hq hq' h0 h0').1 h
      rw [sig_eq, sig_eq] at this
      injection this with h3 _
      exact hc.acc q q' hq hq' h3
theorem ref_good {c : List Int} (hc : Crs n t c) {cnt : Nat} (hm : ∀ k, k < cnt → ((k : Nat) : Int) ∈ c) (he : (ref t c).2.length = cnt) : Good n t (ref t c).1 := by
  have hr := ref_crs ht hc
  have hneg : ∀ q, q < n → (c.getD q 0 < 0 ↔ Dd t q) := fun q hq => by
    rw [← hc.dd q hq]
    have := hc.rng q hq
    omega
  -- states of one class look alike
  have stable : ∀ q q', q < n → q' < n → ¬ c.getD q 0 < 0 → c.getD q 0 = c.getD q' 0 → sigO c (t.next.getD q []) q = sigO c (t.next.getD q' []) q' := by
    intro q q' hq hq' h0 e
    have h0' : ¬ c.getD q' 0 < 0 := by rw [← e]; exact h0
    obtain ⟨j, _, h2⟩ := (ref_at ht c hq).2 h0
    obtain ⟨j', _, h2'⟩ := (ref_at ht c hq').2 h0'
    have hj := (List.getElem?_eq_some_iff.1 h2).1
    have hj' := (List.getElem?_eq_some_iff.1 h2').1
    have hl : ((ref t c).2.map fun s => s.headD 0).length = cnt := by rw [List.length_map, he]
    have hall : ∀ k, k < cnt → ((k : Nat) : Int) ∈ (ref t c).2.map fun s => s.headD 0 := fun k hk => by
      obtain ⟨u, hu, eu⟩ := List.getElem_of_mem (hm k hk)
      have hg : c.getD u 0 = (k : Int) := by rw [lgetD hu]; exact eu
      have hun : u < n := by rw [← hc.len]; exact hu
      obtain ⟨i, _, h4⟩ := (ref_at ht c hun).2 (by rw [hg]; omega)
      refine List.mem_map.2 ⟨_, List.mem_of_getElem? h4, ?_⟩
      rw [sig_eq, hg]; rfl
    have := head_inj hl hall (i := j) (j := j') (by rw [List.length_map]; exact hj) (by rw [List.length_map]; exact hj') (by
      rw [List.getElem?_map, List.getElem?_map, h2, h2', Option.map_some, Option.map_some, sig_eq, sig_eq, e]; rfl)
    subst this
    rw [h2] at h2'
    exact Option.some.inj h2'
  have key : ∀ (l : List Int) (x y : Int), -1 ≤ x ∧ x < (n : Int) → -1 ≤ y ∧ y < (n : Int) → clx c x = clx c y → La t x l = La t y l := by
    have cdd : ∀ z : Int, -1 ≤ z ∧ z < (n : Int) → clx c z < 0 → Dd t z := fun z hz h => by
      by_cases h0 : 0 ≤ z
      · obtain ⟨k, rfl⟩ : ∃ k : Nat, z = k := ⟨z.toNat, by omega⟩
        rw [clx_nat] at h
        exact (hneg k (by omega)).1 h
      · exact Dd.neg (by omega)
    intro l
    induction l with
    | nil =>
      intro x y hx hy h
      by_cases h0 : clx c x < 0
      · rw [cdd x hx h0 [], cdd y hy (by rw [← h]; exact h0) []]
      · have hx0 : 0 ≤ x := by
          by_cases h1 : 0 ≤ x
          · exact h1
          · rw [clx_neg (by omega)] at h0; omega
        have hy0 : 0 ≤ y := by
          by_cases h1 : 0 ≤ y
          · exact h1
          · rw [h, clx_neg (by omega)] at h0; omega
        obtain ⟨k, rfl⟩ : ∃ k : Nat, x = k := ⟨x.toNat, by omega⟩
        obtain ⟨j, rfl⟩ : ∃ j : Nat, y = j := ⟨y.toNat, by omega⟩
        rw [clx_nat, clx_nat] at h
        have := hc.acc k j (by omega) (by omega) h
        rw [La_nil, La_nil, accq, accq, gB, gB, Int.toNat_natCast, Int.toNat_natCast, this, decide_eq_true (by omega), decide_eq_true (by omega)]
    | cons s l ih =>
      intro x y hx hy h
      by_cases h0 : clx c x < 0
      · rw [cdd x hx h0 _, cdd y hy (by rw [← h]; exact h0) _]
      · have hx0 : 0 ≤ x := by
          by_cases h1 : 0 ≤ x
          · exact h1
          · rw [clx_neg (by omega)] at h0; omega
        have hy0 : 0 ≤ y := by
          by_cases h1 : 0 ≤ y
          · exact h1
          · rw [h, clx_neg (by omega)] at h0; omega
        obtain ⟨k, rfl⟩ : ∃ k : Nat, x = k := ⟨x.toNat, by omega⟩
        obtain ⟨j, rfl⟩ : ∃ j : Nat, y = j := ⟨y.toNat, by omega⟩
        have hkn : k < n := by omega
        have hjn : j < n := by omega
        rw [La_cons, La_cons]
        refine ih _ _ (suc_rng ht hx) (suc_rng ht hy) ?_
        by_cases hsm : 0 ≤ s ∧ s < (m : Int)
        · obtain ⟨u, rfl⟩ : ∃ u : Nat, s = u := ⟨s.toNat, by omega⟩
          rw [clx_nat] at h0
          rw [clx_nat, clx_nat] at h
          have hst := stable k j hkn hjn h0 h
          rw [sig_eq, sig_eq] at hst
          injection hst with _ hst
          have l1 := row_len ht hkn
          have l2 := row_len ht hjn
          have e1 := suc_at ht hkn (s := u) (by omega)
          have e2 := suc_at ht hjn (s := u) (by omega)
          have h1 : u < (t.next.getD k []).length := by omega
          have h2 : u < (t.next.getD j []).length := by omega
          rw [gI, Int.toNat_natCast, lgetD h1] at e1
          rw [gI, Int.toNat_natCast, lgetD h2] at e2
          rw [e1, e2]
          have := congrArg (fun z => z[u]?) hst
          simp only [List.getElem?_map, List.getElem?_eq_getElem h1, List.getElem?_eq_getElem h2, Option.map_some, Option.some.injEq] at this
          exact this
        · rw [suc_out ht hx.2 (by omega), suc_out ht hy.2 (by omega)]
  have hdd : ∀ x : Int, -1 ≤ x → x < (n : Int) → (clx (ref t c).1 x < 0 ↔ Dd t x) := fun x h1 h2 => by
    by_cases h0 : 0 ≤ x
    · obtain ⟨k, rfl⟩ : ∃ k : Nat, x = k := ⟨x.toNat, by omega⟩
      rw [clx_nat, ← hr.dd k (by omega)]
      have := hr.rng k (by omega)
      omega
    · exact ⟨fun _ => Dd.neg (by omega), fun _ => by rw [clx_neg (by omega)]; decide⟩
  refine ⟨hr.len, hdd, fun x y hx1 hx2 hy1 hy2 => ⟨fun h => ?_, fun h => clx_eq ht hr ⟨hx1, hx2⟩ ⟨hy1, hy2⟩ h⟩⟩
  by_cases h0 : clx (ref t c).1 x < 0
  · exact eq2_dd ((hdd x hx1 hx2).1 h0) ((hdd y hy1 hy2).1 (by rw [← h]; exact h0))
  · have hx0 : 0 ≤ x := by
      by_cases h1 : 0 ≤ x
      · exact h1
      · rw [clx_neg (by omega)] at h0; omega
    have hy0 : 0 ≤ y := by
      by_cases h1 : 0 ≤ y
      · exact h1
      · rw [h, clx_neg (by omega)] at h0; omega
    have hdx := fun hd => h0 ((hdd x hx1 hx2).2 hd)
    have hdy := fun hd => h0 (by rw [h]; exact (hdd y hy1 hy2).2 hd)
    obtain ⟨k, rfl⟩ : ∃ k : Nat, x = k := ⟨x.toNat, by omega⟩
    obtain ⟨j, rfl⟩ : ∃ j : Nat, y = j := ⟨y.toNat, by omega⟩
    rw [clx_nat, clx_nat] at h
    have hs := (ref_sig ht c (by omega) (by omega) (fun hn => hdx ((hneg k (by omega)).1 hn)) (fun hn => hdy ((hneg j (by omega)).1 hn))).1 h
    rw [sig_eq, sig_eq] at hs
    injection hs with hs _
    exact fun l => key l k j ⟨hx1, hx2⟩ ⟨hy1, hy2⟩ (by rw [clx_nat, clx_nat]; exact hs)
theorem cls0_crs : Crs n t (cls0 t) := by
  have hat : ∀ q, q < n → (cls0 t).getD q 0 = if (liveS t).getD q false = false then -1 else if t.acc.getD q false = true then 1 else 0 := fun q hq => by
    have hr := ht.rows
    rw [List.getD_eq_getElem?_getD, cls0, List.getElem?_map, List.getElem?_range (by omega)]
    rfl
  have hlv := fun q (hq : q < n) => live_iff ht hq
  have hacc : ∀ q, q < n → Dd t q → t.acc.getD q false = false := fun q hq hd => by
    have a1 := hd []
    rwa [La_nil, accq, gB, Int.toNat_natCast, decide_eq_true (by omega), Bool.true_and] at a1
  have hdd : ∀ q, q < n → ((cls0 t).getD q 0 = -1 ↔ Dd t q) := fun q hq => by
    rw [hat q hq]
    split
    · rename_i h
      refine ⟨fun _ => Classical.byContradiction fun hn => ?_, fun _ => rfl⟩
      rw [(hlv q hq).2 hn] at h
      cases h
    · rename_i h
      rw [Bool.not_eq_false] at h
      have := (hlv q hq).1 h
      split <;> exact ⟨fun e => by omega, fun hd => absurd hd this⟩
  refine ⟨by simp [cls0, ht.rows], fun q hq => ?_, hdd, fun q q' hq hq' h => ?_, fun q q' hq hq' h => ?_⟩
  · rw [hat q hq]
    split
    · omega
    · split <;> omega
  · by_cases hd : Dd t q
    · rw [(hdd q hq).2 hd, (hdd q' hq').2 (h.dd.1 hd)]
    · have hd' : ¬ Dd t q' := fun h2 => hd (h.dd.2 h2)
      have h0 := h []
      rw [La_nil, La_nil, accq, accq, gB, gB, Int.toNat_natCast, Int.toNat_natCast, decide_eq_true (by omega), decide_eq_true (by omega), Bool.true_and, Bool.true_and] at h0
      rw [hat q hq, hat q' hq', (hlv q hq).2 hd, (hlv q' hq').2 hd', h0]
  · by_cases hd : Dd t q
    · have hd' : Dd t q' := (hdd q' hq').1 (by rw [← h]; exact (hdd q hq).2 hd)
      rw [hacc q hq hd, hacc q' hq' hd']
    · have hd' : ¬ Dd t q' := fun h2 => hd ((hdd q hq).1 (by rw [h]; exact (hdd q' hq').2 h2))
      rw [hat q hq, hat q' hq', (hlv q hq).2 hd, (hlv q' hq').2 hd'] at h
      simp only [Bool.true_eq_false, if_false] at h
      cases h1 : t.acc.getD q false <;> cases h2 : t.acc.getD q' false <;> rw [h1, h2] at h <;> first | rfl | (simp at h)
theorem parF_good : ∀ (k : Nat) (c : List Int) (cnt : Nat), Crs n t c → (∀ j, j < cnt → ((j : Nat) : Int) ∈ c) → n + 1 ≤ k + cnt → 0 < k → Good n t (parF t k c cnt)
  | 0, c, cnt, _, _, _, h => by omega
  | k + 1, c, cnt, hc, hm, hk, _ => by
    rw [parF]
    split
    · rename_i he
      exact ref_good ht hc hm he
    · rename_i hne
      have h1 := ref_ge t c (by rw [hc.len, ht.rows]) hm
      have h2 := ref_le t c
      rw [ht.rows] at h2
      have hok := refN_ok t c t.next.length
      exact parF_good k _ _ (ref_crs ht hc) hok.met (by omega) (by omega)
theorem parS_good : Good n t (parS t) := parF_good ht _ _ _ (cls0_crs ht) (fun j h => by omega) (by rw [ht.rows]; omega) (by omega)
end
def parK (t : Tb) : Nat → List Int → Nat → Nat
  | 0, _, cnt => cnt
  | k + 1, c, cnt => if (ref t c).2.length = cnt then cnt else parK t k (ref t c).1 (ref t c).2.length
def cntS (t : Tb) : Nat := parK t (t.next.length + 2) (cls0 t) 0
theorem parK_ge (t : Tb) : ∀ (k : Nat) (c : List Int) (cnt : Nat), c.length = t.next.length → (∀ j, j < cnt → ((j : Nat) : Int) ∈ c) → cnt ≤ parK t k c cnt
  | 0, _, _, _, _ => Nat.le_refl _
  | k + 1, c, cnt, hl, hm => by
    rw [parK]
    split
    · exact Nat.le_refl _
    · have h1 := ref_ge t c hl hm
      exact Nat.le_trans h1 (parK_ge t k _ _ (ref_len t c) (refN_ok t c t.next.length).met)
theorem parK_rng (t : Tb) : ∀ (k : Nat) (c : List Int) (cnt : Nat), c.length = t.next.length → (∀ j, j < cnt → ((j : Nat) : Int) ∈ c) → t.next.length + 1 ≤ k + cnt → 0 < k → (∀ x ∈ parF t k c cnt, x < (parK t k c cnt : Int)) ∧ (∀ j, j < parK t k c cnt → ((j : Nat) : Int) ∈ parF t k c cnt) ∧ parK t k c cnt ≤ t.next.length
  | 0, _, _, _, _, _, h => by omega
  | k + 1, c, cnt, hl, hm, hk, _ => by
    have h1 := ref_ge t c hl hm
    have h2 := ref_le t c
    have hok := refN_ok t c t.next.length
    rw [parK, parF]
    by_cases he : (ref t c).2.length = cnt
    · rw [if_pos he, if_pos he]
      refine ⟨fun x hx => ?_, fun j hj => hok.met j (by rw [← he] at hj; exact hj), by omega⟩
      have := (hok.rng x hx).2
      rw [show refN t c t.next.length = ref t c from rfl, he] at this
      exact this
    · rw [if_neg he, if_neg he]
      exact parK_rng t k _ _ (ref_len t c) hok.met (by omega) (by omega)
theorem cntS_rng (t : Tb) : (∀ x ∈ parS t, x < (cntS t : Int)) ∧ (∀ j, j < cntS t → ((j : Nat) : Int) ∈ parS t) ∧ cntS t ≤ t.next.length :=
  parK_rng t _ _ _ (by simp [cls0]) (fun j h => by omega) (by omega) (by omega)
end Go.Proofs.Ytkjffppioddnpaa

/- Chapter 42: the minimal table depends on the language alone (plain). -/
set_option maxRecDepth 100000
set_option maxHeartbeats 4000000
set_option linter.all false
namespace Go.Proofs.Ytkjffppioddnpaa
open Go.Vm
theorem idx_sim {a b : Int} : ∀ {l l' : List Int}, l.length = l'.length → (∀ i, i < l.length → (l.getD i 0 = a ↔ l'.getD i 0 = b)) → idxI a l = idxI b l'
  | [], [], _, _ => rfl
  | [], _ :: _, h, _ => by simp at h
  | _ :: _, [], h, _ => by simp at h
  | x :: l, y :: l', h, hi => by
    have h0 := hi 0 (by simp)
    simp only [List.getD_cons_zero] at h0
    have ih := idx_sim (l := l) (l' := l') (by simpa using h) (fun i hl => by simpa using hi (i + 1) (by simpa using hl))
    simp only [idxI]
    by_cases e : a = x
    · rw [if_pos e, if_pos (h0.1 e.symm).symm]
    · rw [if_neg e, if_neg (fun e2 => e (h0.2 e2.symm).symm), ih]
theorem mr_cond {c : List Int} {x : Int} : (x < 0 ∨ gI c x < 0) ↔ clx c x < 0 := by
  rw [clx]
  by_cases h : 0 ≤ x
  · rw [if_pos h]; omega
  · rw [if_neg h]; omega
theorem clx_gI {c : List Int} {x : Int} (h : 0 ≤ x) : clx c x = gI c x := by rw [clx, if_pos h]
theorem getD_map {c : List Int} {o : List Int} {i : Nat} (hi : i < o.length) : (o.map (gI c)).getD i 0 = gI c (o.getD i 0) := by
  rw [lgetD (by rw [List.length_map]; exact hi), lgetD hi, List.getElem_map]
theorem getD_mem {o : List Int} {i : Nat} (hi : i < o.length) : o.getD i 0 ∈ o := by
  rw [lgetD hi]; exact List.getElem_mem _
theorem getD_left {o : List Int} {y : Int} {i : Nat} (hi : i < o.length) : (o ++ [y]).getD i 0 = o.getD i 0 := by
  rw [List.getD_eq_getElem?_getD, List.getD_eq_getElem?_getD, List.getElem?_append_left hi]
theorem getD_last {o : List Int} {y : Int} : (o ++ [y]).getD o.length 0 = y := by
  rw [List.getD_eq_getElem?_getD, List.getElem?_append_right (Nat.le_refl _), Nat.sub_self]; rfl
section
variable {n n' m : Nat} {t t' : Tb} (ht : okT n m t) (ht' : okT n' m t') {c c' : List Int} (hc : Good n t c) (hc' : Good n' t' c')
include ht ht' hc hc'
def Sim (t t' : Tb) (o o' : List Int) : Prop := o.length = o'.length ∧ ∀ i, i < o.length → Eq2 t (o.getD i 0) t' (o'.getD i 0)
theorem mrI_sim {o o' r : List Int} (ho : Ook n c o) (ho' : Ook n' c' o') (hs : Sim t t' o o') {x x' : Int} (hx : -1 ≤ x ∧ x < (n : Int)) (hx' : -1 ≤ x' ∧ x' < (n' : Int)) (he : Eq2 t x t' x') :
    Sim t t' (mrI c x (o, r)).1 (mrI c' x' (o', r)).1 ∧ (mrI c x (o, r)).2 = (mrI c' x' (o', r)).2 := by
  have hdd : clx c x < 0 ↔ clx c' x' < 0 := by rw [hc.dd x hx.1 hx.2, hc'.dd x' hx'.1 hx'.2]; exact he.dd
  rw [mrI, mrI]
  by_cases h0 : clx c x < 0
  · rw [if_pos (mr_cond.2 h0), if_pos (mr_cond.2 (hdd.1 h0))]
    exact ⟨hs, rfl⟩
  · rw [if_neg (fun h => h0 (mr_cond.1 h)), if_neg (fun h => h0 (hdd.2 (mr_cond.1 h)))]
    have hx0 : 0 ≤ x := by
      by_cases h1 : 0 ≤ x
      · exact h1
      · rw [clx_neg (by omega)] at h0; omega
    have hx0' : 0 ≤ x' := by
      by_cases h1 : 0 ≤ x'
      · exact h1
      · exfalso; rw [hdd, clx_neg (by omega)] at h0; omega
    have hidx : idxI (gI c x) (o.map (gI c)) = idxI (gI c' x') (o'.map (gI c')) := by
      refine idx_sim (by simp [hs.1]) fun i hi => ?_
      rw [List.length_map] at hi
      have hi' : i < o'.length := by rw [← hs.1]; exact hi
      have hm := ho.rng _ (getD_mem hi)
      have hm' := ho'.rng _ (getD_mem hi')
      rw [getD_map hi, getD_map hi', ← clx_gI hm.1, ← clx_gI hm'.1, ← clx_gI hx0, ← clx_gI hx0', hc.eq _ _ (by omega) hm.2 hx.1 hx.2, hc'.eq _ _ (by omega) hm'.2 hx'.1 hx'.2]
      have h1 := hs.2 i hi
      exact ⟨fun h => h1.symm.trans (h.trans he), fun h => h1.trans (h.trans he.symm)⟩
    simp only [hidx]
    cases idxI (gI c' x') (o'.map (gI c')) with
    | some k => exact ⟨hs, rfl⟩
    | none =>
      simp only
      refine ⟨⟨by simp [hs.1], fun i hi => ?_⟩, by rw [hs.1]⟩
      by_cases hio : i < o.length
      · rw [getD_left hio, getD_left (by rw [← hs.1]; exact hio)]
        exact hs.2 i hio
      · have : i = o.length := by simp at hi; omega
        subst this
        rw [getD_last, hs.1, getD_last]
        exact he
theorem mrN_sim {o o' : List Int} (ho : Ook n c o) (ho' : Ook n' c' o') (hs : Sim t t' o o') {q q' : Nat} (hq : q < n) (hq' : q' < n') (he : Eq2 t q t' q') :
    ∀ j, j ≤ m → Sim t t' (mrN c (t.next.getD q []) o j).1 (mrN c' (t'.next.getD q' []) o' j).1 ∧ (mrN c (t.next.getD q []) o j).2 = (mrN c' (t'.next.getD q' []) o' j).2
  | 0, _ => ⟨hs, rfl⟩
  | j + 1, hj => by
    have ih := mrN_sim ho ho' hs hq hq' he j (by omega)
    have l1 := row_len ht hq
    have l2 := row_len ht' hq'
    have o1 := mrN_ok (n := n) (c := c) (row := t.next.getD q []) (fun x hx => (ht.rng _ (row_mem ht hq) x hx).2) ho j (by omega)
    have o2 := mrN_ok (n := n') (c := c') (row := t'.next.getD q' []) (fun x hx => (ht'.rng _ (row_mem ht' hq') x hx).2) ho' j (by omega)
    have e1 := suc_at ht hq (s := j) (by omega)
    have e2 := suc_at ht' hq' (s := j) (by omega)
    rw [mrN, mrN, ← e1, ← e2]
    generalize mrN c (t.next.getD q []) o j = s at ih o1
    generalize mrN c' (t'.next.getD q' []) o' j = s' at ih o2
    obtain ⟨a, r⟩ := s
    obtain ⟨a', r'⟩ := s'
    simp only at ih
    obtain ⟨ih1, rfl⟩ := ih
    exact mrI_sim ht ht' hc hc' o1 o2 ih1 (suc_rng ht ⟨by omega, by omega⟩) (suc_rng ht' ⟨by omega, by omega⟩) (he.suc j)
theorem minN_sim (h0 : Eq2 t 0 t' 0) : ∀ i, Sim t t' (minN t c i).order (minN t' c' i).order ∧ (minN t c i).rows = (minN t' c' i).rows ∧ (minN t c i).accs = (minN t' c' i).accs
  | 0 => ⟨⟨rfl, fun i hi => by
      have : i = 0 := by simp [minN] at hi; omega
      subst this
      exact h0⟩, rfl, rfl⟩
  | i + 1 => by
    obtain ⟨ih1, ih2, ih3⟩ := minN_sim h0 i
    have o1 := minN_ok ht (c := c) i
    have o2 := minN_ok ht' (c := c') i
    rw [minN, minN]
    generalize minN t c i = s at ih1 ih2 ih3 o1
    generalize minN t' c' i = s' at ih1 ih2 ih3 o2
    by_cases hi : i < s.order.length
    · have hi' : i < s'.order.length := by rw [← ih1.1]; exact hi
      have hq := o1.rng _ (getD_mem hi)
      have hq' := o2.rng _ (getD_mem hi')
      have he := ih1.2 i hi
      rw [minI, minI, List.getElem?_eq_getElem hi, List.getElem?_eq_getElem hi']
      rw [lgetD hi] at hq he
      rw [lgetD hi'] at hq' he
      simp only
      generalize s.order[i] = q at hq he
      generalize s'.order[i] = q' at hq' he
      obtain ⟨k, rfl⟩ : ∃ k : Nat, q = k := ⟨q.toNat, by omega⟩
      obtain ⟨k', rfl⟩ : ∃ k' : Nat, q' = k' := ⟨q'.toNat, by omega⟩
      rw [Int.toNat_natCast, Int.toNat_natCast, row_len ht (by omega), row_len ht' (by omega)]
      obtain ⟨h1, h2⟩ := mrN_sim ht ht' hc hc' o1 o2 ih1 (q := k) (q' := k') (by omega) (by omega) he m (Nat.le_refl _)
      refine ⟨h1, by rw [ih2, h2], ?_⟩
      have := he []
      rw [La_nil, La_nil, accq, accq, decide_eq_true (by omega), decide_eq_true (by omega), Bool.true_and, Bool.true_and] at this
      rw [ih3, this]
    · rw [minI_stop (by omega), minI_stop (by rw [← ih1.1]; omega)]
      exact ⟨ih1, ih2, ih3⟩
theorem minF_eq (h0 : Eq2 t 0 t' 0) : minF t c = minF t' c' := by
  have a1 := (minN_ok ht (c := c) n).len
  have a2 := (minN_ok ht' (c := c') n').len
  have e1 := minN_at (t := t) (c := c) (i := n) (j := max n n') a1 (by omega)
  have e2 := minN_at (t := t') (c := c') (i := n') (j := max n n') a2 (by omega)
  obtain ⟨_, h2, h3⟩ := minN_sim ht ht' hc hc' h0 (max n n')
  rw [minF, minF, ht.rows, ht'.rows, ← e1, ← e2, h2, h3]
end
def Ent (c o : List Int) (e x : Int) : Prop := (clx c x < 0 ∧ e = -1) ∨ (¬ clx c x < 0 ∧ ∃ k : Nat, e = (k : Int) ∧ k < o.length ∧ clx c (o.getD k 0) = clx c x)
theorem Ent.mono {c o r : List Int} {e x : Int} (h : Ent c o e x) : Ent c (o ++ r) e x := by
  rcases h with h | ⟨h1, k, h2, h3, h4⟩
  · exact .inl h
  · refine .inr ⟨h1, k, h2, by rw [List.length_append]; omega, ?_⟩
    rw [List.getD_eq_getElem?_getD, List.getElem?_append_left h3, ← List.getD_eq_getElem?_getD]
    exact h4
structure Miv (m : Nat) (t : Tb) (c : List Int) (i : Nat) (s : Ms) : Prop where
  acs : s.accs.length = s.rows.length
  cnt : (s.rows.length = i ∧ i ≤ s.order.length) ∨ (s.rows.length = s.order.length ∧ s.order.length ≤ i)
  row : ∀ k, k < s.rows.length → (s.rows.getD k []).length = m
  ent : ∀ k, k < s.rows.length → ∀ j, j < m → Ent c s.order (gI (s.rows.getD k []) j) (suc t (s.order.getD k 0) j)
  acc : ∀ k, k < s.rows.length → s.accs.getD k false = gB t.acc (s.order.getD k 0)
  fst : s.order.getD 0 0 = 0 ∧ 0 < s.order.length
  liv : ∀ k, k < s.order.length → 0 < k → ¬ clx c (s.order.getD k 0) < 0
section
variable {n m : Nat} {t : Tb} (ht : okT n m t) {c : List Int}
include ht
theorem mrN_ent {o : List Int} (ho : Ook n c o) {q : Nat} (hq : q < n) : ∀ j, j ≤ m → ∀ u, u < j → Ent c (mrN c (t.next.getD q []) o j).1 (gI (mrN c (t.next.getD q []) o j).2 u) (suc t q u)
  | 0, _, u, h => by omega
  | j + 1, hj, u, hu => by
    have ih := fun hu' => mrN_ent ho hq j (by omega) u hu'
    have hl := mrN_len c (t.next.getD q []) o j
    have l1 := row_len ht hq
    have o1 := mrN_ok (n := n) (c := c) (row := t.next.getD q []) (fun x hx => (ht.rng _ (row_mem ht hq) x hx).2) ho j (by omega)
    have e1 := suc_at ht hq (s := j) (by omega)
    rw [mrN, ← e1]
    generalize mrN c (t.next.getD q []) o j = s at ih hl o1
    obtain ⟨a, r⟩ := s
    simp only at ih hl o1
    have hlt : ∀ y : Int, u < j → gI (r ++ [y]) u = gI r u := fun y h => by
      rw [gI, gI, Int.toNat_natCast]; exact getD_left (by omega)
    have heq : ∀ y : Int, u = j → gI (r ++ [y]) u = y := fun y h => by
      rw [gI, Int.toNat_natCast, h, ← hl]; exact getD_last
    have hx := suc_rng ht (q := q) (s := j) ⟨by omega, by omega⟩
    rw [mrI]
    by_cases h0 : clx c (suc t q j) < 0
    · rw [if_pos (mr_cond.2 h0)]
      simp only
      by_cases huj : u < j
      · rw [hlt _ huj]; exact ih huj
      · rw [heq _ (by omega), show u = j from by omega]
        exact .inl ⟨h0, rfl⟩
    · rw [if_neg (fun h => h0 (mr_cond.1 h))]
      have hx0 : 0 ≤ suc t q j := by
        by_cases h1 : 0 ≤ suc t q j
        · exact h1
        · rw [clx_neg (by omega)] at h0; omega
      cases hi : idxI (gI c (suc t q j)) (a.map (gI c)) with
      | some k =>
        simp only
        by_cases huj : u < j
        · rw [hlt _ huj]; exact ih huj
        · rw [heq _ (by omega), show u = j from by omega]
          have h2 := idxI_some hi
          have hk := (List.getElem?_eq_some_iff.1 h2).1
          rw [List.length_map] at hk
          refine .inr ⟨h0, k, rfl, hk, ?_⟩
          have h3 := (o1.rng _ (getD_mem hk)).1
          rw [clx_gI h3, clx_gI hx0, ← getD_map hk, List.getD_eq_getElem?_getD, h2]; rfl
      | none =>
        simp only
        by_cases huj : u < j
        · rw [hlt _ huj]; exact (ih huj).mono
        · rw [heq _ (by omega), show u = j from by omega]
          refine .inr ⟨h0, a.length, rfl, by simp, ?_⟩
          rw [getD_last]
theorem mrN_liv {o : List Int} (ho : Ook n c o) {row : List Int} (hr : ∀ x ∈ row, x < (n : Int)) (h : ∀ k, k < o.length → 0 < k → ¬ clx c (o.getD k 0) < 0) (hp : 0 < o.length) : ∀ j, j ≤ row.length → ∀ k, k < (mrN c row o j).1.length → 0 < k → ¬ clx c ((mrN c row o j).1.getD k 0) < 0
  | 0, _, k, hk, h0 => h k hk h0
  | j + 1, hj, k, hk, h0 => by
    have ih := mrN_liv ho hr h hp j (by omega)
    rw [mrN] at hk ⊢
    generalize mrN c row o j = s at ih hk
    obtain ⟨a, r⟩ := s
    simp only at ih
    rw [mrI] at hk ⊢
    by_cases h1 : clx c (gI row j) < 0
    · rw [if_pos (mr_cond.2 h1)] at hk ⊢
      exact ih k hk h0
    · rw [if_neg (fun h => h1 (mr_cond.1 h))] at hk ⊢
      cases hi : idxI (gI c (gI row j)) (a.map (gI c)) with
      | some u => rw [hi] at hk; simp only at hk ⊢; exact ih k hk h0
      | none =>
        rw [hi] at hk
        simp only at hk ⊢
        by_cases hka : k < a.length
        · rw [getD_left hka]; exact ih k hka h0
        · have : k = a.length := by simp at hk; omega
          rw [this, getD_last]
          exact h1
theorem minN_inv : ∀ i, Miv m t c i (minN t c i)
  | 0 => ⟨rfl, .inl ⟨rfl, Nat.zero_le _⟩, fun k h => by simp [minN] at h, fun k h => by simp [minN] at h, fun k h => by simp [minN] at h, ⟨rfl, Nat.one_pos⟩, fun k h h0 => by simp [minN] at h; omega⟩
  | i + 1 => by
    have ih := minN_inv i
    have o1 := minN_ok ht (c := c) i
    rw [minN]
    generalize minN t c i = s at ih o1
    obtain ⟨o, rows, accs⟩ := s
    simp only at o1
    have i1 := ih.acs
    have i2 := ih.cnt
    have i6 := ih.fst
    simp only at i1 i2 i6
    by_cases hi : i < o.length
    · have hq := o1.rng _ (getD_mem hi)
      have hri : rows.length = i := by omega
      rw [lgetD hi] at hq
      rw [minI, List.getElem?_eq_getElem hi]
      simp only
      have hgi : o.getD i 0 = o[i] := lgetD hi
      generalize o[i] = q at hq hgi
      obtain ⟨k, rfl⟩ : ∃ k : Nat, q = k := ⟨q.toNat, by omega⟩
      have hkn : k < n := by omega
      rw [Int.toNat_natCast, row_len ht hkn]
      have hen := mrN_ent ht o1 hkn m (Nat.le_refl _)
      have hlv := mrN_liv ht o1 (row := t.next.getD k []) (fun x hx => (ht.rng _ (row_mem ht hkn) x hx).2) ih.liv i6.2 m (by rw [row_len ht hkn]; exact Nat.le_refl _)
      have hlen := mrN_len c (t.next.getD k []) o m
      obtain ⟨r, hr⟩ := mrN_pre c (t.next.getD k []) o m
      have hgo : ∀ u, u < o.length → (mrN c (t.next.getD k []) o m).1.getD u 0 = o.getD u 0 := fun u hu => by
        rw [hr, List.getD_eq_getElem?_getD, List.getElem?_append_left hu, ← List.getD_eq_getElem?_getD]
      have hml : o.length ≤ (mrN c (t.next.getD k []) o m).1.length := by rw [hr, List.length_append]; omega
      have hrow : ∀ u, u < rows.length + 1 → (rows ++ [(mrN c (t.next.getD k []) o m).2]).getD u [] = if u < rows.length then rows.getD u [] else (mrN c (t.next.getD k []) o m).2 := fun u hu => by
        rw [List.getD_eq_getElem?_getD]
        split
        · rename_i h; rw [List.getElem?_append_left h, ← List.getD_eq_getElem?_getD]
        · rename_i h; rw [List.getElem?_append_right (by omega), show u - rows.length = 0 from by omega]; rfl
      refine ⟨by simp [i1], .inl ⟨by simp only [List.length_append, List.length_singleton]; omega, by simp only; omega⟩, fun u hu => ?_, fun u hu j hj => ?_, fun u hu => ?_, ⟨by simp only; rw [hgo 0 i6.2]; exact i6.1, by simp only; omega⟩, hlv⟩
      · simp only [List.length_append, List.length_singleton] at hu
        simp only
        rw [hrow u hu]
        split
        · rename_i h; exact ih.row u h
        · exact hlen
      · simp only [List.length_append, List.length_singleton] at hu
        simp only
        rw [hrow u hu, hgo u (by omega)]
        split
        · rename_i h
          rw [hr]
          exact (ih.ent u h j hj).mono
        · rename_i h
          rw [show u = i from by omega, hgi]
          exact hen j hj
      · simp only [List.length_append, List.length_singleton] at hu
        simp only
        rw [hgo u (by omega), List.getD_eq_getElem?_getD]
        by_cases h : u < rows.length
        · rw [List.getElem?_append_left (by omega), ← List.getD_eq_getElem?_getD]
          exact ih.acc u h
        · rw [List.getElem?_append_right (by omega), show u - accs.length = 0 from by omega, show u = i from by omega, hgi]
          rfl
    · rw [minI_stop (by simp only; omega)]
      exact ⟨ih.acs, .inr ⟨by simp only; omega, by simp only; omega⟩, ih.row, ih.ent, ih.acc, ih.fst, ih.liv⟩
theorem minF_ord : ∃ o : List Int, Ook n c o ∧ o.getD 0 0 = 0 ∧ 0 < o.length ∧ (minF t c).next.length = o.length ∧ (minF t c).acc.length = o.length ∧
    (∀ k, k < o.length → ((minF t c).next.getD k []).length = m) ∧ (∀ k, k < o.length → ∀ j, j < m → Ent c o (gI ((minF t c).next.getD k []) j) (suc t (o.getD k 0) j)) ∧
    (∀ k, k < o.length → (minF t c).acc.getD k false = gB t.acc (o.getD k 0)) ∧ (∀ k, k < o.length → 0 < k → ¬ clx c (o.getD k 0) < 0) := by
  have hi := minN_inv ht (c := c) n
  have ho := minN_ok ht (c := c) n
  have hl := ho.len
  have h2 := hi.cnt
  have hr : (minN t c n).rows.length = (minN t c n).order.length := by omega
  rw [minF, ht.rows]
  have h1 := hi.acs
  refine ⟨(minN t c n).order, ho, hi.fst.1, hi.fst.2, hr, by simp only; omega, ?_, ?_, ?_, hi.liv⟩
  · rw [← hr]; exact hi.row
  · rw [← hr]; exact hi.ent
  · rw [← hr]; exact hi.acc
theorem minF_ok : okT (minF t c).next.length m (minF t c) ∧ (minF t c).next.length ≤ n := by
  obtain ⟨o, h1, h2, h3, h4, h5, h6, h7, _⟩ := minF_ord ht (c := c)
  have hl := h1.len
  have hb := ht.big
  refine ⟨⟨rfl, by rw [h5, h4], fun r hr => ?_, fun r hr x hx => ?_, by omega, by omega, ht.cols, ht.col1⟩, by omega⟩
  · obtain ⟨k, hk, e⟩ := List.getElem_of_mem hr
    have := h6 k (by omega)
    rwa [lgetD hk, e] at this
  · obtain ⟨k, hk, e⟩ := List.getElem_of_mem hr
    have hm := h6 k (by omega)
    rw [lgetD hk, e] at hm
    obtain ⟨j, hj, e2⟩ := List.getElem_of_mem hx
    have := h7 k (by omega) j (by omega)
    rw [lgetD hk, e, gI, Int.toNat_natCast, lgetD hj, e2] at this
    rcases this with ⟨_, h⟩ | ⟨_, u, h, hu, _⟩
    · omega
    · omega
theorem minF_cnt (hc : Good n t (parS t)) (hreach : ∀ q : Nat, q < n → ∃ l, runA t 0 l = (q : Int)) : (Dd t 0 → cntS t = 0) ∧ (¬ Dd t 0 → (minF t (parS t)).next.length = cntS t) := by
  obtain ⟨o, h1, h2, h3, h4, h5, h6, h7, h8, h9⟩ := minF_ord ht (c := parS t)
  obtain ⟨k1, k2, k3⟩ := cntS_rng t
  have hpl := parS_len t
  rw [ht.rows] at hpl
  have hval : ∀ k, k < cntS t → ∃ q : Nat, q < n ∧ clx (parS t) q = (k : Int) := fun k hk => by
    obtain ⟨q, hq, e⟩ := List.getElem_of_mem (k2 k hk)
    exact ⟨q, by omega, by rw [clx_nat, lgetD hq, e]⟩
  constructor
  · intro hd
    by_cases h0 : cntS t = 0
    · exact h0
    · exfalso
      obtain ⟨q, hq, e⟩ := hval 0 (by omega)
      obtain ⟨l, hl⟩ := hreach q hq
      have : Dd t q := fun l2 => by
        have := hd (l ++ l2)
        rw [La, runA, List.foldl_append] at this
        rw [La, ← hl]
        exact this
      have := (hc.dd q (by omega) (by omega)).2 this
      omega
  · intro hd
    rw [h4]
    have hliv : ∀ k, k < o.length → ¬ clx (parS t) (o.getD k 0) < 0 := fun k hk => by
      by_cases h0 : 0 < k
      · exact h9 k hk h0
      · rw [show k = 0 from by omega, h2]
        intro h
        have := ht.pos
        exact hd ((hc.dd 0 (by omega) (by omega)).1 h)
    have hle : o.length ≤ cntS t := by
      have := nat_len (N := cntS t) (l := (o.map (gI (parS t))).map Int.toNat) (by
        have hn := h1.apart
        have hp : ∀ x ∈ o.map (gI (parS t)), 0 ≤ x := fun x hx => by
          obtain ⟨y, hy, rfl⟩ := List.mem_map.1 hx
          obtain ⟨k, hk, e⟩ := List.getElem_of_mem hy
          have := hliv k hk
          have hr := (h1.rng y hy).1
          rw [lgetD hk, e, clx_gI hr] at this
          omega
        generalize o.map (gI (parS t)) = L at hn hp
        induction L with
        | nil => simp
        | cons x r ih =>
          rw [List.nodup_cons] at hn
          rw [List.map_cons, List.nodup_cons]
          refine ⟨fun hm => ?_, ih hn.2 (fun y hy => hp y (by simp [hy]))⟩
          obtain ⟨y, hy, e⟩ := List.mem_map.1 hm
          have hy0 := hp y (by simp [hy])
          have hx0 := hp x (by simp)
          exact hn.1 ((show y = x from by omega) ▸ hy)) (fun k hk => by
        obtain ⟨x, hx, rfl⟩ := List.mem_map.1 hk
        obtain ⟨y, hy, rfl⟩ := List.mem_map.1 hx
        obtain ⟨u, hu, e⟩ := List.getElem_of_mem hy
        have hr := h1.rng y hy
        have hl := hliv u hu
        rw [lgetD hu, e, clx_gI hr.1] at hl
        have hyl : y.toNat < (parS t).length := by omega
        have := k1 (gI (parS t) y) (by rw [gI, lgetD hyl]; exact List.getElem_mem _)
        omega)
      simpa using this
    have hge : cntS t ≤ o.length := by
      have hall : ∀ (l : List Int), ¬ Dd t (runA t 0 l) → ∃ k, k < o.length ∧ clx (parS t) (o.getD k 0) = clx (parS t) (runA t 0 l) := by
        have hgen : ∀ (l : List Int) (k : Nat), k < o.length → ∀ x : Int, -1 ≤ x ∧ x < (n : Int) → clx (parS t) (o.getD k 0) = clx (parS t) x → ¬ Dd t (runA t x l) → ∃ k, k < o.length ∧ clx (parS t) (o.getD k 0) = clx (parS t) (runA t x l) := by
          intro l
          induction l with
          | nil => intro k hk x _ he _; exact ⟨k, hk, he⟩
          | cons s l ih =>
            intro k hk x hx he hnd
            have hr := h1.rng _ (getD_mem hk)
            have hx2 := suc_rng ht (q := x) (s := s) hx
            have hnx : ¬ Dd t (suc t x s) := fun hd2 => hnd (by
              intro l2
              have := hd2 (l ++ l2)
              rw [La, runA, List.foldl_append] at this
              exact this)
            have heq := (hc.eq _ _ (by omega) hr.2 hx.1 hx.2).1 he
            have hsm : 0 ≤ s ∧ s < (m : Int) := by
              by_cases h : 0 ≤ s ∧ s < (m : Int)
              · exact h
              · exfalso
                rw [suc_out ht hx.2 (by omega)] at hnx
                exact hnx (Dd.neg (by decide))
            obtain ⟨j, rfl⟩ : ∃ j : Nat, s = j := ⟨s.toNat, by omega⟩
            have hy := suc_rng ht (q := o.getD k 0) (s := (j : Int)) ⟨by omega, hr.2⟩
            rcases h7 k hk j (by omega) with ⟨h, _⟩ | ⟨_, u, _, hu, he2⟩
            · exact absurd ((heq.suc j).dd.1 ((hc.dd _ hy.1 hy.2).1 h)) hnx
            · exact ih u hu (suc t x j) hx2 (he2.trans ((hc.eq _ _ hy.1 hy.2 hx2.1 hx2.2).2 (heq.suc j))) hnd
        intro l hnd
        have := ht.pos
        exact hgen l 0 h3 0 ⟨by omega, by omega⟩ (by rw [h2]) hnd
      have := len_sub (L := (List.range (cntS t)).map fun (k : Nat) => (k : Int)) (D := o.map (clx (parS t))) (map_nodup (fun a b e => by omega) List.nodup_range) (fun x hx => by
        obtain ⟨k, hk, rfl⟩ := List.mem_map.1 hx
        rw [List.mem_range] at hk
        obtain ⟨q, hq, e⟩ := hval k hk
        obtain ⟨l, hl⟩ := hreach q hq
        have hnd : ¬ Dd t (runA t 0 l) := by
          rw [hl]
          intro h
          have := (hc.dd q (by omega) (by omega)).2 h
          omega
        obtain ⟨u, hu, he⟩ := hall l hnd
        rw [hl, e] at he
        exact List.mem_map.2 ⟨_, getD_mem hu, he⟩)
      simpa using this
    omega
end
theorem minS_eq {n n' m : Nat} {t t' : Tb} (ht : okT n m t) (ht' : okT n' m t') (h : Eq2 t 0 t' 0) : minS t = minS t' := minF_eq ht ht' (parS_good ht) (parS_good ht') h
theorem minS_ok {n m : Nat} {t : Tb} (ht : okT n m t) : okT (minS t).next.length m (minS t) ∧ (minS t).next.length ≤ n := minF_ok ht
end Go.Proofs.Ytkjffppioddnpaa

/- Chapter 42: what Build answers, in plain terms. -/
set_option maxRecDepth 100000
set_option maxHeartbeats 4000000
set_option linter.all false
namespace Go.Proofs.Ytkjffppioddnpaa
open Go.Vm
end Go.Proofs.Ytkjffppioddnpaa

/- Chapter 41: the lists that an expression matches, in plain terms. -/
set_option maxRecDepth 100000
set_option maxHeartbeats 4000000
set_option linter.all false
namespace Go.Proofs.Ytkjffppioddnpaa
open Go.Vm
inductive Star (L : List Int → Prop) : List Int → Prop
  | nil : Star L []
  | app {u v : List Int} : L u → Star L v → Star L (u ++ v)
theorem Star.one {L : List Int → Prop} {u : List Int} (h : L u) : Star L u := by
  have := Star.app h Star.nil
  rwa [List.append_nil] at this
theorem Star.cat {L : List Int → Prop} {u v : List Int} (h : Star L u) (h2 : Star L v) : Star L (u ++ v) := by
  induction h with
  | nil => exact h2
  | app hu _ ih => rw [List.append_assoc]; exact .app hu ih
theorem Star.mono {L L' : List Int → Prop} (h : ∀ w, L w → L' w) {w : List Int} (hw : Star L w) : Star L' w := by
  induction hw with
  | nil => exact .nil
  | app hu _ ih => exact .app (h _ hu) ih
theorem Star.last {L : List Int → Prop} {w : List Int} (h : Star L w) : w = [] ∨ ∃ u v, w = u ++ v ∧ Star L u ∧ L v ∧ v ≠ [] := by
  induction h with
  | nil => exact .inl rfl
  | @app u v hu hv ih =>
    rcases ih with rfl | ⟨a, b, rfl, ha, hb, hn⟩
    · cases u with
      | nil => exact .inl rfl
      | cons x u => exact .inr ⟨[], x :: u, by simp, .nil, hu, List.cons_ne_nil _ _⟩
    · exact .inr ⟨u ++ a, b, by rw [List.append_assoc], .app hu ha, hb, hn⟩
theorem Star.first {L : List Int → Prop} {w : List Int} (h : Star L w) : w = [] ∨ ∃ u v, w = u ++ v ∧ L u ∧ Star L v ∧ u ≠ [] := by
  induction h with
  | nil => exact .inl rfl
  | @app u v hu hv ih =>
    cases u with
    | nil => exact ih
    | cons x u => exact .inr ⟨x :: u, v, rfl, hu, hv, List.cons_ne_nil _ _⟩
def Mt : Pr → List Int → Prop
  | .leaf x, w => if x.op = 1 then w = [] else if x.op = 2 then w.length = 1 else w = [nN x]
  | .un _ p, w => Star (Mt p) w
  | .bin x p q, w => if x.op = 5 then Mt p w ∨ Mt q w else ∃ u v, w = u ++ v ∧ Mt p u ∧ Mt q v
def part (l : List Int) (i k : Nat) : List Int := (l.drop i).take (k - i)
end Go.Proofs.Ytkjffppioddnpaa

/- Chapter 42: the automaton of partial derivatives accepts what the expression matches (plain). -/
set_option maxRecDepth 100000
set_option maxHeartbeats 4000000
set_option linter.all false
namespace Go.Proofs.Ytkjffppioddnpaa
open Go.Vm
def MN : Nx → List Int → Prop
  | .eps, w => w = []
  | .any, w => w.length = 1
  | .one n, w => w = [n]
  | .star a, w => Star (MN a) w
  | .cat a b, w => ∃ u v, w = u ++ v ∧ MN a u ∧ MN b v
  | .alt a b, w => MN a w ∨ MN b w
theorem MN_nx (sw : Int) : ∀ (p : Pr) (w : List Int), okP sw p → (MN (nxP p) w ↔ Mt p w)
  | .leaf x, w, hp => by
    rw [nxP, Mt]
    by_cases h1 : x.op = 1
    · rw [if_pos h1, if_pos h1, MN]
    · by_cases h2 : x.op = 2
      · rw [if_neg h1, if_neg h1, if_pos h2, if_pos h2, MN]
      · have h3 : x.op = 3 := by have := hp.1; omega
        rw [if_neg h1, if_neg h1, if_neg h2, if_neg h2, MN, nN, if_pos h3]
  | .un x p, w, hp => by
    have ih := fun w => MN_nx sw p w hp.2
    rw [nxP, Mt, MN]
    exact ⟨fun h => h.mono fun w hw => (ih w).1 hw, fun h => h.mono fun w hw => (ih w).2 hw⟩
  | .bin x p q, w, hp => by
    have ih1 := fun w => MN_nx sw p w hp.2.1
    have ih2 := fun w => MN_nx sw q w hp.2.2
    rw [nxP, Mt]
    by_cases h5 : x.op = 5
    · rw [if_pos h5, if_neg (by omega), MN, ih1, ih2]
    · have h4 : x.op = 4 := by have := hp.1; omega
      rw [if_neg h5, if_pos h4, MN]
      constructor
      · rintro ⟨u, v, e, h1, h2⟩
        exact ⟨u, v, e, (ih1 u).1 h1, (ih2 v).1 h2⟩
      · rintro ⟨u, v, e, h1, h2⟩
        exact ⟨u, v, e, (ih1 u).2 h1, (ih2 v).2 h2⟩
theorem nul_iff : ∀ x : Nx, nul x = true ↔ MN x []
  | .eps => by simp [nul, MN]
  | .any => by simp [nul, MN]
  | .one n => by simp [nul, MN]
  | .star a => by
    rw [nul, MN]
    exact ⟨fun _ => .nil, fun _ => rfl⟩
  | .cat a b => by
    have h1 := nul_iff a
    have h2 := nul_iff b
    rw [nul, MN, Bool.and_eq_true, h1, h2]
    constructor
    · rintro ⟨h1, h2⟩; exact ⟨[], [], rfl, h1, h2⟩
    · rintro ⟨u, v, e, h1, h2⟩
      have e := e.symm
      rw [List.append_eq_nil_iff] at e
      obtain ⟨rfl, rfl⟩ := e
      exact ⟨h1, h2⟩
  | .alt a b => by
    have h1 := nul_iff a
    have h2 := nul_iff b
    rw [nul, MN, Bool.or_eq_true, h1, h2]
theorem seq_iff {d b : Nx} {w : List Int} : MN (seqA d b) w ↔ ∃ u v, w = u ++ v ∧ MN d u ∧ MN b v := by
  rw [seqA]
  split
  · rename_i h
    subst h
    constructor
    · intro h; exact ⟨[], w, rfl, rfl, h⟩
    · rintro ⟨u, v, rfl, h1, h2⟩
      rw [MN] at h1
      subst h1
      exact h2
  · rw [MN]
theorem drv_iff (s : Int) : ∀ (x : Nx) (w : List Int), MN x (s :: w) ↔ ∃ y ∈ drv s x, MN y w
  | .eps, w => by simp [MN, drv]
  | .any, w => by simp [MN, drv]
  | .one n, w => by
    rw [MN, drv]
    split
    · rename_i h
      subst h
      simp [MN]
    · rename_i h
      constructor
      · intro e
        injection e with e1 e2
        exact absurd e1.symm h
      · rintro ⟨y, hy, _⟩
        cases hy
  | .star a, w => by
    have ih := drv_iff s a
    rw [drv]
    constructor
    · intro h
      rw [MN] at h
      rcases h.first with h | ⟨u, v, e, hu, hv, hn⟩
      · cases h
      · cases u with
        | nil => exact absurd rfl hn
        | cons c u =>
          injection e with e1 e2
          subst e1
          obtain ⟨y, hy, hm⟩ := (ih u).1 hu
          exact ⟨_, List.mem_map_of_mem hy, seq_iff.2 ⟨u, v, e2, hm, by rw [MN]; exact hv⟩⟩
    · rintro ⟨y, hy, hm⟩
      obtain ⟨d, hd, rfl⟩ := List.mem_map.1 hy
      obtain ⟨u, v, rfl, h1, h2⟩ := seq_iff.1 hm
      rw [MN] at h2 ⊢
      rw [← List.cons_append]
      exact .app ((ih u).2 ⟨d, hd, h1⟩) h2
  | .cat a b, w => by
    have ih1 := drv_iff s a
    have ih2 := drv_iff s b
    rw [drv, MN]
    constructor
    · rintro ⟨u, v, e, hu, hv⟩
      cases u with
      | nil =>
        rw [List.nil_append] at e
        subst e
        obtain ⟨y, hy, hm⟩ := (ih2 w).1 hv
        refine ⟨y, List.mem_append.2 (.inr ?_), hm⟩
        rw [if_pos ((nul_iff a).2 hu)]
        exact hy
      | cons c u =>
        injection e with e1 e2
        subst e1
        obtain ⟨y, hy, hm⟩ := (ih1 u).1 hu
        exact ⟨_, List.mem_append.2 (.inl (List.mem_map_of_mem hy)), seq_iff.2 ⟨u, v, e2, hm, hv⟩⟩
    · rintro ⟨y, hy, hm⟩
      rcases List.mem_append.1 hy with hy | hy
      · obtain ⟨d, hd, rfl⟩ := List.mem_map.1 hy
        obtain ⟨u, v, rfl, h1, h2⟩ := seq_iff.1 hm
        exact ⟨s :: u, v, rfl, (ih1 u).2 ⟨d, hd, h1⟩, h2⟩
      · split at hy
        · rename_i hn
          exact ⟨[], s :: w, rfl, (nul_iff a).1 hn, (ih2 w).2 ⟨y, hy, hm⟩⟩
        · cases hy
  | .alt a b, w => by
    have ih1 := drv_iff s a w
    have ih2 := drv_iff s b w
    rw [drv, MN, ih1, ih2]
    constructor
    · rintro (⟨y, hy, h⟩ | ⟨y, hy, h⟩)
      · exact ⟨y, List.mem_append.2 (.inl hy), h⟩
      · exact ⟨y, List.mem_append.2 (.inr hy), h⟩
    · rintro ⟨y, hy, h⟩
      rcases List.mem_append.1 hy with hy | hy
      · exact .inl ⟨y, hy, h⟩
      · exact .inr ⟨y, hy, h⟩
def SL (L : List Nx) (set : W64) (w : List Int) : Prop := ∃ (i : Nat) (x : Nx), set.getLsbD i = true ∧ L[i]? = some x ∧ MN x w
def Pre (L L' : List Nx) : Prop := ∀ (i : Nat) (y : Nx), L[i]? = some y → L'[i]? = some y
theorem SL_mono {L L' : List Nx} (h : Pre L L') {set : W64} (hb : bitsIn set L.length) {w : List Int} : SL L set w ↔ SL L' set w := by
  constructor
  · rintro ⟨i, x, h1, h2, h3⟩
    exact ⟨i, x, h1, h i x h2, h3⟩
  · rintro ⟨i, x, h1, h2, h3⟩
    have hl := hb i h1
    have := h i _ (List.getElem?_eq_getElem hl)
    rw [h2] at this
    cases this
    exact ⟨i, _, h1, List.getElem?_eq_getElem hl, h3⟩
theorem num_at (L : List Nx) (x : Nx) : (num L x).1[(num L x).2]? = some x := by
  have aux : ∀ (L : List Nx) (k : Nat), idx x L = some k → L[k]? = some x := by
    intro L
    induction L with
    | nil => intro k h; simp [idx] at h
    | cons y r ih =>
      intro k h
      simp only [idx] at h
      split at h
      · rename_i e; cases h; simp [e]
      · rw [Option.map_eq_some_iff] at h
        obtain ⟨j, hj, rfl⟩ := h
        simpa using ih j hj
  unfold num
  split
  · rename_i k hk; exact aux _ _ hk
  · rw [List.getElem?_append_right (Nat.le_refl _), Nat.sub_self]; rfl
theorem addD_SL {s : Ds} {x : Nx} (hb : bitsIn s.2 s.1.length) (hk : (num s.1 x).2 < 64) {w : List Int} : SL (addD s x).1 (addD s x).2 w ↔ SL s.1 s.2 w ∨ MN x w := by
  have hbit : ∀ i, (addD s x).2.getLsbD i = true ↔ s.2.getLsbD i = true ∨ i = (num s.1 x).2 := fun i => by
    simp only [addD, BitVec.getLsbD_or, Bool.or_eq_true]
    constructor
    · rintro (h | h)
      · exact .inl h
      · right
        simp only [BitVec.getLsbD_shiftLeft, Bool.and_eq_true, decide_eq_true_eq, Bool.not_eq_true', decide_eq_false_iff_not] at h
        have := h.2
        rw [BitVec.getLsbD_one] at this
        simp at this
        omega
    · rintro (h | rfl)
      · exact .inl h
      · right
        simp only [BitVec.getLsbD_shiftLeft, Bool.and_eq_true, decide_eq_true_eq, Bool.not_eq_true', decide_eq_false_iff_not]
        refine ⟨⟨hk, by omega⟩, ?_⟩
        rw [Nat.sub_self]
        rfl
  rw [SL_mono (L' := (addD s x).1) (fun i y h => num_get h) hb]
  constructor
  · rintro ⟨i, y, h1, h2, h3⟩
    rcases (hbit i).1 h1 with h | rfl
    · exact .inl ⟨i, y, h, h2, h3⟩
    · rw [show (addD s x).1 = (num s.1 x).1 from rfl, num_at] at h2
      cases h2
      exact .inr h3
  · rintro (⟨i, y, h1, h2, h3⟩ | h)
    · exact ⟨i, y, (hbit i).2 (.inl h1), h2, h3⟩
    · exact ⟨_, x, (hbit _).2 (.inr rfl), num_at s.1 x, h⟩
theorem num_lt {D L : List Nx} (hD : Cls D) {x : Nx} (h : goodL D L) (hx : x ∈ D) : (num L x).2 < 64 := by
  have h1 := (List.getElem?_eq_some_iff.1 (num_at L x)).1
  have h2 := (num_good h hx).len
  have h3 := hD.len
  omega
theorem addL_SL {D : List Nx} (hD : Cls D) {w : List Int} : ∀ (l : List Nx) (s : Ds), goodL D s.1 → bitsIn s.2 s.1.length → (∀ y ∈ l, y ∈ D) → (SL (addL s l).1 (addL s l).2 w ↔ SL s.1 s.2 w ∨ ∃ y ∈ l, MN y w)
  | [], s, _, _, _ => by simp [addL]
  | x :: r, s, hg, hb, hl => by
    have hx := hl x (by simp)
    have := addL_SL hD (w := w) r (addD s x) (num_good hg hx) (num_bits hb) (fun y hy => hl y (by simp [hy]))
    rw [show addL s (x :: r) = addL (addD s x) r from rfl, this, addD_SL hb (num_lt hD hg hx)]
    constructor
    · rintro ((h | h) | ⟨y, hy, h⟩)
      · exact .inl h
      · exact .inr ⟨x, by simp, h⟩
      · exact .inr ⟨y, by simp [hy], h⟩
    · rintro (h | ⟨y, hy, h⟩)
      · exact .inl (.inl h)
      · rcases List.mem_cons.1 hy with rfl | hy
        · exact .inl (.inr h)
        · exact .inr ⟨y, hy, h⟩
theorem stepN_SL {D : List Nx} (hD : Cls D) {sw : Int} {set : W64} {L : List Nx} (hg : goodL D L) (hb : bitsIn set L.length) {w : List Int} : ∀ n,
    SL (stepN sw set n (L, 0#64)).1 (stepN sw set n (L, 0#64)).2 w ↔ ∃ i x, i < n ∧ set.getLsbD i = true ∧ L[i]? = some x ∧ MN x (sw :: w)
  | 0 => by
    simp only [stepN, SL]
    constructor
    · rintro ⟨i, x, h, _⟩; simp at h
    · rintro ⟨i, x, h, _⟩; omega
  | n + 1 => by
    have ih := stepN_SL hD (sw := sw) hg hb (w := w) n
    have hgn := stepN_good hD (sw := sw) (set := set) (s := (L, 0#64)) hg n
    have hbn := stepN_bits (sw := sw) (set := set) (s := (L, 0#64)) (fun i hi => by simp at hi) n
    have hget := fun i y h => stepN_get (sw := sw) (set := set) (s := (L, 0#64)) (i := i) (y := y) h n
    rw [stepN]
    generalize stepN sw set n (L, 0#64) = s at ih hgn hbn hget
    rw [stepI]
    by_cases hn : set.getLsbD n = true
    · rw [if_pos hn]
      have hl := hb n hn
      have hx := hget n _ (List.getElem?_eq_getElem hl)
      rw [hx]
      simp only
      rw [addL_SL hD _ _ hgn hbn (hD.clos _ (hgn.2 _ (List.mem_of_getElem? hx)) sw), ih, ← drv_iff]
      constructor
      · rintro (⟨i, x, h1, h2, h3, h4⟩ | h)
        · exact ⟨i, x, by omega, h2, h3, h4⟩
        · exact ⟨n, _, by omega, hn, List.getElem?_eq_getElem hl, h⟩
      · rintro ⟨i, x, h1, h2, h3, h4⟩
        by_cases e : i = n
        · subst e
          rw [List.getElem?_eq_getElem hl] at h3
          cases h3
          exact .inr h4
        · exact .inl ⟨i, x, by omega, h2, h3, h4⟩
    · rw [if_neg hn, ih]
      constructor
      · rintro ⟨i, x, h1, h2⟩; exact ⟨i, x, by omega, h2⟩
      · rintro ⟨i, x, h1, h2⟩
        refine ⟨i, x, ?_, h2⟩
        by_cases e : i = n
        · subst e; exact absurd h2.1 hn
        · omega
theorem stepS_SL {D : List Nx} (hD : Cls D) {sw : Int} {set : W64} {L : List Nx} (hg : goodL D L) (hb : bitsIn set L.length) {w : List Int} :
    SL (stepS sw set L).1 (stepS sw set L).2 w ↔ SL L set (sw :: w) := by
  rw [stepS, stepN_SL hD hg hb]
  constructor
  · rintro ⟨i, x, _, h⟩; exact ⟨i, x, h⟩
  · rintro ⟨i, x, h⟩
    refine ⟨i, x, ?_, h⟩
    by_cases e : i < 64
    · exact e
    · have := BitVec.getLsbD_of_ge set i (by omega)
      rw [this] at h
      exact absurd h.1 (by decide)
theorem stepS_pre {sw : Int} {set : W64} {L : List Nx} : Pre L (stepS sw set L).1 := fun _ _ h => stepN_get (s := (L, 0#64)) h 64
theorem Pre.trans {L L' L'' : List Nx} (h : Pre L L') (h' : Pre L' L'') : Pre L L'' := fun i y hy => h' i y (h i y hy)
theorem accI_iff {set : W64} : ∀ (L : List Nx) (i : Nat), accI set i L = true ↔ ∃ (j : Nat) (x : Nx), set.getLsbD (i + j) = true ∧ L[j]? = some x ∧ nul x = true
  | [], i => by simp [accI]
  | x :: r, i => by
    have ih := accI_iff (set := set) r (i + 1)
    rw [accI, Bool.or_eq_true, Bool.and_eq_true, ih]
    constructor
    · rintro (⟨h1, h2⟩ | ⟨j, y, h1, h2, h3⟩)
      · exact ⟨0, x, h1, rfl, h2⟩
      · exact ⟨j + 1, y, by rw [show i + (j + 1) = i + 1 + j from by omega]; exact h1, by simpa using h2, h3⟩
    · rintro ⟨j, y, h1, h2, h3⟩
      cases j with
      | zero =>
        simp only [List.getElem?_cons_zero, Option.some.injEq] at h2
        subst h2
        exact .inl ⟨h1, h3⟩
      | succ j =>
        exact .inr ⟨j, y, by rw [show i + 1 + j = i + (j + 1) from by omega]; exact h1, by simpa using h2, h3⟩
theorem accS_SL {set : W64} {L : List Nx} : accS set L = true ↔ SL L set [] := by
  rw [accS, accI_iff]
  simp only [Nat.zero_add, SL, nul_iff]
def EntD (L : List Nx) (sets : List W64) (set : W64) (e : Int) (j : Nat) : Prop :=
  (e = -1 ∧ ∀ w, ¬ SL L set ((j : Int) :: w)) ∨ ∃ (k : Nat) (y : W64), e = (k : Int) ∧ sets[k]? = some y ∧ ∀ w, SL L y w ↔ SL L set ((j : Int) :: w)
theorem EntD.mono {D L L' : List Nx} {sets sets' : List W64} {set : W64} {e : Int} {j : Nat} (h : EntD L sets set e j) (hp : Pre L L') (hs : ∀ (i : Nat) (y : W64), sets[i]? = some y → sets'[i]? = some y) (hb : bitsIn set L.length) (hb2 : ∀ x ∈ sets, bitsIn x L.length) : EntD L' sets' set e j := by
  rcases h with ⟨h1, h2⟩ | ⟨k, y, h1, h2, h3⟩
  · exact .inl ⟨h1, fun w hw => h2 w ((SL_mono hp hb).2 hw)⟩
  · refine .inr ⟨k, y, h1, hs k y h2, fun w => ?_⟩
    rw [← SL_mono hp (hb2 y (List.mem_of_getElem? h2)), ← SL_mono hp hb]
    exact h3 w
theorem rowN_pre {set : W64} {L : List Nx} {sets : List W64} : ∀ n, Pre L (rowN set L sets n).L
  | 0 => fun _ _ h => h
  | n + 1 => by
    have ih := rowN_pre (set := set) (L := L) (sets := sets) n
    rw [rowN, rowI]
    split
    · exact ih.trans stepS_pre
    · split
      · exact ih.trans stepS_pre
      · exact ih.trans stepS_pre
theorem idxW_some {x : W64} : ∀ {l : List W64} {k : Nat}, idxW x l = some k → l[k]? = some x
  | [], k, h => by simp [idxW] at h
  | y :: r, k, h => by
    simp only [idxW] at h
    split at h
    · rename_i e; cases h; simp [e]
    · rw [Option.map_eq_some_iff] at h
      obtain ⟨j, hj, rfl⟩ := h
      simpa using idxW_some hj
theorem rowN_ent {D : List Nx} (hD : Cls D) {set : W64} {L : List Nx} {sets : List W64} (h : Rok D ⟨L, sets, []⟩) (hset : bitsIn set L.length) : ∀ n, ∀ j, j < n → EntD (rowN set L sets n).L (rowN set L sets n).sets set ((rowN set L sets n).row.getD j 0) j
  | 0, j, hj => by omega
  | n + 1, j, hj => by
    have ih := fun hj' => rowN_ent hD h hset n j hj'
    have hok := (rowN_ok hD (set := set) h n).1
    have hle := (rowN_ok hD (set := set) h n).2
    have hpre := rowN_pre (set := set) (L := L) (sets := sets) n
    have hlen := rowN_len set L sets n
    rw [rowN]
    generalize rowN set L sets n = s at ih hok hle hpre hlen
    obtain ⟨L1, sets1, row⟩ := s
    simp only at ih hok hle hpre hlen
    have hb1 : bitsIn set L1.length := hset.le hle
    have hst := stepS_ok hD (sw := (n : Int)) (set := set) hok.good
    have hSL := fun w => stepS_SL hD (sw := (n : Int)) hok.good hb1 (w := w)
    have hp2 : Pre L1 (stepS (n : Int) set L1).1 := stepS_pre
    have hlt : ∀ y : Int, j < n → (row ++ [y]).getD j 0 = row.getD j 0 := fun y h => by
      rw [List.getD_eq_getElem?_getD, List.getD_eq_getElem?_getD, List.getElem?_append_left (by omega)]
    have heq : ∀ y : Int, j = n → (row ++ [y]).getD j 0 = y := fun y h => by
      rw [List.getD_eq_getElem?_getD, List.getElem?_append_right (by omega), show j - row.length = 0 from by omega]; rfl
    rw [rowI]
    simp only
    split
    · rename_i h0
      simp only
      by_cases hjn : j < n
      · rw [hlt _ hjn]
        exact (ih hjn).mono (D := D) hp2 (fun _ _ h => h) hb1 hok.bits
      · rw [heq _ (by omega), show j = n from by omega]
        refine .inl ⟨rfl, fun w hw => ?_⟩
        rw [← SL_mono hp2 hb1] at hw
        have := (hSL w).2 hw
        rw [h0] at this
        obtain ⟨i, x, h1, _⟩ := this
        simp at h1
    · split
      · rename_i k hk
        simp only
        by_cases hjn : j < n
        · rw [hlt _ hjn]
          exact (ih hjn).mono (D := D) hp2 (fun _ _ h => h) hb1 hok.bits
        · rw [heq _ (by omega), show j = n from by omega]
          refine .inr ⟨k, _, rfl, idxW_some hk, fun w => ?_⟩
          rw [hSL w, SL_mono hp2 hb1]
      · simp only
        by_cases hjn : j < n
        · rw [hlt _ hjn]
          exact (ih hjn).mono (D := D) hp2 (fun i y h => by rw [List.getElem?_append_left (List.getElem?_eq_some_iff.1 h).1]; exact h) hb1 hok.bits
        · rw [heq _ (by omega), show j = n from by omega]
          refine .inr ⟨sets1.length, _, rfl, by rw [List.getElem?_append_right (Nat.le_refl _), Nat.sub_self]; rfl, fun w => ?_⟩
          rw [hSL w, SL_mono hp2 hb1]
structure Dlg (m : Nat) (x : Nx) (s : Ds2) : Prop where
  fst : s.L[0]? = some x ∧ s.sets[0]? = some 1#64
  ent : ∀ k, k < s.rows.length → ∀ y, s.sets[k]? = some y → ∀ j, j < m → EntD s.L s.sets y (gI (s.rows.getD k []) j) j
  acc : ∀ k, k < s.rows.length → ∀ y, s.sets[k]? = some y → (s.accs.getD k false = true ↔ SL s.L y [])
theorem detN_lg {D : List Nx} (hD : Cls D) {x : Nx} (hx : x ∈ D) {m : Nat} : ∀ i, Dlg m x (detN m x i)
  | 0 => ⟨⟨rfl, rfl⟩, fun k h => by simp [detN] at h, fun k h => by simp [detN] at h⟩
  | i + 1 => by
    have ih := detN_lg hD hx (m := m) i
    have hok := detN_ok hD hx (m := m) i
    have hinv := detN_inv hD hx (m := m) i
    rw [detN]
    generalize detN m x i = s at ih hok hinv
    obtain ⟨L, sets, rows, accs⟩ := s
    rw [detI]
    simp only at hok ⊢
    cases hs : sets[i]? with
    | none => exact ih
    | some set =>
      have hlt := (List.getElem?_eq_some_iff.1 hs).1
      have h1 := hinv.rows
      have h2 := hinv.accs
      simp only at h1 h2
      have hb := hok.bits set (List.mem_of_getElem? hs)
      have hen := rowN_ent hD hok hb m
      have hpre := rowN_pre (set := set) (L := L) (sets := sets) m
      obtain ⟨r, hr⟩ := rowN_sets set L sets m
      have hlen := rowN_len set L sets m
      show Dlg m x ⟨(rowN set L sets m).L, (rowN set L sets m).sets, rows ++ [(rowN set L sets m).row], accs ++ [accS set (rowN set L sets m).L]⟩
      generalize rowN set L sets m = q at hen hpre hr hlen
      obtain ⟨L1, sets1, row⟩ := q
      simp only at hen hpre hr hlen ⊢
      have hsub : ∀ (i : Nat) (y : W64), sets[i]? = some y → sets1[i]? = some y := fun i y h => by
        rw [hr, List.getElem?_append_left (List.getElem?_eq_some_iff.1 h).1]; exact h
      have hold : ∀ k, k < sets.length → ∀ y, sets1[k]? = some y → sets[k]? = some y := fun k hk y h => by
        rw [hr, List.getElem?_append_left hk] at h; exact h
      refine ⟨⟨hpre 0 x ih.fst.1, hsub 0 _ ih.fst.2⟩, fun k hk y hy j hj => ?_, fun k hk y hy => ?_⟩
      · simp only [List.length_append, List.length_singleton] at hk hy ⊢
        have hy0 := hold k (by omega) y hy
        have hby := hok.bits y (List.mem_of_getElem? hy0)
        by_cases hkr : k < rows.length
        · have := ih.ent k hkr y hy0 j hj
          rw [List.getD_eq_getElem?_getD, List.getElem?_append_left hkr, ← List.getD_eq_getElem?_getD]
          exact this.mono (D := D) hpre hsub hby hok.bits
        · have hki : k = i := by omega
          subst hki
          rw [hs] at hy0
          cases hy0
          rw [List.getD_eq_getElem?_getD, List.getElem?_append_right (by omega), show k - rows.length = 0 from by omega]
          have := hen j hj
          rw [gI, Int.toNat_natCast]
          exact this
      · simp only [List.length_append, List.length_singleton] at hk hy ⊢
        have hy0 := hold k (by omega) y hy
        have hby := hok.bits y (List.mem_of_getElem? hy0)
        by_cases hkr : k < rows.length
        · have := ih.acc k hkr y hy0
          rw [List.getD_eq_getElem?_getD, List.getElem?_append_left (by omega), ← List.getD_eq_getElem?_getD, this]
          exact SL_mono hpre hby
        · have hki : k = i := by omega
          subst hki
          rw [hs] at hy0
          cases hy0
          rw [List.getD_eq_getElem?_getD, List.getElem?_append_right (by omega), show k - accs.length = 0 from by omega]
          exact accS_SL
def ltrs (m : Nat) (w : List Int) : Prop := ∀ c ∈ w, 0 ≤ c ∧ c < (m : Int)
theorem detT_La {D : List Nx} (hD : Cls D) {x : Nx} (hx : x ∈ D) {m : Nat} (hm : m ≤ 16) (hm1 : 0 < m) {w : List Int} : La (detT x m) 0 w = true ↔ ltrs m w ∧ MN x w := by
  obtain ⟨hT, hsz⟩ := detT_ok hD hx hm hm1
  have hlg := detN_lg hD hx (m := m) bigN
  have hrl := hT.rows
  rw [detT] at hT hrl ⊢
  generalize detN m x bigN = s at hT hlg hrl
  obtain ⟨L, sets, rows, accs⟩ := s
  simp only at hT hrl
  have h1 := hlg.fst
  have h2 := hlg.ent
  have h3 := hlg.acc
  simp only at h1 h2 h3
  have key : ∀ (w : List Int) (k : Nat) (y : W64), sets[k]? = some y → (La ⟨rows, accs⟩ k w = true ↔ ltrs m w ∧ SL L y w) := by
    intro w
    induction w with
    | nil =>
      intro k y hy
      have hk := (List.getElem?_eq_some_iff.1 hy).1
      rw [La_nil, accq, gB, Int.toNat_natCast, decide_eq_true (by omega), Bool.true_and]
      simp only
      rw [h3 k (by omega) y hy]
      exact ⟨fun h => ⟨fun c hc => by simp at hc, h⟩, fun h => h.2⟩
    | cons c w ih =>
      intro k y hy
      have hk := (List.getElem?_eq_some_iff.1 hy).1
      rw [La_cons]
      by_cases hc : 0 ≤ c ∧ c < (m : Int)
      · obtain ⟨j, rfl⟩ : ∃ j : Nat, c = j := ⟨c.toNat, by omega⟩
        rw [suc_at hT hk (by omega)]
        have hl : ltrs m ((j : Int) :: w) ↔ ltrs m w := by
          simp only [ltrs, List.mem_cons, forall_eq_or_imp]
          exact ⟨fun h => h.2, fun h => ⟨hc, h⟩⟩
        rw [hl]
        rcases h2 k (by omega) y hy j (by omega) with ⟨e, hn⟩ | ⟨u, z, e, hz, hs⟩
        · rw [e, La_neg (by decide)]
          exact ⟨fun h => absurd h (by decide), fun h => absurd h.2 (hn w)⟩
        · rw [e, ih u z hz, hs w]
      · rw [suc_out hT (by omega) (by omega), La_neg (by decide)]
        exact ⟨fun h => absurd h (by decide), fun h => absurd (h.1 c (by simp)) hc⟩
  have := key w 0 1#64 h1.2
  rw [show ((0 : Nat) : Int) = 0 from rfl] at this
  rw [this]
  refine and_congr_right fun _ => ?_
  constructor
  · rintro ⟨i, z, hi, hz, hm⟩
    rw [BitVec.getLsbD_one] at hi
    simp at hi
    subst hi
    rw [h1.1] at hz
    cases hz
    exact hm
  · intro h
    exact ⟨0, x, by decide, h1.1, h⟩
end Go.Proofs.Ytkjffppioddnpaa


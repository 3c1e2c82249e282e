/-
  Joined by a program from the texts Awk Law Lift.
-/
import Derived.Test.YtafongdfnpnneaaGreatDoorMd
import Derived.Test.YtafongdfnpnneaaGreatDoorRows
import Derived.Test.YtafongdfnpnneaaGreatDoorVm7
import Derived.Lib.LaidTab
import Derived.Lib.LaidU8
import Derived.LaidMore
import Derived.Stop.Joined
/- Chapter 53: the examples of the chapter. -/
set_option maxRecDepth 100000
set_option maxHeartbeats 4000000
set_option linter.all false
namespace Go.Proofs.YtafongdfnpnneaaGreatDoor
open Go.Vm Top

def tS : Top.Tp := ⟨[4, 4, 4], [], [(0, 0), (2, 3)]⟩
theorem fitS : tS.fit := ⟨by decide, by decide, by decide⟩
theorem pc13 : PC Tryz.prog 13 [] (.agg (Top.encT tS)) := by
  have h : PC Tryz.prog 13 [] (.agg [Top.slI [4, 4, 4], .sl true [] 0, Top.slP [(0, 0), (2, 3)]]) := by
    refine PC.walk tok mixed cfg0 Tryz.func13 rfl Tryz.call13 (by simp [Top.belT, bel_encE, bel_agE, bel_slE, bel_Es, Top.bel_slI, Top.bel_slP, Top.bel_slL, Top.bel_slH]) (by first | rfl | simp [Top.belT, bel_encE, bel_agE, bel_slE, bel_Es, Top.bel_slI, Top.bel_slP, Top.bel_slL, Top.bel_slH]) ?_; simp (maxSteps := 2000000) -implicitDefEqProofs +contextual (disch := first | assumption | omega | decide +kernel) only [push_cast, ↓capI, br2_true, br2_false, frk_tt, frk_tf, frk_f, frkD_tt, frkD_tf, frkD_f, pk2_true, pk2_false, imp_true, seval, Nat.reduceLeDiff, Nat.reduceEqDiff, reduceCtorEq, ↓reduceIte, cfg0, encE, agE, Top.encT, Top.encP, Top.encL, Top.encH, Top.slI, Top.slL, Top.slP, Tryz.ntmps13]
    refine endK.ret ?_ (by first | rfl | simp [Top.belT, bel_encE, bel_agE, bel_slE, bel_Es, Top.bel_slI, Top.bel_slP, Top.bel_slL, Top.bel_slH]); simp [Top.belT, bel_encE, bel_agE, bel_slE, bel_Es, Top.bel_slI, Top.bel_slP, Top.bel_slL, Top.bel_slH, fzs_ok, imp, lenOK_iff, List.take_of_length_le, evRes, getT, getO, setO, fzs, fz, fzH, Nat.beq, retV, Res.then, ldT, ldR, mkV, getV, tt_26, tt_61, tt_22, tt_23, tt_24, tt_3, tt_4, tt_85, tt_38, tt_27, tt_34, tt_46, cfg0, encE, agE, Top.encT, Top.encP, Top.encL, Top.encH, Top.slI, Top.slL, Top.slP, Tryz.f13,  ]
  exact h.laxr
def l0 : List Ev := [⟨1, 0, 1, 0⟩, ⟨2, 0, 2, 3⟩, ⟨3, 0, 1, 0⟩]
def s0 : List UInt8 := (fmtE l0).1
theorem fmt_l0 : fmtE l0 = (s0, 0) := by
  have h : (fmtE l0).2 = 0 := by decide +kernel
  rw [s0]
  exact Prod.ext rfl h
theorem prs_s0 : prsE s0 = (l0, 0, 0) := by decide +kernel
theorem len_s0 : s0.length ≤ 100 := by decide +kernel
def s1 : List UInt8 := [112, 97, 99, 107, 101, 116, 32, 48, 32, 115, 101, 110, 116, 32, 98, 121, 32, 104, 111, 115, 116, 32, 48, 49, 10]
theorem prs_s1 : prsE s1 = ([], 1, 5) := by decide +kernel
theorem awake : PC Tryz.prog 5 [] (.bool true) := by
  have h8 : PC Tryz.prog 11 [slE l0] (.tup [.str s0, .int .i64 0]) := by
    have := fmtEv l0 (by decide)
    rw [fmt_l0] at this
    exact this
  have h10 : PC Tryz.prog 12 [.str s0] (.tup [slE l0, .int .i64 0, .int .i64 0]) := by
    have := pc12 s0 (Nat.le_trans len_s0 (by decide))
    rw [prs_s0] at this
    exact this
  have h10b : PC Tryz.prog 12 [.str s1] (.tup [.sl true [] 0, .int .i64 1, .int .i64 5]) := by
    have := pc12 s1 (by decide)
    rw [prs_s1] at this
    exact this
  have h14a : PC Tryz.prog 6 [.agg (Top.encT tS), slE [⟨2, 0, 0, 0⟩]] (.tup [.int .i64 0, .int .i64 8]) := by
    have := Top.pc6 tS fitS (by decide) [⟨2, 0, 0, 0⟩] (by decide)
    rw [show Top.checkEv tS [⟨2, 0, 0, 0⟩] = (0, 8) by decide +kernel] at this
    exact this
  have h14b : PC Tryz.prog 6 [.agg (Top.encT tS), slE [⟨1, 1, 0, 0⟩]] (.tup [.int .i64 0, .int .i64 14]) := by
    have := Top.pc6 tS fitS (by decide) [⟨1, 1, 0, 0⟩] (by decide)
    rw [show Top.checkEv tS [⟨1, 1, 0, 0⟩] = (0, 14) by decide +kernel] at this
    exact this
  have h14c : PC Tryz.prog 6 [.agg (Top.encT tS), slE l0] (.tup [.int .i64 0, .int .i64 0]) := by
    have := Top.pc6 tS fitS (by decide) l0 (by decide)
    rw [show Top.checkEv tS l0 = (0, 0) by decide +kernel] at this
    exact this
  have h16 : PC Tryz.prog 9 [.agg (Top.encT tS), slE l0, .int .i64 0] (.sl false [.int .i64 2, .int .i64 3, .int .i64 3] 1) := by
    have := Top.pc9 tS fitS (by decide) l0 (by decide) 0
    rw [show Top.hopsEv tS l0 0 = [(2, 3, 3)] by decide +kernel] at this
    exact this
  have h12 : PC Tryz.prog 14 [slE l0, slE l0] (.bool true) := by
    have := pc14 l0 l0 (by decide) (by decide)
    rw [decide_eq_true rfl] at this
    exact this
  have h19 := pc13
  have e1 : slE l0 = .sl false [.int .i64 1, .int .i64 0, .int .i64 1, .int .i64 0, .int .i64 2, .int .i64 0, .int .i64 2, .int .i64 3, .int .i64 3, .int .i64 0, .int .i64 1, .int .i64 0] 3 := rfl
  have e2 : slE [⟨2, 0, 0, 0⟩] = .sl false [.int .i64 2, .int .i64 0, .int .i64 0, .int .i64 0] 1 := rfl
  have e3 : slE [⟨1, 1, 0, 0⟩] = .sl false [.int .i64 1, .int .i64 1, .int .i64 0, .int .i64 0] 1 := rfl
  rw [e1] at h8 h10 h14c h16 h12
  rw [e2] at h14a
  rw [e3] at h14b
  rw [s1] at h10b
  have hs0 : s0 = s0 := rfl
  generalize hS : s0 = S at h8 h10
  generalize hT : Top.encT tS = T at h14a h14b h14c h16 h19
  refine PC.walk tok mixed cfg0 Tryz.func5 rfl Tryz.call5 (by simp [Top.belT, bel_encE, bel_agE, bel_slE, bel_Es, Top.bel_slI, Top.bel_slP, Top.bel_slL, Top.bel_slH]) (by first | rfl | simp [Top.belT, bel_encE, bel_agE, bel_slE, bel_Es, Top.bel_slI, Top.bel_slP, Top.bel_slL, Top.bel_slH]) ?_; simp (maxSteps := 2000000) -implicitDefEqProofs +contextual (disch := first | assumption | omega | decide +kernel) only [push_cast, ↓capI, br2_true, br2_false, frk_tt, frk_tf, frk_f, frkD_tt, frkD_tf, frkD_f, pk2_true, pk2_false, imp_true, seval, Nat.reduceLeDiff, Nat.reduceEqDiff, reduceCtorEq, ↓reduceIte, cfg0, encE, agE, Top.encT, Top.encP, Top.encL, Top.encH, Top.slI, Top.slL, Top.slP, Tryz.ntmps5]
  refine callO.pc h8 ?_
  simp (maxSteps := 2000000) -implicitDefEqProofs +contextual (disch := first | assumption | omega | decide +kernel) only [push_cast, ↓capI, br2_true, br2_false, frk_tt, frk_tf, frk_f, frkD_tt, frkD_tf, frkD_f, pk2_true, pk2_false, imp_true, seval, Nat.reduceLeDiff, Nat.reduceEqDiff, reduceCtorEq, ↓reduceIte, cfg0, encE, agE, Top.encT, Top.encP, Top.encL, Top.encH, Top.slI, Top.slL, Top.slP]
  refine callO.pc h10 ?_
  simp (maxSteps := 2000000) -implicitDefEqProofs +contextual (disch := first | assumption | omega | decide +kernel) only [push_cast, ↓capI, br2_true, br2_false, frk_tt, frk_tf, frk_f, frkD_tt, frkD_tf, frkD_f, pk2_true, pk2_false, imp_true, seval, Nat.reduceLeDiff, Nat.reduceEqDiff, reduceCtorEq, ↓reduceIte, cfg0, encE, agE, Top.encT, Top.encP, Top.encL, Top.encH, Top.slI, Top.slL, Top.slP]
  refine callO.pc h10b ?_
  simp (maxSteps := 2000000) -implicitDefEqProofs +contextual (disch := first | assumption | omega | decide +kernel) only [push_cast, ↓capI, br2_true, br2_false, frk_tt, frk_tf, frk_f, frkD_tt, frkD_tf, frkD_f, pk2_true, pk2_false, imp_true, seval, Nat.reduceLeDiff, Nat.reduceEqDiff, reduceCtorEq, ↓reduceIte, cfg0, encE, agE, Top.encT, Top.encP, Top.encL, Top.encH, Top.slI, Top.slL, Top.slP]
  refine callO.pc h19 ?_
  simp (maxSteps := 2000000) -implicitDefEqProofs +contextual (disch := first | assumption | omega | decide +kernel) only [push_cast, ↓capI, br2_true, br2_false, frk_tt, frk_tf, frk_f, frkD_tt, frkD_tf, frkD_f, pk2_true, pk2_false, imp_true, seval, Nat.reduceLeDiff, Nat.reduceEqDiff, reduceCtorEq, ↓reduceIte, cfg0, encE, agE, Top.encT, Top.encP, Top.encL, Top.encH, Top.slI, Top.slL, Top.slP]
  refine callO.pc h14a ?_
  simp (maxSteps := 2000000) -implicitDefEqProofs +contextual (disch := first | assumption | omega | decide +kernel) only [push_cast, ↓capI, br2_true, br2_false, frk_tt, frk_tf, frk_f, frkD_tt, frkD_tf, frkD_f, pk2_true, pk2_false, imp_true, seval, Nat.reduceLeDiff, Nat.reduceEqDiff, reduceCtorEq, ↓reduceIte, cfg0, encE, agE, Top.encT, Top.encP, Top.encL, Top.encH, Top.slI, Top.slL, Top.slP]
  refine callO.pc h19 ?_
  simp (maxSteps := 2000000) -implicitDefEqProofs +contextual (disch := first | assumption | omega | decide +kernel) only [push_cast, ↓capI, br2_true, br2_false, frk_tt, frk_tf, frk_f, frkD_tt, frkD_tf, frkD_f, pk2_true, pk2_false, imp_true, seval, Nat.reduceLeDiff, Nat.reduceEqDiff, reduceCtorEq, ↓reduceIte, cfg0, encE, agE, Top.encT, Top.encP, Top.encL, Top.encH, Top.slI, Top.slL, Top.slP]
  refine callO.pc h14b ?_
  simp (maxSteps := 2000000) -implicitDefEqProofs +contextual (disch := first | assumption | omega | decide +kernel) only [push_cast, ↓capI, br2_true, br2_false, frk_tt, frk_tf, frk_f, frkD_tt, frkD_tf, frkD_f, pk2_true, pk2_false, imp_true, seval, Nat.reduceLeDiff, Nat.reduceEqDiff, reduceCtorEq, ↓reduceIte, cfg0, encE, agE, Top.encT, Top.encP, Top.encL, Top.encH, Top.slI, Top.slL, Top.slP]
  refine callO.pc h19 ?_
  simp (maxSteps := 2000000) -implicitDefEqProofs +contextual (disch := first | assumption | omega | decide +kernel) only [push_cast, ↓capI, br2_true, br2_false, frk_tt, frk_tf, frk_f, frkD_tt, frkD_tf, frkD_f, pk2_true, pk2_false, imp_true, seval, Nat.reduceLeDiff, Nat.reduceEqDiff, reduceCtorEq, ↓reduceIte, cfg0, encE, agE, Top.encT, Top.encP, Top.encL, Top.encH, Top.slI, Top.slL, Top.slP]
  refine callO.pc h14c ?_
  simp (maxSteps := 2000000) -implicitDefEqProofs +contextual (disch := first | assumption | omega | decide +kernel) only [push_cast, ↓capI, br2_true, br2_false, frk_tt, frk_tf, frk_f, frkD_tt, frkD_tf, frkD_f, pk2_true, pk2_false, imp_true, seval, Nat.reduceLeDiff, Nat.reduceEqDiff, reduceCtorEq, ↓reduceIte, cfg0, encE, agE, Top.encT, Top.encP, Top.encL, Top.encH, Top.slI, Top.slL, Top.slP]
  refine callO.pc h19 ?_
  simp (maxSteps := 2000000) -implicitDefEqProofs +contextual (disch := first | assumption | omega | decide +kernel) only [push_cast, ↓capI, br2_true, br2_false, frk_tt, frk_tf, frk_f, frkD_tt, frkD_tf, frkD_f, pk2_true, pk2_false, imp_true, seval, Nat.reduceLeDiff, Nat.reduceEqDiff, reduceCtorEq, ↓reduceIte, cfg0, encE, agE, Top.encT, Top.encP, Top.encL, Top.encH, Top.slI, Top.slL, Top.slP]
  refine callO.pc h16 ?_
  simp (maxSteps := 2000000) -implicitDefEqProofs +contextual (disch := first | assumption | omega | decide +kernel) only [push_cast, ↓capI, br2_true, br2_false, frk_tt, frk_tf, frk_f, frkD_tt, frkD_tf, frkD_f, pk2_true, pk2_false, imp_true, seval, Nat.reduceLeDiff, Nat.reduceEqDiff, reduceCtorEq, ↓reduceIte, cfg0, encE, agE, Top.encT, Top.encP, Top.encL, Top.encH, Top.slI, Top.slL, Top.slP]
  refine callO.pc h12 ?_
  simp (maxSteps := 2000000) -implicitDefEqProofs +contextual (disch := first | assumption | omega | decide +kernel) only [push_cast, ↓capI, br2_true, br2_false, frk_tt, frk_tf, frk_f, frkD_tt, frkD_tf, frkD_f, pk2_true, pk2_false, imp_true, seval, Nat.reduceLeDiff, Nat.reduceEqDiff, reduceCtorEq, ↓reduceIte, cfg0, encE, agE, Top.encT, Top.encP, Top.encL, Top.encH, Top.slI, Top.slL, Top.slP]
  refine ⟨fun _ => ?_, fun hne => absurd ?_ hne⟩
  · refine endK.ret ?_ (by first | rfl | simp [Top.belT, bel_encE, bel_agE, bel_slE, bel_Es, Top.bel_slI, Top.bel_slP, Top.bel_slL, Top.bel_slH]); simp [evRes, getT, retV, Tryz.f5]
  · rw [← hS]; decide +kernel
end Go.Proofs.YtafongdfnpnneaaGreatDoor

/- Chapter 53: the arguments of the laws as plain data; from a contract to a statement. -/
set_option maxRecDepth 100000
set_option maxHeartbeats 4000000
set_option linter.all false
namespace Go.Proofs.YtafongdfnpnneaaGreatDoor
open Go.Vm Go.ChangeShapes Go.WideShapes Go.ChangeAt Go.RowKit

def i64s (e : Ev) : Prop := (-9223372036854775808 ≤ e.a ∧ e.a ≤ 9223372036854775807) ∧ (-9223372036854775808 ≤ e.b ∧ e.b ≤ 9223372036854775807) ∧ -9223372036854775808 ≤ e.c ∧ e.c ≤ 9223372036854775807
theorem own : ownKnob Tryz.prog.godebug = none := by kernel_rfl
theorem laidOut : laidOutB Tryz.prog = true := by kernel_rfl
theorem laxs_one {cs : List V} {y : V} (h : laxs cs = [y]) : ∃ x, cs = [x] ∧ lax x = y := by
  match cs, h with
  | [], h => cases h
  | [x], h => simp only [laxs, List.cons.injEq, and_true] at h; exact ⟨x, rfl, h⟩
  | x :: y :: r, h => simp [laxs] at h
theorem typ_Ev {m : Nat} (c : List V) (h : Typ tt (m + 2) 38 c) : ∃ x : Ev, laxs c = encE x ∧ i64s x := by
  have h := typ_struct (by rw [tt_38]) h
  obtain ⟨c1, r1, rfl, h1, h⟩ := typF_cons h
  obtain ⟨c2, r2, rfl, h2, h⟩ := typF_cons h
  obtain ⟨c3, r3, rfl, h3, h⟩ := typF_cons h
  obtain ⟨c4, r4, rfl, h4, h⟩ := typF_cons h
  obtain rfl := typF_nil h
  obtain ⟨k, rfl, _⟩ := typ_int (by rw [tt_3]) h1
  obtain ⟨a, rfl, a1, a2⟩ := typ_int (by rw [tt_3]) h2
  obtain ⟨b, rfl, b1, b2⟩ := typ_int (by rw [tt_3]) h3
  obtain ⟨d, rfl, d1, d2⟩ := typ_int (by rw [tt_3]) h4
  exact ⟨⟨k, a, b, d⟩, rfl, ⟨a1, a2⟩, ⟨b1, b2⟩, d1, d2⟩
theorem typ_slE {m : Nat} {c : List V} (h : Typ tt (m + 3) 27 c) : ∃ l : List Ev, lax (mkV (tt 27) c) = slE l ∧ ∀ e ∈ l, i64s e := by
  obtain ⟨l, hl, _, hr⟩ := typ_slice (by rw [tt_27]) typ_Ev h
  obtain ⟨x, rfl, hx⟩ := laxs_one hl
  refine ⟨l, ?_, hr⟩
  rw [tt_27]
  exact hx
theorem typ_S {m : Nat} {c : List V} (h : Typ tt (m + 1) 9 c) : ∃ s : List UInt8, lax (mkV (tt 9) c) = .str s := by
  obtain ⟨s, rfl, _⟩ := typ_str (by rw [tt_9]) h
  exact ⟨s, by rw [tt_9]; rfl⟩
theorem typ_J {m : Nat} {c : List V} (h : Typ tt (m + 1) 3 c) : ∃ x : Int, lax (mkV (tt 3) c) = .int .i64 x := by
  obtain ⟨a, rfl, _⟩ := typ_int (by rw [tt_3]) h
  exact ⟨a, by rw [tt_3]; rfl⟩
theorem typ_P {m : Nat} (c : List V) (h : Typ tt (m + 2) 61 c) : ∃ x : Int × Int, laxs c = Top.encP x ∧ True := by
  have h := typ_struct (by rw [tt_61]) h
  obtain ⟨c1, r1, rfl, h1, h⟩ := typF_cons h
  obtain ⟨c2, r2, rfl, h2, h⟩ := typF_cons h
  obtain rfl := typF_nil h
  obtain ⟨a, rfl, _⟩ := typ_int (by rw [tt_3]) h1
  obtain ⟨b, rfl, _⟩ := typ_int (by rw [tt_3]) h2
  exact ⟨(a, b), rfl, trivial⟩
theorem typ_L {m : Nat} (c : List V) (h : Typ tt (m + 3) 85 c) : ∃ x : Top.Lk, laxs c = Top.encL x ∧ True := by
  have h := typ_struct (by rw [tt_85]) h
  obtain ⟨c1, r1, rfl, h1, h⟩ := typF_cons h
  obtain ⟨c2, r2, rfl, h2, h⟩ := typF_cons h
  obtain ⟨c3, r3, rfl, h3, h⟩ := typF_cons h
  obtain rfl := typF_nil h
  obtain ⟨a, ha, _⟩ := typ_P (m := m) c1 h1
  obtain ⟨b, hb, _⟩ := typ_P (m := m) c2 h2
  obtain ⟨d, rfl⟩ := typ_bool (by rw [tt_4]) h3
  refine ⟨⟨a, b, d⟩, ?_, trivial⟩
  rw [laxs_append, laxs_append, laxs_append, ha, hb]
  rfl
theorem typ_I {m : Nat} (c : List V) (h : Typ tt (m + 1) 3 c) : ∃ x : Int, laxs c = [.int .i64 x] ∧ True := by
  obtain ⟨a, rfl, _⟩ := typ_int (by rw [tt_3]) h
  exact ⟨a, rfl, trivial⟩
theorem typ_T {m : Nat} {c : List V} (h : Typ tt (m + 5) 26 c) : ∃ t : Top.Tp, lax (mkV (tt 26) c) = .agg (Top.encT t) := by
  have h := typ_struct (by rw [tt_26]) h
  obtain ⟨c1, r1, rfl, h1, h⟩ := typF_cons h
  obtain ⟨c2, r2, rfl, h2, h⟩ := typF_cons h
  obtain ⟨c3, r3, rfl, h3, h⟩ := typF_cons h
  obtain rfl := typF_nil h
  obtain ⟨p, hp, _, _⟩ := typ_slice (by rw [tt_22]) typ_I h1
  obtain ⟨l, hl, _, _⟩ := typ_slice (by rw [tt_23]) typ_L h2
  obtain ⟨q, hq, _, _⟩ := typ_slice (by rw [tt_24]) typ_P h3
  refine ⟨⟨p, l, q⟩, ?_⟩
  have e : mkV (tt 26) (c1 ++ (c2 ++ (c3 ++ []))) = .agg (c1 ++ (c2 ++ (c3 ++ []))) := by rw [tt_26]; rfl
  rw [e, Go.Vm.lax, laxs_append, laxs_append, laxs_append, hp, hl, hq]
  simp only [flatMap_one]
  rfl
theorem spec_three {s : ChangeSpec} {H : Type} (h : s.fn H = fun | [d, e, f] => { results := [.lit (.bool true)], args := [d, e, f] } | _ => Rows.none) (ds : List (DataW H)) (hl : ds.length = 3) :
    s.fn H ds = { results := [.lit (.bool true)], args := ds } := by
  rw [h]
  match ds, hl with
  | [d, e, f], _ => rfl
end Go.Proofs.YtafongdfnpnneaaGreatDoor

/- Chapter 53: the listed package-level variables; from a contract to a given statement. -/
set_option maxRecDepth 100000
set_option maxHeartbeats 4000000
set_option linter.all false
namespace Go.Proofs.YtafongdfnpnneaaGreatDoor
open Go Go.Vm Go.ChangeShapes Go.WideShapes Go.ChangeAt Go.RowKit

abbrev LL : List (String × DataW Unit) := Rows.eventlogChecksRow.laid
theorem gPow : Tryz.prog.globalNamed "internal/strconv.uint64pow10" = some 1 := by kernel_rfl
theorem tPow : (Tryz.prog.globals[1]?).map (·.type) = some 150 := by kernel_rfl
theorem gFirst : Tryz.prog.globalNamed "unicode/utf8.first" = some 2 := by kernel_rfl
theorem gt_of_laid {W : World} (h : laidMetH Tryz.prog LL W) : GT (fun _ => False) W := by
  rw [MakeChecks.laidMetH_plain _ _ _ (by kernel_rfl)] at h
  obtain ⟨g', t', cs, fuel, p, hg', ht', hvar, hd⟩ := Lib.laidMet.reads h (n := "internal/strconv.uint64pow10") (d := Rows.laid_internal_strconv_uint64pow10) (by simp [LL, Rows.eventlogChecksRow])
  obtain rfl := Option.some.inj (gPow.symm.trans hg')
  obtain rfl := Option.some.inj (tPow.symm.trans ht')
  have hc := Lib.cells_of_tab (k := .u64) (zs := [1, 10, 100, 1000, 10000, 100000, 1000000, 10000000, 100000000, 1000000000, 10000000000, 100000000000, 1000000000000, 10000000000000, 100000000000000, 1000000000000000, 10000000000000000, 100000000000000000, 1000000000000000000, 10000000000000000000])
    (show Tryz.prog.underlying 150 = some (.array 20 129) by kernel_rfl) (show Tryz.prog.underlying 129 = some (.int .u64) by kernel_rfl) (by kernel_rfl) (by kernel_rfl) hd
  have hcell := World.var?_cell hg' hvar
  intro g l hgl
  have h0 : g = 1 ∧ l = [(.u64, 1), (.u64, 10), (.u64, 100), (.u64, 1000), (.u64, 10000), (.u64, 100000), (.u64, 1000000), (.u64, 10000000), (.u64, 100000000), (.u64, 1000000000), (.u64, 10000000000), (.u64, 100000000000), (.u64, 1000000000000), (.u64, 10000000000000), (.u64, 100000000000000), (.u64, 1000000000000000), (.u64, 10000000000000000), (.u64, 100000000000000000), (.u64, 1000000000000000000), (.u64, 10000000000000000000)] := by
    match g, hgl with
    | 0, hgl => cases hgl
    | 1, hgl => rw [gl0] at hgl; exact ⟨rfl, (Option.some.inj hgl).symm⟩
    | g + 2, hgl => cases hgl
  obtain ⟨rfl, rfl⟩ := h0
  have hcs : CellsAt W 1 0 cs.toList := by
    intro i v hv
    rw [Nat.zero_add, hcell i, ← hv, Array.getElem?_toList]
  refine ⟨?_, fun h => h, ?_⟩
  · have h1 := hcell 0
    have h2 : cs[0]? = some (.int .u64 1) := by rw [← Array.getElem?_toList, hc]; rfl
    rw [h2] at h1
    apply Decidable.byContradiction
    intro hn
    unfold World.cell? at h1
    rw [Array.getElem?_eq_none (by simp only; omega)] at h1
    cases h1
  · rw [hc] at hcs
    exact hcs
noncomputable def laidWorld (os : Os) : World :=
  { World.doorLaid Tryz.prog 34 os with heap := (World.doorLaid Tryz.prog 34 os).heap.modify 2 fun
      | .cells _ t frozen => .cells (Pinned.utf8FirstZ.map fun (n : Nat) => Value.int .u8 n).toArray t frozen
      | o => o }
theorem door_met (os : Os) (args : Array Value) : laidMetH Tryz.prog LL ((laidWorld os).forCall (fun _ _ => 0) ⟨#[], args, []⟩).memory :=
  laidMetH_of_parts3 (fuel := 8) (laidMet_of_run' 8 (by kernel_rfl) (by kernel_rfl)) (by kernel_rfl) (by kernel_rfl)
end Go.Proofs.YtafongdfnpnneaaGreatDoor


/-
  Joined by a program from the texts Scan Ext Num Pint Fmt Node Chk Trim.
-/
import Derived.Test.YtllfdnbnkncnhaaGreatDoorMa
import Derived.Test.YtllfdnbnkncnhaaGreatDoorVm7
import Derived.Laws.Externs
/- Chapter 44: the scanners' small steps. -/
set_option maxRecDepth 100000
set_option maxHeartbeats 4000000
set_option linter.all false
namespace Go.Proofs.YtllfdnbnkncnhaaGreatDoor
open Go.Vm

theorem take_rest {α : Type} {l : List α} {i : Nat} : (l.drop i).take (l.length - i) = l.drop i := List.take_of_length_le (by rw [List.length_drop]; exact Nat.le_refl _)
theorem ibeq_dec {a b : Int} : (a == b) = decide (a = b) := by rw [Bool.eq_iff_iff, beq_iff_eq, decide_eq_true_eq]
/-- whether s begins with p -/
def begins (s p : List UInt8) : Bool := decide (p.length ≤ s.length) && (s.take p.length == p)
def cutP (s p : List UInt8) : List UInt8 × Bool := if begins s p = true then (s.drop p.length, true) else (s, false)
def encSB (r : List UInt8 × Bool) : V := .tup [.str r.1, .bool r.2]
theorem begins_le {s p : List UInt8} (h : begins s p = true) : p.length ≤ s.length := by
  simp only [begins, Bool.and_eq_true, decide_eq_true_eq] at h; exact h.1
theorem pc89 (s p : List UInt8) : PC Tryz.prog 89 [.str s, .str p] (.bool (begins s p)) := by
  refine PC.walk tok mixed cfg0 Tryz.func89 rfl Tryz.call89 (by simp ) (by first | rfl | simp ) ?_; simp (config := { maxSteps := 2000000 }) -implicitDefEqProofs +contextual (disch := first | assumption | omega | decide +kernel) only [push_cast, ↓capI, br2_true, br2_false, frk_tt, frk_tf, frk_f, frkD_tt, frkD_tf, frkD_f, pk2_true, pk2_false, imp_true, seval, Nat.reduceLeDiff, Nat.reduceEqDiff, reduceCtorEq, ↓reduceIte, reduceCtorEq, cfg0, take_rest, ibeq_dec, Tryz.ntmps89]
  refine ⟨fun h => ?_, fun h => ?_⟩
  · refine endK.ret ?_ (by first | rfl | simp ); simp [evRes, getT, retV, Tryz.f89,  begins, h]
  · refine endK.ret ?_ (by first | rfl | simp ); simp [evRes, getT, retV, Tryz.f89,  begins, h]
theorem pc113 (s p : List UInt8) : PC Tryz.prog 113 [.str s, .str p] (.bool (begins s p)) := by
  refine PC.walk tok mixed cfg0 Tryz.func113 rfl Tryz.call113 (by simp ) (by first | rfl | simp ) ?_; simp (config := { maxSteps := 2000000 }) -implicitDefEqProofs +contextual (disch := first | assumption | omega | decide +kernel) only [push_cast, ↓capI, br2_true, br2_false, frk_tt, frk_tf, frk_f, frkD_tt, frkD_tf, frkD_f, pk2_true, pk2_false, imp_true, seval, Nat.reduceLeDiff, Nat.reduceEqDiff, reduceCtorEq, ↓reduceIte, reduceCtorEq, cfg0, take_rest, ibeq_dec, Tryz.ntmps113]
  refine callO.pc (pc89 s p) ?_
  simp (config := { maxSteps := 2000000 }) -implicitDefEqProofs +contextual (disch := first | assumption | omega | decide +kernel) only [push_cast, ↓capI, br2_true, br2_false, frk_tt, frk_tf, frk_f, frkD_tt, frkD_tf, frkD_f, pk2_true, pk2_false, imp_true, seval, Nat.reduceLeDiff, Nat.reduceEqDiff, reduceCtorEq, ↓reduceIte, reduceCtorEq, cfg0, take_rest, ibeq_dec]
  refine endK.ret ?_ (by first | rfl | simp ); simp [evRes, getT, retV, Tryz.f113]
theorem pc83 (s p : List UInt8) : PC Tryz.prog 83 [.str s, .str p] (encSB (cutP s p)) := by
  refine PC.walk tok mixed cfg0 Tryz.func83 rfl Tryz.call83 (by simp ) (by first | rfl | simp ) ?_; simp (config := { maxSteps := 2000000 }) -implicitDefEqProofs +contextual (disch := first | assumption | omega | decide +kernel) only [push_cast, ↓capI, br2_true, br2_false, frk_tt, frk_tf, frk_f, frkD_tt, frkD_tf, frkD_f, pk2_true, pk2_false, imp_true, seval, Nat.reduceLeDiff, Nat.reduceEqDiff, reduceCtorEq, ↓reduceIte, reduceCtorEq, cfg0, take_rest, ibeq_dec, Tryz.ntmps83]
  refine callO.pc (pc89 s p) ?_
  cases h : begins s p
  · simp (config := { maxSteps := 2000000 }) -implicitDefEqProofs +contextual (disch := first | assumption | omega | decide +kernel) only [push_cast, ↓capI, br2_true, br2_false, frk_tt, frk_tf, frk_f, frkD_tt, frkD_tf, frkD_f, pk2_true, pk2_false, imp_true, seval, Nat.reduceLeDiff, Nat.reduceEqDiff, reduceCtorEq, ↓reduceIte, reduceCtorEq, cfg0, take_rest, ibeq_dec]
    refine endK.ret ?_ (by first | rfl | simp ); simp [evRes, getT, retV, Tryz.f83,  encSB, cutP, h]
  · have hl := begins_le h
    simp (config := { maxSteps := 2000000 }) -implicitDefEqProofs +contextual (disch := first | assumption | omega | decide +kernel) only [push_cast, ↓capI, br2_true, br2_false, frk_tt, frk_tf, frk_f, frkD_tt, frkD_tf, frkD_f, pk2_true, pk2_false, imp_true, seval, Nat.reduceLeDiff, Nat.reduceEqDiff, reduceCtorEq, ↓reduceIte, reduceCtorEq, cfg0, take_rest, ibeq_dec]
    refine endK.ret ?_ (by first | rfl | simp ); simp [evRes, getT, retV, Tryz.f83,  encSB, cutP, h]
theorem pc71 (s p : List UInt8) : PC Tryz.prog 71 [.str s, .str p] (encSB (cutP s p)) := by
  refine PC.walk tok mixed cfg0 Tryz.func71 rfl Tryz.call71 (by simp ) (by first | rfl | simp ) ?_; simp (config := { maxSteps := 2000000 }) -implicitDefEqProofs +contextual (disch := first | assumption | omega | decide +kernel) only [push_cast, ↓capI, br2_true, br2_false, frk_tt, frk_tf, frk_f, frkD_tt, frkD_tf, frkD_f, pk2_true, pk2_false, imp_true, seval, Nat.reduceLeDiff, Nat.reduceEqDiff, reduceCtorEq, ↓reduceIte, reduceCtorEq, cfg0, take_rest, ibeq_dec, Tryz.ntmps71]
  refine callO.pc (pc83 s p) ?_
  simp (config := { maxSteps := 2000000 }) -implicitDefEqProofs +contextual (disch := first | assumption | omega | decide +kernel) only [push_cast, ↓capI, br2_true, br2_false, frk_tt, frk_tf, frk_f, frkD_tt, frkD_tf, frkD_f, pk2_true, pk2_false, imp_true, seval, Nat.reduceLeDiff, Nat.reduceEqDiff, reduceCtorEq, ↓reduceIte, reduceCtorEq, cfg0, take_rest, ibeq_dec, encSB]
  refine endK.ret ?_ (by first | rfl | simp ); simp [evRes, getT, retV, Tryz.f71,  encSB]
theorem pc115 (s : List UInt8) (i : Int) (r : List V) (hr : belAll 1 r = true) : GCall Tryz.prog 115 [.ptr 0 0 0] [.cells 0 (.str s :: .int .i64 i :: r)] (.bool (decide (i = s.length))) [.cells 0 (.str s :: .int .i64 i :: r)] := by
  refine GC.walk tok mixed cfg0 Tryz.func115 rfl Tryz.call115 ?_; simp (config := { maxSteps := 2000000 }) -implicitDefEqProofs +contextual (disch := first | assumption | omega | decide +kernel) only [push_cast, ↓capI, br2_true, br2_false, frk_tt, frk_tf, frk_f, frkD_tt, frkD_tf, frkD_f, pk2_true, pk2_false, imp_true, seval, Nat.reduceLeDiff, Nat.reduceEqDiff, reduceCtorEq, ↓reduceIte, reduceCtorEq, cfg0, take_rest, ibeq_dec, Tryz.ntmps115]
  refine endG.ret ([]) (by first | rfl | simp [fzs_ok, getO, setO, fzs, fz, fzH, Nat.beq, tt_3, tt_4, tt_5, tt_9, tt_43, tt_127, tt_130, tt_132, tt_146, tt_57, tt_59, tt_126, tt_137, cfg0, take_rest, ibeq_dec, hr]) (by simp) (by simp [fzs_ok, imp, lenOK_iff, List.take_of_length_le, evRes, getT, getO, setO, fzs, fz, fzH, Nat.beq, retV, Res.then, ldT, ldR, mkV, getV, tt_3, tt_4, tt_5, tt_9, tt_43, tt_127, tt_130, tt_132, tt_146, tt_57, tt_59, tt_126, tt_137, cfg0, take_rest, ibeq_dec, Tryz.f115, hr]) (by first | rfl | simp [hr]) (by first | rfl | simp [hr])
theorem pc60 (s p : List UInt8) : GCall Tryz.prog 60 [.ptr 0 0 0, .str p] [.cells 0 [.str s]] (.bool (begins s p)) [.cells 0 [.str (cutP s p).1]] := by
  refine GC.walk tok mixed cfg0 Tryz.func60 rfl Tryz.call60 ?_; simp (config := { maxSteps := 2000000 }) -implicitDefEqProofs +contextual (disch := first | assumption | omega | decide +kernel) only [push_cast, ↓capI, br2_true, br2_false, frk_tt, frk_tf, frk_f, frkD_tt, frkD_tf, frkD_f, pk2_true, pk2_false, imp_true, seval, Nat.reduceLeDiff, Nat.reduceEqDiff, reduceCtorEq, ↓reduceIte, reduceCtorEq, cfg0, take_rest, ibeq_dec, Tryz.ntmps60]
  refine callO.pc (pc71 s p) ?_
  cases h : begins s p
  · have e : cutP s p = (s, false) := by simp [cutP, h]
    rw [e]
    simp (config := { maxSteps := 2000000 }) -implicitDefEqProofs +contextual (disch := first | assumption | omega | decide +kernel) only [push_cast, ↓capI, br2_true, br2_false, frk_tt, frk_tf, frk_f, frkD_tt, frkD_tf, frkD_f, pk2_true, pk2_false, imp_true, seval, Nat.reduceLeDiff, Nat.reduceEqDiff, reduceCtorEq, ↓reduceIte, reduceCtorEq, cfg0, take_rest, ibeq_dec, encSB]
    refine endG.ret ([]) (by first | rfl | simp [fzs_ok, getO, setO, fzs, fz, fzH, Nat.beq, tt_3, tt_4, tt_5, tt_9, tt_43, tt_127, tt_130, tt_132, tt_146, tt_57, tt_59, tt_126, tt_137, cfg0, take_rest, ibeq_dec]) (by simp) (by simp [fzs_ok, imp, lenOK_iff, List.take_of_length_le, evRes, getT, getO, setO, fzs, fz, fzH, Nat.beq, retV, Res.then, ldT, ldR, mkV, getV, tt_3, tt_4, tt_5, tt_9, tt_43, tt_127, tt_130, tt_132, tt_146, tt_57, tt_59, tt_126, tt_137, cfg0, take_rest, ibeq_dec, Tryz.f60]) (by first | rfl | simp ) (by first | rfl | simp )
  · have e : cutP s p = (s.drop p.length, true) := by simp [cutP, h]
    rw [e]
    simp (config := { maxSteps := 2000000 }) -implicitDefEqProofs +contextual (disch := first | assumption | omega | decide +kernel) only [push_cast, ↓capI, br2_true, br2_false, frk_tt, frk_tf, frk_f, frkD_tt, frkD_tf, frkD_f, pk2_true, pk2_false, imp_true, seval, Nat.reduceLeDiff, Nat.reduceEqDiff, reduceCtorEq, ↓reduceIte, reduceCtorEq, cfg0, take_rest, ibeq_dec, encSB]
    refine endG.ret ([]) (by first | rfl | simp [fzs_ok, getO, setO, fzs, fz, fzH, Nat.beq, tt_3, tt_4, tt_5, tt_9, tt_43, tt_127, tt_130, tt_132, tt_146, tt_57, tt_59, tt_126, tt_137, cfg0, take_rest, ibeq_dec]) (by simp) (by simp [fzs_ok, imp, lenOK_iff, List.take_of_length_le, evRes, getT, getO, setO, fzs, fz, fzH, Nat.beq, retV, Res.then, ldT, ldR, mkV, getV, tt_3, tt_4, tt_5, tt_9, tt_43, tt_127, tt_130, tt_132, tt_146, tt_57, tt_59, tt_126, tt_137, cfg0, take_rest, ibeq_dec, Tryz.f60]) (by first | rfl | simp ) (by first | rfl | simp )
theorem pc102 (s p : List UInt8) (i : Nat) (r : List V) (hr : belAll 1 r = true) (hi : i ≤ s.length) (hs : s.length ≤ 4000000000) (hp : p.length ≤ 4000000000) : GCall Tryz.prog 102 [.ptr 0 0 0, .str p] [.cells 0 (.str s :: .int .i64 i :: r)] (.bool (begins (s.drop i) p))
    [.cells 0 (.str s :: .int .i64 (if begins (s.drop i) p = true then (i : Int) + p.length else i) :: r)] := by
  refine GC.walk tok mixed cfg0 Tryz.func102 rfl Tryz.call102 ?_; simp (config := { maxSteps := 2000000 }) -implicitDefEqProofs +contextual (disch := first | assumption | omega | decide +kernel) only [push_cast, ↓capI, br2_true, br2_false, frk_tt, frk_tf, frk_f, frkD_tt, frkD_tf, frkD_f, pk2_true, pk2_false, imp_true, seval, Nat.reduceLeDiff, Nat.reduceEqDiff, reduceCtorEq, ↓reduceIte, reduceCtorEq, cfg0, take_rest, ibeq_dec, Tryz.ntmps102]
  refine callG.pc1 (pc113 (s.drop i) p) ?_
  cases h : begins (s.drop i) p
  · simp (config := { maxSteps := 2000000 }) -implicitDefEqProofs +contextual (disch := first | assumption | omega | decide +kernel) only [push_cast, ↓capI, br2_true, br2_false, frk_tt, frk_tf, frk_f, frkD_tt, frkD_tf, frkD_f, pk2_true, pk2_false, imp_true, seval, Nat.reduceLeDiff, Nat.reduceEqDiff, reduceCtorEq, ↓reduceIte, reduceCtorEq, cfg0, take_rest, ibeq_dec]
    refine endG.ret ([]) (by first | rfl | simp [fzs_ok, getO, setO, fzs, fz, fzH, Nat.beq, tt_3, tt_4, tt_5, tt_9, tt_43, tt_127, tt_130, tt_132, tt_146, tt_57, tt_59, tt_126, tt_137, cfg0, take_rest, ibeq_dec, hr]) (by simp) (by simp [fzs_ok, imp, lenOK_iff, List.take_of_length_le, evRes, getT, getO, setO, fzs, fz, fzH, Nat.beq, retV, Res.then, ldT, ldR, mkV, getV, tt_3, tt_4, tt_5, tt_9, tt_43, tt_127, tt_130, tt_132, tt_146, tt_57, tt_59, tt_126, tt_137, cfg0, take_rest, ibeq_dec, Tryz.f102, hr]) (by first | rfl | simp [hr]) (by first | rfl | simp [hr])
  · simp (config := { maxSteps := 2000000 }) -implicitDefEqProofs +contextual (disch := first | assumption | omega | decide +kernel) only [push_cast, ↓capI, br2_true, br2_false, frk_tt, frk_tf, frk_f, frkD_tt, frkD_tf, frkD_f, pk2_true, pk2_false, imp_true, seval, Nat.reduceLeDiff, Nat.reduceEqDiff, reduceCtorEq, ↓reduceIte, reduceCtorEq, cfg0, take_rest, ibeq_dec]
    refine endG.ret ([]) (by first | rfl | simp [fzs_ok, getO, setO, fzs, fz, fzH, Nat.beq, tt_3, tt_4, tt_5, tt_9, tt_43, tt_127, tt_130, tt_132, tt_146, tt_57, tt_59, tt_126, tt_137, cfg0, take_rest, ibeq_dec, hr]) (by simp) (by simp [fzs_ok, imp, lenOK_iff, List.take_of_length_le, evRes, getT, getO, setO, fzs, fz, fzH, Nat.beq, retV, Res.then, ldT, ldR, mkV, getV, tt_3, tt_4, tt_5, tt_9, tt_43, tt_127, tt_130, tt_132, tt_146, tt_57, tt_59, tt_126, tt_137, cfg0, take_rest, ibeq_dec, Tryz.f102, hr]) (by first | rfl | simp [hr]) (by first | rfl | simp [hr])
end Go.Proofs.YtllfdnbnkncnhaaGreatDoor

/- Chapter 44: the first place of a byte in a text. -/
set_option maxRecDepth 100000
set_option maxHeartbeats 4000000
set_option linter.all false
namespace Go.Proofs.YtllfdnbnkncnhaaGreatDoor
open Go.Vm

def idxGo (c : Int) : List UInt8 → Nat → Int
  | [], _ => -1
  | x :: l, i => if (x.toNat : Int) = c then i else idxGo c l (i + 1)
def idxB (s : List UInt8) (c : Int) : Int := idxGo c s 0
theorem find_idx {s : List UInt8} {c : UInt8} : ∀ {i : Nat}, i ≤ s.length → (match (List.range' i (s.length - i)).find? (fun j => s[j]! == c) with | some j => (j : Int) | none => -1) = idxGo c.toNat (s.drop i) i := by
  intro i hi
  generalize hk : s.length - i = k
  induction k generalizing i with
  | zero =>
    rw [List.drop_of_length_le (by omega)]
    rfl
  | succ k ih =>
    have h : i < s.length := by omega
    rw [List.drop_eq_getElem_cons h, List.range'_succ, List.find?_cons, idxGo, List.getElem!_eq_getElem?_getD, List.getElem?_eq_getElem h, Option.getD_some]
    by_cases he : s[i] = c
    · simp [he]
    · have h1 : (s[i] == c) = false := by simpa using he
      have h2 : ¬ (s[i].toNat : Int) = (c.toNat : Int) := by
        intro e
        exact he (UInt8.toNat_inj.1 (by omega))
      rw [h1, if_neg h2]
      exact ih (by omega) (by omega)
theorem firstIdx_eq {s : List UInt8} {c : Int} (hc : 0 ≤ c ∧ c ≤ 255) : firstIdx ⟨s.toArray⟩ c.toNat.toUInt8 = idxB s c := by
  have hg : ∀ i : Nat, (⟨s.toArray⟩ : ByteArray)[i]! = s[i]! := by
    intro i
    have hs : (⟨s.toArray⟩ : ByteArray).size = s.length := by simp [ByteArray.size]
    by_cases h : i < s.length
    · rw [getElem!_pos (⟨s.toArray⟩ : ByteArray) i (by rw [hs]; exact h), getElem!_pos s i h]
      rfl
    · rw [getElem!_neg (⟨s.toArray⟩ : ByteArray) i (by rw [hs]; exact h), getElem!_neg s i h]
  have hcc : ((c.toNat.toUInt8).toNat : Int) = c := by
    rw [Nat.toUInt8_eq, UInt8.toNat_ofNat']
    omega
  have hs : (⟨s.toArray⟩ : ByteArray).size = s.length := by simp [ByteArray.size]
  have := find_idx (s := s) (c := c.toNat.toUInt8) (i := 0) (Nat.zero_le _)
  rw [hcc, List.drop_zero, Nat.sub_zero, ← List.range_eq_range'] at this
  rw [firstIdx, hs, idxB, ← this]
  simp only [hg]
  rfl
theorem x125 (s : List UInt8) (c : Int) (hc : 0 ≤ c ∧ c ≤ 255) : XCall Tryz.prog 125 [.str s, .int .u8 c] (.int .i64 (idxB s c)) := by
  intro own w β vals h
  match vals, h with
  | [a, b], h =>
    simp only [VRs, VR, and_true] at h
    obtain ⟨rfl, rfl⟩ := h
    refine ⟨.int .i64 (idxB s c), ?_, by simp only [VR]⟩
    rw [run_callFunc_extern (fn := Tryz.f125) (e := Extern.BytealgIndexByte.indexByte) Tryz.func125 (by kernel_rfl) (by kernel_rfl) (by kernel_rfl) (by rfl)]
    rw [run_indexByte_string, firstIdx_eq hc]
    rfl
  | [], h => simp [VRs] at h
  | [_], h => simp [VRs] at h
  | _ :: _ :: _ :: _, h => simp [VRs] at h
theorem pc124 (s : List UInt8) (c : Int) (hc : 0 ≤ c ∧ c ≤ 255) : PC Tryz.prog 124 [.str s, .int .u8 c] (.int .i64 (idxB s c)) := by
  refine PC.walk tok mixed cfg0 Tryz.func124 rfl Tryz.call124 (by simp ) (by first | rfl | simp ) ?_; simp (config := { maxSteps := 2000000 }) -implicitDefEqProofs +contextual (disch := first | assumption | omega | decide +kernel) only [push_cast, ↓capI, br2_true, br2_false, frk_tt, frk_tf, frk_f, frkD_tt, frkD_tf, frkD_f, pk2_true, pk2_false, imp_true, seval, Nat.reduceLeDiff, Nat.reduceEqDiff, reduceCtorEq, ↓reduceIte, reduceCtorEq, cfg0, take_rest, ibeq_dec, Tryz.ntmps124]
  refine callO.ext (x125 s c hc) ?_
  simp (config := { maxSteps := 2000000 }) -implicitDefEqProofs +contextual (disch := first | assumption | omega | decide +kernel) only [push_cast, ↓capI, br2_true, br2_false, frk_tt, frk_tf, frk_f, frkD_tt, frkD_tf, frkD_f, pk2_true, pk2_false, imp_true, seval, Nat.reduceLeDiff, Nat.reduceEqDiff, reduceCtorEq, ↓reduceIte, reduceCtorEq, cfg0, take_rest, ibeq_dec]
  refine endK.ret ?_ (by first | rfl | simp ); simp [evRes, getT, retV, Tryz.f124]
theorem pc120 (s : List UInt8) (c : Int) (hc : 0 ≤ c ∧ c ≤ 255) : PC Tryz.prog 120 [.str s, .int .u8 c] (.int .i64 (idxB s c)) := by
  refine PC.walk tok mixed cfg0 Tryz.func120 rfl Tryz.call120 (by simp ) (by first | rfl | simp ) ?_; simp (config := { maxSteps := 2000000 }) -implicitDefEqProofs +contextual (disch := first | assumption | omega | decide +kernel) only [push_cast, ↓capI, br2_true, br2_false, frk_tt, frk_tf, frk_f, frkD_tt, frkD_tf, frkD_f, pk2_true, pk2_false, imp_true, seval, Nat.reduceLeDiff, Nat.reduceEqDiff, reduceCtorEq, ↓reduceIte, reduceCtorEq, cfg0, take_rest, ibeq_dec, Tryz.ntmps120]
  refine callO.pc (pc124 s c hc) ?_
  simp (config := { maxSteps := 2000000 }) -implicitDefEqProofs +contextual (disch := first | assumption | omega | decide +kernel) only [push_cast, ↓capI, br2_true, br2_false, frk_tt, frk_tf, frk_f, frkD_tt, frkD_tf, frkD_f, pk2_true, pk2_false, imp_true, seval, Nat.reduceLeDiff, Nat.reduceEqDiff, reduceCtorEq, ↓reduceIte, reduceCtorEq, cfg0, take_rest, ibeq_dec]
  refine endK.ret ?_ (by first | rfl | simp ); simp [evRes, getT, retV, Tryz.f120]
end Go.Proofs.YtllfdnbnkncnhaaGreatDoor

/- Chapter 44: decimal numbers read by the program. -/
set_option maxRecDepth 100000
set_option maxHeartbeats 4000000
set_option linter.all false
namespace Go.Proofs.YtllfdnbnkncnhaaGreatDoor
open Go.Vm

def isDig (b : UInt8) : Bool := decide (48 ≤ b.toNat) && decide (b.toNat ≤ 57)
def hexs : List UInt8 := [48, 49, 50, 51, 52, 53, 54, 55, 56, 57, 97, 98, 99, 100, 101, 102]
theorem idx_dig {b : UInt8} : idxB [48, 49, 50, 51, 52, 53, 54, 55, 56, 57] (b.toNat : Int) = if isDig b = true then (b.toNat : Int) - 48 else -1 := by
  have key : ∀ n : Fin 256, idxB [48, 49, 50, 51, 52, 53, 54, 55, 56, 57] ((n.val : Nat) : Int) = if (decide (48 ≤ n.val) && decide (n.val ≤ 57)) = true then ((n.val : Nat) : Int) - 48 else -1 := by decide +kernel
  exact key ⟨b.toNat, b.toNat_lt⟩
theorem callO.part0 {P : Program} {H : List Ob} {KV : V → List Ob → Prop} {n : Nat} {args a b args0 : List V} {v : V} {G G' : List Ob} (ps : List Nat) (h : GCall P n args0 G v G') (hn : ps.Nodup) (hk' : G'.length = G.length)
    (ha : a ++ args ++ b = rns (qn ps H.length) args0) (hG : objsAt H ps (rnOs (qn ps H.length) G)) (k : KV (v.rn (qn ps H.length)) (setPs H ps (rnOs (qn ps H.length) G'))) : callO P (.fn (.func n) a b) args H KV :=
  callO.part (G' := G') (J := []) ps (by rw [List.append_nil]; exact h) hn hk' ha hG (by rw [rnOs, List.append_nil]; exact k)
def num (s : List UInt8) (i : Int) : List Ob := [.cells 0 [.str s, .int .i64 i, .int .i64 10]]
theorem pc114 (s : List UInt8) (i : Nat) (hs : s.length ≤ 4000000000) (h : i < s.length) (hd : isDig s[i] = true) :
    GCall Tryz.prog 114 [.ptr 0 0 0, .int .i64 10] (num s i) (.tup [.int .i64 ((s[i].toNat : Int) - 48), .bool true]) (num s ((i : Int) + 1)) := by
  have hn : ¬ (i : Int) = s.length := by omega
  have hb : (s[i].toNat : Int) ≤ 255 := by have := s[i].toNat_lt; omega
  have hd2 := hd
  simp only [isDig, Bool.and_eq_true, decide_eq_true_eq] at hd2
  have hneg : ¬ (s[i].toNat : Int) - 48 < 0 := by omega
  have hx := pc120 [48, 49, 50, 51, 52, 53, 54, 55, 56, 57] (s[i].toNat : Int) ⟨by omega, hb⟩
  rw [idx_dig, if_pos hd] at hx
  unfold num
  refine GC.walk tok mixed cfg0 Tryz.func114 rfl Tryz.call114 ?_; simp (config := { maxSteps := 2000000 }) -implicitDefEqProofs +contextual (disch := first | assumption | omega | decide +kernel) only [push_cast, ↓capI, br2_true, br2_false, frk_tt, frk_tf, frk_f, frkD_tt, frkD_tf, frkD_f, pk2_true, pk2_false, imp_true, seval, Nat.reduceLeDiff, Nat.reduceEqDiff, reduceCtorEq, ↓reduceIte, reduceCtorEq, cfg0, take_rest, ibeq_dec, V.rn, rns, qn, setPs, rnOs, Ob.rn, List.set_cons_zero, List.size_toArray, Tryz.ntmps114]
  refine callO.part0 [0] (pc115 s i [.int .i64 10] rfl) (by decide) rfl rfl ⟨by rfl, by simp, trivial⟩ ?_
  have hgd : s.getD i 0 = s[i] := by rw [List.getD_eq_getElem?_getD, List.getElem?_eq_getElem h]; rfl
  simp (config := { maxSteps := 2000000 }) -implicitDefEqProofs +contextual (disch := first | assumption | omega | decide +kernel) only [push_cast, ↓capI, br2_true, br2_false, frk_tt, frk_tf, frk_f, frkD_tt, frkD_tf, frkD_f, pk2_true, pk2_false, imp_true, seval, Nat.reduceLeDiff, Nat.reduceEqDiff, reduceCtorEq, ↓reduceIte, reduceCtorEq, cfg0, take_rest, ibeq_dec, V.rn, rns, qn, setPs, rnOs, Ob.rn, List.set_cons_zero, List.size_toArray, hn, hgd]
  refine callG.pc1 hx ?_
  simp (config := { maxSteps := 2000000 }) -implicitDefEqProofs +contextual (disch := first | assumption | omega | decide +kernel) only [push_cast, ↓capI, br2_true, br2_false, frk_tt, frk_tf, frk_f, frkD_tt, frkD_tf, frkD_f, pk2_true, pk2_false, imp_true, seval, Nat.reduceLeDiff, Nat.reduceEqDiff, reduceCtorEq, ↓reduceIte, reduceCtorEq, cfg0, take_rest, ibeq_dec, V.rn, rns, qn, setPs, rnOs, Ob.rn, List.set_cons_zero, List.size_toArray, hneg]
  refine endG.ret ([]) (by first | rfl | simp [fzs_ok, getO, setO, fzs, fz, fzH, Nat.beq, tt_3, tt_4, tt_5, tt_9, tt_43, tt_127, tt_130, tt_132, tt_146, tt_57, tt_59, tt_126, tt_137, cfg0, take_rest, ibeq_dec, V.rn, rns, qn, setPs, rnOs, Ob.rn, List.set_cons_zero, List.size_toArray]) (by simp) (by simp [fzs_ok, imp, lenOK_iff, List.take_of_length_le, evRes, getT, getO, setO, fzs, fz, fzH, Nat.beq, retV, Res.then, ldT, ldR, mkV, getV, tt_3, tt_4, tt_5, tt_9, tt_43, tt_127, tt_130, tt_132, tt_146, tt_57, tt_59, tt_126, tt_137, cfg0, take_rest, ibeq_dec, V.rn, rns, qn, setPs, rnOs, Ob.rn, List.set_cons_zero, List.size_toArray, Tryz.f114]) (by first | rfl | simp ) (by first | rfl | simp )
theorem pc103_no (s : List UInt8) (i : Nat) (hs : s.length ≤ 4000000000) (hi : i ≤ s.length) (hd : ∀ h : i < s.length, isDig s[i] = false) :
    GCall Tryz.prog 114 [.ptr 0 0 0, .int .i64 10] (num s i) (.tup [.int .i64 0, .bool false]) (num s i) := by
  unfold num
  refine GC.walk tok mixed cfg0 Tryz.func114 rfl Tryz.call114 ?_; simp (config := { maxSteps := 2000000 }) -implicitDefEqProofs +contextual (disch := first | assumption | omega | decide +kernel) only [push_cast, ↓capI, br2_true, br2_false, frk_tt, frk_tf, frk_f, frkD_tt, frkD_tf, frkD_f, pk2_true, pk2_false, imp_true, seval, Nat.reduceLeDiff, Nat.reduceEqDiff, reduceCtorEq, ↓reduceIte, reduceCtorEq, cfg0, take_rest, ibeq_dec, V.rn, rns, qn, setPs, rnOs, Ob.rn, List.set_cons_zero, List.size_toArray, Tryz.ntmps114]
  refine callO.part0 [0] (pc115 s i [.int .i64 10] rfl) (by decide) rfl rfl ⟨by rfl, by simp, trivial⟩ ?_
  by_cases h : i < s.length
  case neg =>
    have hn : (i : Int) = s.length := by omega
    simp (config := { maxSteps := 2000000 }) -implicitDefEqProofs +contextual (disch := first | assumption | omega | decide +kernel) only [push_cast, ↓capI, br2_true, br2_false, frk_tt, frk_tf, frk_f, frkD_tt, frkD_tf, frkD_f, pk2_true, pk2_false, imp_true, seval, Nat.reduceLeDiff, Nat.reduceEqDiff, reduceCtorEq, ↓reduceIte, reduceCtorEq, cfg0, take_rest, ibeq_dec, V.rn, rns, qn, setPs, rnOs, Ob.rn, List.set_cons_zero, List.size_toArray, hn]
    refine endG.ret ([]) (by first | rfl | simp [fzs_ok, getO, setO, fzs, fz, fzH, Nat.beq, tt_3, tt_4, tt_5, tt_9, tt_43, tt_127, tt_130, tt_132, tt_146, tt_57, tt_59, tt_126, tt_137, cfg0, take_rest, ibeq_dec, V.rn, rns, qn, setPs, rnOs, Ob.rn, List.set_cons_zero, List.size_toArray, hn]) (by simp) (by simp [fzs_ok, imp, lenOK_iff, List.take_of_length_le, evRes, getT, getO, setO, fzs, fz, fzH, Nat.beq, retV, Res.then, ldT, ldR, mkV, getV, tt_3, tt_4, tt_5, tt_9, tt_43, tt_127, tt_130, tt_132, tt_146, tt_57, tt_59, tt_126, tt_137, cfg0, take_rest, ibeq_dec, V.rn, rns, qn, setPs, rnOs, Ob.rn, List.set_cons_zero, List.size_toArray, Tryz.f114, hn]) (by first | rfl | simp [hn]) (by first | rfl | simp [hn])
  have hn : ¬ (i : Int) = s.length := by omega
  have hb : (s[i].toNat : Int) ≤ 255 := by have := s[i].toNat_lt; omega
  have hx := pc120 [48, 49, 50, 51, 52, 53, 54, 55, 56, 57] (s[i].toNat : Int) ⟨by omega, hb⟩
  rw [idx_dig, if_neg (by rw [hd h]; simp)] at hx
  have hgd : s.getD i 0 = s[i] := by rw [List.getD_eq_getElem?_getD, List.getElem?_eq_getElem h]; rfl
  simp (config := { maxSteps := 2000000 }) -implicitDefEqProofs +contextual (disch := first | assumption | omega | decide +kernel) only [push_cast, ↓capI, br2_true, br2_false, frk_tt, frk_tf, frk_f, frkD_tt, frkD_tf, frkD_f, pk2_true, pk2_false, imp_true, seval, Nat.reduceLeDiff, Nat.reduceEqDiff, reduceCtorEq, ↓reduceIte, reduceCtorEq, cfg0, take_rest, ibeq_dec, V.rn, rns, qn, setPs, rnOs, Ob.rn, List.set_cons_zero, List.size_toArray, hn, hgd]
  refine callG.pc1 hx ?_
  simp (config := { maxSteps := 2000000 }) -implicitDefEqProofs +contextual (disch := first | assumption | omega | decide +kernel) only [push_cast, ↓capI, br2_true, br2_false, frk_tt, frk_tf, frk_f, frkD_tt, frkD_tf, frkD_f, pk2_true, pk2_false, imp_true, seval, Nat.reduceLeDiff, Nat.reduceEqDiff, reduceCtorEq, ↓reduceIte, reduceCtorEq, cfg0, take_rest, ibeq_dec, V.rn, rns, qn, setPs, rnOs, Ob.rn, List.set_cons_zero, List.size_toArray]
  refine endG.ret ([]) (by first | rfl | simp [fzs_ok, getO, setO, fzs, fz, fzH, Nat.beq, tt_3, tt_4, tt_5, tt_9, tt_43, tt_127, tt_130, tt_132, tt_146, tt_57, tt_59, tt_126, tt_137, cfg0, take_rest, ibeq_dec, V.rn, rns, qn, setPs, rnOs, Ob.rn, List.set_cons_zero, List.size_toArray]) (by simp) (by simp [fzs_ok, imp, lenOK_iff, List.take_of_length_le, evRes, getT, getO, setO, fzs, fz, fzH, Nat.beq, retV, Res.then, ldT, ldR, mkV, getV, tt_3, tt_4, tt_5, tt_9, tt_43, tt_127, tt_130, tt_132, tt_146, tt_57, tt_59, tt_126, tt_137, cfg0, take_rest, ibeq_dec, V.rn, rns, qn, setPs, rnOs, Ob.rn, List.set_cons_zero, List.size_toArray, Tryz.f114]) (by first | rfl | simp ) (by first | rfl | simp )
def valL : List UInt8 → Nat → Option Nat
  | [], v => some v
  | c :: l, v => if isDig c = true then valL l (v * 10 + (c.toNat - 48)) else none
def valR (s : List UInt8) (i : Nat) : V := match valL (s.drop i) 0 with
  | some v => .tup [.int .u64 v, .int .i64 ((s.length - i : Nat) : Int), .bool (decide (i < s.length))]
  | none => .tup [.int .u64 0, .int .i64 0, .bool false]
theorem valR_some {s : List UInt8} {i v : Nat} (h : valL (s.drop i) 0 = some v) : valR s i = .tup [.int .u64 v, .int .i64 ((s.length - i : Nat) : Int), .bool (decide (i < s.length))] := by rw [valR, h]
theorem valR_none {s : List UInt8} {i : Nat} (h : valL (s.drop i) 0 = none) : valR s i = .tup [.int .u64 0, .int .i64 0, .bool false] := by rw [valR, h]
theorem pc104 (s : List UInt8) (i : Nat) (hs : s.length ≤ 4000000000) (hi : i ≤ s.length) (h9 : s.length - i ≤ 9) :
    GCall Tryz.prog 104 [.ptr 0 0 0, .int .u64 4294967295] (num s i) (valR s i) [.dead] := by
  unfold num
  refine GC.walk tok mixed cfg0 Tryz.func104 rfl Tryz.call104 ?_; simp (config := { maxSteps := 2000000 }) -implicitDefEqProofs +contextual (disch := first | assumption | omega | decide +kernel) only [push_cast, ↓capI, br2_true, br2_false, frk_tt, frk_tf, frk_f, frkD_tt, frkD_tf, frkD_f, pk2_true, pk2_false, imp_true, seval, Nat.reduceLeDiff, Nat.reduceEqDiff, reduceCtorEq, ↓reduceIte, reduceCtorEq, cfg0, take_rest, ibeq_dec, V.rn, rns, qn, setPs, rnOs, Ob.rn, List.set_cons_zero, List.size_toArray, Tryz.ntmps104]
  refine T.lp tok mixed cfg0 (fun ((j, v) : Nat × Nat) => kp 2 (dd 2 (sv (.int .u64 (v : Int)) (sv (.int .i64 ((j - i : Nat) : Int)) (dd 1 (kp 1 (dd 41 (nl)))))))) (fun H0 ((j, v) : Nat × Nat) => num s j) (fun ((j, v) : Nat × Nat) => i ≤ j ∧ j ≤ s.length ∧ v < 10 ^ (j - i) ∧ valL (s.drop j) v = valL (s.drop i) 0) (fun ((j, v) : Nat × Nat) => s.length - j) ((i, 0)) ?_ ?_ ?_
  · exact ⟨Nat.le_refl _, hi, by simp, rfl⟩
  · unfold num
    exact Gn.canon (J := []) (by first | rfl | (simp [List.append_nil]; done) | (simp [List.append_nil]; rfl)) (by simp [wk, putT, kp, dd, sv, nl]) (by simp [List.length_append]) (by simp [kp, dd, sv, nl]) (by simp )
  rintro ⟨j, v⟩ ⟨hij, hj, hv, hr⟩
  have hv9 : v < 1000000000 := Nat.lt_of_lt_of_le hv (Nat.pow_le_pow_right (by omega) (by omega : j - i ≤ 9))
  simp (config := { maxSteps := 2000000 }) -implicitDefEqProofs +contextual (disch := first | assumption | omega | decide +kernel) only [push_cast, ↓capI, br2_true, br2_false, frk_tt, frk_tf, frk_f, frkD_tt, frkD_tf, frkD_f, pk2_true, pk2_false, imp_true, seval, Nat.reduceLeDiff, Nat.reduceEqDiff, reduceCtorEq, ↓reduceIte, reduceCtorEq, cfg0, take_rest, ibeq_dec, V.rn, rns, qn, setPs, rnOs, Ob.rn, List.set_cons_zero, List.size_toArray, num]
  refine callO.part0 [0] (pc115 s j [.int .i64 10] rfl) (by decide) rfl rfl ⟨by rfl, by simp, trivial⟩ ?_
  by_cases hlt : j < s.length
  case neg =>
    have hn : (j : Int) = s.length := by omega
    rw [List.drop_of_length_le (by omega), valL] at hr
    have hdec : decide ((0 : Int) < (s.length : Int) - (i : Int)) = decide (i < s.length) := by
      rw [decide_eq_decide]; omega
    rw [valR_some hr.symm]
    simp (config := { maxSteps := 2000000 }) -implicitDefEqProofs +contextual (disch := first | assumption | omega | decide +kernel) only [push_cast, ↓capI, br2_true, br2_false, frk_tt, frk_tf, frk_f, frkD_tt, frkD_tf, frkD_f, pk2_true, pk2_false, imp_true, seval, Nat.reduceLeDiff, Nat.reduceEqDiff, reduceCtorEq, ↓reduceIte, reduceCtorEq, cfg0, take_rest, ibeq_dec, V.rn, rns, qn, setPs, rnOs, Ob.rn, List.set_cons_zero, List.size_toArray, hn]
    refine endG.gn (Gn.freeze (id := 0) rfl) ?_; refine endG.ret ([]) (by first | rfl | simp [fzs_ok, getO, setO, fzs, fz, fzH, Nat.beq, tt_3, tt_4, tt_5, tt_9, tt_43, tt_127, tt_130, tt_132, tt_146, tt_57, tt_59, tt_126, tt_137, cfg0, take_rest, ibeq_dec, V.rn, rns, qn, setPs, rnOs, Ob.rn, List.set_cons_zero, List.size_toArray, hdec]) (by simp) (by simp [fzs_ok, imp, lenOK_iff, List.take_of_length_le, evRes, getT, getO, setO, fzs, fz, fzH, Nat.beq, retV, Res.then, ldT, ldR, mkV, getV, tt_3, tt_4, tt_5, tt_9, tt_43, tt_127, tt_130, tt_132, tt_146, tt_57, tt_59, tt_126, tt_137, cfg0, take_rest, ibeq_dec, V.rn, rns, qn, setPs, rnOs, Ob.rn, List.set_cons_zero, List.size_toArray, Tryz.f104, hdec]) (by first | rfl | simp [hdec]) (by first | rfl | simp [hdec])
  have hn : ¬ (j : Int) = s.length := by omega
  rw [List.drop_eq_getElem_cons hlt, valL] at hr
  simp (config := { maxSteps := 2000000 }) -implicitDefEqProofs +contextual (disch := first | assumption | omega | decide +kernel) only [push_cast, ↓capI, br2_true, br2_false, frk_tt, frk_tf, frk_f, frkD_tt, frkD_tf, frkD_f, pk2_true, pk2_false, imp_true, seval, Nat.reduceLeDiff, Nat.reduceEqDiff, reduceCtorEq, ↓reduceIte, reduceCtorEq, cfg0, take_rest, ibeq_dec, V.rn, rns, qn, setPs, rnOs, Ob.rn, List.set_cons_zero, List.size_toArray, hn]
  cases hd : isDig s[j]
  case false =>
    refine callO.part0 [0] (pc103_no s j hs hj (fun _ => hd)) (by decide) rfl rfl ⟨by rfl, by simp, trivial⟩ ?_
    rw [hd, if_neg (by simp)] at hr
    rw [valR_none hr.symm]
    simp (config := { maxSteps := 2000000 }) -implicitDefEqProofs +contextual (disch := first | assumption | omega | decide +kernel) only [push_cast, ↓capI, br2_true, br2_false, frk_tt, frk_tf, frk_f, frkD_tt, frkD_tf, frkD_f, pk2_true, pk2_false, imp_true, seval, Nat.reduceLeDiff, Nat.reduceEqDiff, reduceCtorEq, ↓reduceIte, reduceCtorEq, cfg0, take_rest, ibeq_dec, V.rn, rns, qn, setPs, rnOs, Ob.rn, List.set_cons_zero, List.size_toArray, num]
    refine endG.gn (Gn.freeze (id := 0) rfl) ?_; refine endG.ret ([]) (by first | rfl | simp [fzs_ok, getO, setO, fzs, fz, fzH, Nat.beq, tt_3, tt_4, tt_5, tt_9, tt_43, tt_127, tt_130, tt_132, tt_146, tt_57, tt_59, tt_126, tt_137, cfg0, take_rest, ibeq_dec, V.rn, rns, qn, setPs, rnOs, Ob.rn, List.set_cons_zero, List.size_toArray]) (by simp) (by simp [fzs_ok, imp, lenOK_iff, List.take_of_length_le, evRes, getT, getO, setO, fzs, fz, fzH, Nat.beq, retV, Res.then, ldT, ldR, mkV, getV, tt_3, tt_4, tt_5, tt_9, tt_43, tt_127, tt_130, tt_132, tt_146, tt_57, tt_59, tt_126, tt_137, cfg0, take_rest, ibeq_dec, V.rn, rns, qn, setPs, rnOs, Ob.rn, List.set_cons_zero, List.size_toArray, Tryz.f104]) (by first | rfl | simp ) (by first | rfl | simp )
  refine callO.part0 [0] (pc114 s j hs hlt hd) (by decide) rfl rfl ⟨by rfl, by simp, trivial⟩ ?_
  rw [hd, if_pos rfl] at hr
  have hd2 := hd
  simp only [isDig, Bool.and_eq_true, decide_eq_true_eq] at hd2
  have hc : ((s[j].toNat : Int) - 48) = ((s[j].toNat - 48 : Nat) : Int) := by omega
  have hp : v * 10 + (s[j].toNat - 48) < 10 ^ (j + 1 - i) := by
    rw [show j + 1 - i = (j - i) + 1 by omega, Nat.pow_succ]
    omega
  have hp2 : v * 10 + (s[j].toNat - 48) < 1000000000 := Nat.lt_of_lt_of_le hp (Nat.pow_le_pow_right (by omega) (by omega : j + 1 - i ≤ 9))
  generalize s[j].toNat - 48 = c at hr hc hp hp2
  rw [hc]
  simp (config := { maxSteps := 2000000 }) -implicitDefEqProofs +contextual (disch := first | assumption | omega | decide +kernel) only [push_cast, ↓capI, br2_true, br2_false, frk_tt, frk_tf, frk_f, frkD_tt, frkD_tf, frkD_f, pk2_true, pk2_false, imp_true, seval, Nat.reduceLeDiff, Nat.reduceEqDiff, reduceCtorEq, ↓reduceIte, reduceCtorEq, cfg0, take_rest, ibeq_dec, V.rn, rns, qn, setPs, rnOs, Ob.rn, List.set_cons_zero, List.size_toArray, num]
  have hji : (j : Int) - (i : Int) + 1 = ((j + 1 - i : Nat) : Int) := by omega
  refine ⟨(j + 1, v * 10 + c), ⟨by simp only; omega, by simp only; omega, hp, hr⟩, by (try simp only); omega, ?_⟩; exact Gn.canon (by first | rfl | (simp [List.append_nil, num, hji]; rfl)) (by simp [wk, num, hji]) (by simp [List.length_append]) (by simp ) (by simp )
end Go.Proofs.YtllfdnbnkncnhaaGreatDoor

/- Chapter 44: integers read by the program. -/
set_option maxRecDepth 100000
set_option maxHeartbeats 4000000
set_option linter.all false
namespace Go.Proofs.YtllfdnbnkncnhaaGreatDoor
open Go.Vm

def canonD (d : List UInt8) : Bool := decide (d.length = 1) || (decide (d ≠ []) && (((d.getD 0 0).toNat : Int) != 48))
theorem pcj101 (s : List UInt8) : PCJ Tryz.prog 101 [.str s] (.ptr 0 0 0) (num s 0) := by
  refine PCJ.walk tok mixed cfg0 Tryz.func101 rfl Tryz.call101 (by simp ) ?_; simp (config := { maxSteps := 2000000 }) -implicitDefEqProofs +contextual (disch := first | assumption | omega | decide +kernel) only [push_cast, ↓capI, br2_true, br2_false, frk_tt, frk_tf, frk_f, frkD_tt, frkD_tf, frkD_f, pk2_true, pk2_false, imp_true, seval, Nat.reduceLeDiff, Nat.reduceEqDiff, reduceCtorEq, ↓reduceIte, reduceCtorEq, cfg0, take_rest, ibeq_dec, V.rn, rns, qn, setPs, rnOs, Ob.rn, List.set_cons_zero, List.size_toArray, Tryz.ntmps101]
  refine endJ.ret ([]) (by simp [fzs_ok, getO, setO, fzs, fz, fzH, Nat.beq, tt_3, tt_4, tt_5, tt_9, tt_43, tt_127, tt_130, tt_132, tt_146, tt_57, tt_59, tt_126, tt_137, cfg0, take_rest, ibeq_dec, V.rn, rns, qn, setPs, rnOs, Ob.rn, List.set_cons_zero, List.size_toArray, num]) (by simp [fzs_ok, imp, lenOK_iff, List.take_of_length_le, evRes, getT, getO, setO, fzs, fz, fzH, Nat.beq, retV, Res.then, ldT, ldR, mkV, getV, tt_3, tt_4, tt_5, tt_9, tt_43, tt_127, tt_130, tt_132, tt_146, tt_57, tt_59, tt_126, tt_137, cfg0, take_rest, ibeq_dec, V.rn, rns, qn, setPs, rnOs, Ob.rn, List.set_cons_zero, List.size_toArray, Tryz.f101, num]) (by first | rfl | simp [num]) (by first | rfl | simp [num])
theorem pc103 (d : List UInt8) : PC Tryz.prog 103 [.str d] (.bool (canonD d)) := by
  refine PC.walk tok mixed cfg0 Tryz.func103 rfl Tryz.call103 (by simp ) (by first | rfl | simp ) ?_; simp (config := { maxSteps := 2000000 }) -implicitDefEqProofs +contextual (disch := first | assumption | omega | decide +kernel) only [push_cast, ↓capI, br2_true, br2_false, frk_tt, frk_tf, frk_f, frkD_tt, frkD_tf, frkD_f, pk2_true, pk2_false, imp_true, seval, Nat.reduceLeDiff, Nat.reduceEqDiff, reduceCtorEq, ↓reduceIte, reduceCtorEq, cfg0, take_rest, ibeq_dec, V.rn, rns, qn, setPs, rnOs, Ob.rn, List.set_cons_zero, List.size_toArray, Tryz.ntmps103]
  refine ⟨fun h => ⟨fun h2 => ?_, fun h2 => ?_⟩, fun h => ?_⟩
  · have h3 : (0 : Int) < (d.length : Int) := by
      have := List.length_pos_iff.2 h2
      omega
    have h4 : ¬ d.length = 1 := by omega
    refine ⟨h3, fun _ => ?_⟩
    refine endK.ret ?_ (by first | rfl | simp ); simp [evRes, getT, retV, Tryz.f103,  canonD, h2, h4]
  · refine endK.ret ?_ (by first | rfl | simp ); simp [evRes, getT, retV, Tryz.f103,  canonD]
  · have h4 : d.length = 1 := by omega
    refine endK.ret ?_ (by first | rfl | simp ); simp [evRes, getT, retV, Tryz.f103,  canonD, h4]
def parseI (s : List UInt8) : Int × Bool :=
  if begins s [45] = true then
    (if 9 < (s.drop 1).length ∨ canonD (s.drop 1) = false then (0, false) else match valL (s.drop 1) 0 with
      | some v => if v = 0 then (0, false) else (-(v : Int), true)
      | none => (0, false))
  else (if 9 < s.length ∨ canonD s = false then (0, false) else match valL s 0 with
    | some v => ((v : Int), true)
    | none => (0, false))
def encIB (r : Int × Bool) : V := .tup [.int .i64 r.1, .bool r.2]
theorem valL_lt : ∀ {s : List UInt8} {v r : Nat}, valL s v = some r → r < (v + 1) * 10 ^ s.length
  | [], v, r, h => by
    simp only [valL, Option.some.injEq] at h
    simp; omega
  | c :: s, v, r, h => by
    rw [valL] at h
    split at h
    · rename_i hd
      simp only [isDig, Bool.and_eq_true, decide_eq_true_eq] at hd
      have := valL_lt h
      rw [List.length_cons, Nat.pow_succ]
      refine Nat.lt_of_lt_of_le this ?_
      have : (v * 10 + (c.toNat - 48) + 1) ≤ (v + 1) * 10 := by omega
      calc (v * 10 + (c.toNat - 48) + 1) * 10 ^ s.length ≤ ((v + 1) * 10) * 10 ^ s.length := Nat.mul_le_mul_right _ this
        _ = (v + 1) * (10 ^ s.length * 10) := by rw [Nat.mul_assoc, Nat.mul_comm 10]
    · cases h
theorem canonD_pos {d : List UInt8} (h : canonD d = true) : 0 < d.length := by
  cases d with
  | nil => simp [canonD] at h
  | cons => simp
theorem pc91 (s : List UInt8) (hs : s.length ≤ 4000000000) : PC Tryz.prog 91 [.str s] (encIB (parseI s)) := by
  refine PC.walk tok mixed cfg0 Tryz.func91 rfl Tryz.call91 (by simp ) (by first | rfl | simp ) ?_; simp (config := { maxSteps := 2000000 }) -implicitDefEqProofs +contextual (disch := first | assumption | omega | decide +kernel) only [push_cast, ↓capI, br2_true, br2_false, frk_tt, frk_tf, frk_f, frkD_tt, frkD_tf, frkD_f, pk2_true, pk2_false, imp_true, seval, Nat.reduceLeDiff, Nat.reduceEqDiff, reduceCtorEq, ↓reduceIte, reduceCtorEq, cfg0, take_rest, ibeq_dec, V.rn, rns, qn, setPs, rnOs, Ob.rn, List.set_cons_zero, List.size_toArray, Tryz.ntmps91]
  refine callO.pcj (pcj101 s) ?_
  simp (config := { maxSteps := 2000000 }) -implicitDefEqProofs +contextual (disch := first | assumption | omega | decide +kernel) only [push_cast, ↓capI, br2_true, br2_false, frk_tt, frk_tf, frk_f, frkD_tt, frkD_tf, frkD_f, pk2_true, pk2_false, imp_true, seval, Nat.reduceLeDiff, Nat.reduceEqDiff, reduceCtorEq, ↓reduceIte, reduceCtorEq, cfg0, take_rest, ibeq_dec, V.rn, rns, qn, setPs, rnOs, Ob.rn, List.set_cons_zero, List.size_toArray, num, V.sh, shs, shOs, Ob.sh]
  refine callO.part0 [0] (pc102 s [45] 0 [.int .i64 10] rfl (Nat.zero_le _) hs (by decide)) (by decide) rfl rfl ⟨by rfl, by simp, trivial⟩ ?_
  rw [List.drop_zero]
  have hmin : min (s.length - 0) s.length = s.length := by omega
  have htk : List.take (s.length - 0) s = s := by rw [Nat.sub_zero]; exact List.take_length
  unfold parseI
  cases hb : begins s [45]
  · rw [if_neg (by simp)]
    simp (config := { maxSteps := 2000000 }) -implicitDefEqProofs +contextual (disch := first | assumption | omega | decide +kernel) only [push_cast, ↓capI, br2_true, br2_false, frk_tt, frk_tf, frk_f, frkD_tt, frkD_tf, frkD_f, pk2_true, pk2_false, imp_true, seval, Nat.reduceLeDiff, Nat.reduceEqDiff, reduceCtorEq, ↓reduceIte, reduceCtorEq, cfg0, take_rest, ibeq_dec, V.rn, rns, qn, setPs, rnOs, Ob.rn, List.set_cons_zero, List.size_toArray, htk, hmin, Nat.sub_zero, List.take_length, Nat.min_self]
    refine ⟨fun h9 => ?_, fun h9 => ?_⟩
    · have h9n : ¬ 9 < s.length := by omega
      refine callO.pc (pc103 s) ?_
      cases hc : canonD s
      · simp (config := { maxSteps := 2000000 }) -implicitDefEqProofs +contextual (disch := first | assumption | omega | decide +kernel) only [push_cast, ↓capI, br2_true, br2_false, frk_tt, frk_tf, frk_f, frkD_tt, frkD_tf, frkD_f, pk2_true, pk2_false, imp_true, seval, Nat.reduceLeDiff, Nat.reduceEqDiff, reduceCtorEq, ↓reduceIte, reduceCtorEq, cfg0, take_rest, ibeq_dec, V.rn, rns, qn, setPs, rnOs, Ob.rn, List.set_cons_zero, List.size_toArray, hc]
        refine endK.ret ?_ (by first | rfl | simp ); simp [evRes, getT, retV, Tryz.f91,  encIB, h9n, hc]
      simp (config := { maxSteps := 2000000 }) -implicitDefEqProofs +contextual (disch := first | assumption | omega | decide +kernel) only [push_cast, ↓capI, br2_true, br2_false, frk_tt, frk_tf, frk_f, frkD_tt, frkD_tf, frkD_f, pk2_true, pk2_false, imp_true, seval, Nat.reduceLeDiff, Nat.reduceEqDiff, reduceCtorEq, ↓reduceIte, reduceCtorEq, cfg0, take_rest, ibeq_dec, V.rn, rns, qn, setPs, rnOs, Ob.rn, List.set_cons_zero, List.size_toArray, hc]
      refine callO.part0 [0] (pc104 s 0 hs (Nat.zero_le _) (by omega)) (by decide) rfl rfl ⟨by rfl, by simp, trivial⟩ ?_
      have hv := @valL_lt s 0
      have hp9 : 10 ^ s.length ≤ 1000000000 := Nat.pow_le_pow_right (by omega) (by omega : s.length ≤ 9)
      cases he : valL s 0 with
      | none =>
        rw [valR_none (by rw [List.drop_zero]; exact he)]
        simp (config := { maxSteps := 2000000 }) -implicitDefEqProofs +contextual (disch := first | assumption | omega | decide +kernel) only [push_cast, ↓capI, br2_true, br2_false, frk_tt, frk_tf, frk_f, frkD_tt, frkD_tf, frkD_f, pk2_true, pk2_false, imp_true, seval, Nat.reduceLeDiff, Nat.reduceEqDiff, reduceCtorEq, ↓reduceIte, reduceCtorEq, cfg0, take_rest, ibeq_dec, V.rn, rns, qn, setPs, rnOs, Ob.rn, List.set_cons_zero, List.size_toArray, he]
        refine endK.ret ?_ (by first | rfl | simp ); simp [evRes, getT, retV, Tryz.f91,  encIB, h9n, hc, he]
      | some v =>
        have hv2 := hv he
        have hpos := canonD_pos hc
        rw [valR_some (by rw [List.drop_zero]; exact he)]
        simp (config := { maxSteps := 2000000 }) -implicitDefEqProofs +contextual (disch := first | assumption | omega | decide +kernel) only [push_cast, ↓capI, br2_true, br2_false, frk_tt, frk_tf, frk_f, frkD_tt, frkD_tf, frkD_f, pk2_true, pk2_false, imp_true, seval, Nat.reduceLeDiff, Nat.reduceEqDiff, reduceCtorEq, ↓reduceIte, reduceCtorEq, cfg0, take_rest, ibeq_dec, V.rn, rns, qn, setPs, rnOs, Ob.rn, List.set_cons_zero, List.size_toArray, he, hpos]
        refine endK.ret ?_ (by first | rfl | simp ); simp [evRes, getT, retV, Tryz.f91,  encIB, or_self, if_false]
    · have h9n : 9 < s.length := by omega
      refine endK.ret ?_ (by first | rfl | simp ); simp [evRes, getT, retV, Tryz.f91,  encIB, h9n]
  · have hl := begins_le hb
    rw [if_pos rfl]
    simp (config := { maxSteps := 2000000 }) -implicitDefEqProofs +contextual (disch := first | assumption | omega | decide +kernel) only [push_cast, ↓capI, br2_true, br2_false, frk_tt, frk_tf, frk_f, frkD_tt, frkD_tf, frkD_f, pk2_true, pk2_false, imp_true, seval, Nat.reduceLeDiff, Nat.reduceEqDiff, reduceCtorEq, ↓reduceIte, reduceCtorEq, cfg0, take_rest, ibeq_dec, V.rn, rns, qn, setPs, rnOs, Ob.rn, List.set_cons_zero, List.size_toArray, htk, hmin, Nat.sub_zero, List.take_length, Nat.min_self]
    simp only [List.length_cons, List.length_nil] at hl
    have hl1 : (1 : Int) ≤ (s.length : Int) := by omega
    have hdl : (s.drop 1).length = s.length - 1 := List.length_drop
    refine ⟨hl1, fun _ => ⟨fun h9 => ?_, fun h9 => ?_⟩⟩
    · have h9n : ¬ 9 < (s.drop 1).length := by omega
      refine callO.pc (pc103 (s.drop 1)) ?_
      cases hc : canonD (s.drop 1)
      · simp (config := { maxSteps := 2000000 }) -implicitDefEqProofs +contextual (disch := first | assumption | omega | decide +kernel) only [push_cast, ↓capI, br2_true, br2_false, frk_tt, frk_tf, frk_f, frkD_tt, frkD_tf, frkD_f, pk2_true, pk2_false, imp_true, seval, Nat.reduceLeDiff, Nat.reduceEqDiff, reduceCtorEq, ↓reduceIte, reduceCtorEq, cfg0, take_rest, ibeq_dec, V.rn, rns, qn, setPs, rnOs, Ob.rn, List.set_cons_zero, List.size_toArray, hc]
        refine endK.ret ?_ (by first | rfl | simp ); simp [evRes, getT, retV, Tryz.f91,  encIB, h9n, hc]
      simp (config := { maxSteps := 2000000 }) -implicitDefEqProofs +contextual (disch := first | assumption | omega | decide +kernel) only [push_cast, ↓capI, br2_true, br2_false, frk_tt, frk_tf, frk_f, frkD_tt, frkD_tf, frkD_f, pk2_true, pk2_false, imp_true, seval, Nat.reduceLeDiff, Nat.reduceEqDiff, reduceCtorEq, ↓reduceIte, reduceCtorEq, cfg0, take_rest, ibeq_dec, V.rn, rns, qn, setPs, rnOs, Ob.rn, List.set_cons_zero, List.size_toArray, hc]
      refine callO.part0 [0] (pc104 s 1 hs (by omega) (by omega)) (by decide) rfl rfl ⟨by rfl, by simp, trivial⟩ ?_
      have hv := @valL_lt (s.drop 1) 0
      have hp9 : 10 ^ (s.drop 1).length ≤ 1000000000 := Nat.pow_le_pow_right (by omega) (by omega : (s.drop 1).length ≤ 9)
      cases he : valL (s.drop 1) 0 with
      | none =>
        rw [valR_none he]
        simp (config := { maxSteps := 2000000 }) -implicitDefEqProofs +contextual (disch := first | assumption | omega | decide +kernel) only [push_cast, ↓capI, br2_true, br2_false, frk_tt, frk_tf, frk_f, frkD_tt, frkD_tf, frkD_f, pk2_true, pk2_false, imp_true, seval, Nat.reduceLeDiff, Nat.reduceEqDiff, reduceCtorEq, ↓reduceIte, reduceCtorEq, cfg0, take_rest, ibeq_dec, V.rn, rns, qn, setPs, rnOs, Ob.rn, List.set_cons_zero, List.size_toArray, he]
        refine endK.ret ?_ (by first | rfl | simp ); simp [evRes, getT, retV, Tryz.f91,  encIB, h9n, hc, he]
      | some v =>
        have hv2 := hv he
        have hpos := canonD_pos hc
        have hpos2 : 1 < s.length := by omega
        have hd1 : decide (1 < s.length) = true := by simpa using hpos2
        rw [valR_some he]
        by_cases hv0 : v = 0
        · subst hv0
          simp (config := { maxSteps := 2000000 }) -implicitDefEqProofs +contextual (disch := first | assumption | omega | decide +kernel) only [push_cast, ↓capI, br2_true, br2_false, frk_tt, frk_tf, frk_f, frkD_tt, frkD_tf, frkD_f, pk2_true, pk2_false, imp_true, seval, Nat.reduceLeDiff, Nat.reduceEqDiff, reduceCtorEq, ↓reduceIte, reduceCtorEq, cfg0, take_rest, ibeq_dec, V.rn, rns, qn, setPs, rnOs, Ob.rn, List.set_cons_zero, List.size_toArray, he, hd1, hpos2]
          refine endK.ret ?_ (by first | rfl | simp ); simp [evRes, getT, retV, Tryz.f91,  encIB, or_self, if_false, if_true]
        · have hvi : ¬ (v : Int) = 0 := by omega
          simp (config := { maxSteps := 2000000 }) -implicitDefEqProofs +contextual (disch := first | assumption | omega | decide +kernel) only [push_cast, ↓capI, br2_true, br2_false, frk_tt, frk_tf, frk_f, frkD_tt, frkD_tf, frkD_f, pk2_true, pk2_false, imp_true, seval, Nat.reduceLeDiff, Nat.reduceEqDiff, reduceCtorEq, ↓reduceIte, reduceCtorEq, cfg0, take_rest, ibeq_dec, V.rn, rns, qn, setPs, rnOs, Ob.rn, List.set_cons_zero, List.size_toArray, he, hd1, hpos2, hvi]
          refine endK.ret ?_ (by first | rfl | simp ); simp [evRes, getT, retV, Tryz.f91,  encIB, or_self, if_false, hv0]
    · have h9n : 9 < (s.drop 1).length := by omega
      refine endK.ret ?_ (by first | rfl | simp ); simp [evRes, getT, retV, Tryz.f91,  encIB, h9n]
end Go.Proofs.YtllfdnbnkncnhaaGreatDoor

/- Chapter 44: integers written by the program and by the reference. -/
set_option maxRecDepth 100000
set_option maxHeartbeats 4000000
set_option linter.all false
namespace Go.Proofs.YtllfdnbnkncnhaaGreatDoor
open Go.Vm

/-- the digits of a number below 256 -/
def dec8 (n : Nat) : List UInt8 :=
  if n < 10 then [UInt8.ofNat (48 + n)] else if n < 100 then [UInt8.ofNat (48 + n / 10), UInt8.ofNat (48 + n % 10)]
  else [UInt8.ofNat (48 + n / 100), UInt8.ofNat (48 + n / 10 % 10), UInt8.ofNat (48 + n % 10)]
theorem fin100 {P : Nat → Prop} (h : ∀ m : Fin 100, P m.1) {n : Nat} (hn : n < 100) : P n := h ⟨n, hn⟩
theorem u32_id {x : Int} (h : 0 ≤ x ∧ x < 4294967296) : IntKind.u32.wrap x = x := by
  unfold IntKind.wrap
  simp [IntKind.bits, IntKind.signed]
  omega
theorem u8_id {x : Int} (h : 0 ≤ x ∧ x < 256) : IntKind.u8.wrap x = x := by
  unfold IntKind.wrap
  simp [IntKind.bits, IntKind.signed]
  omega
theorem fin10 {P : Nat → Prop} (h : ∀ m : Fin 10, P m.1) {n : Nat} (hn : n < 10) : P n := h ⟨n, hn⟩
theorem fin10n {P : Nat → Prop} (h : ∀ m : Fin 10, P m.1) : ∀ n, n < 10 → P n := fun n hn => h ⟨n, hn⟩
theorem fin100n {P : Nat → Prop} (h : ∀ m : Fin 100, 10 ≤ m.1 → P m.1) : ∀ n, n < 100 → 10 ≤ n → P n := fun n hn h2 => h ⟨n, hn⟩ h2
theorem gl0 : (GlobTab.gl 0 : Option (List (IntKind × Int))) = some [(.u64, 1), (.u64, 10), (.u64, 100), (.u64, 1000), (.u64, 10000), (.u64, 100000), (.u64, 1000000), (.u64, 10000000), (.u64, 100000000), (.u64, 1000000000), (.u64, 10000000000), (.u64, 100000000000), (.u64, 1000000000000), (.u64, 10000000000000), (.u64, 100000000000000), (.u64, 1000000000000000), (.u64, 10000000000000000), (.u64, 100000000000000000), (.u64, 1000000000000000000), (.u64, 10000000000000000000)] := rfl
theorem pc92 (n : Nat) (hn : n < 100) : PC Tryz.prog 92 [.int .i64 n] (.str (dec8 n)) := by
  refine PC.walk tok mixed cfg0 Tryz.func92 rfl Tryz.call92 (by simp ) (by first | rfl | simp ) ?_; simp (config := { maxSteps := 2000000 }) -implicitDefEqProofs +contextual (disch := first | assumption | omega | decide +kernel) only [push_cast, ↓capI, br2_true, br2_false, frk_tt, frk_tf, frk_f, frkD_tt, frkD_tf, frkD_f, pk2_true, pk2_false, imp_true, seval, Nat.reduceLeDiff, Nat.reduceEqDiff, reduceCtorEq, ↓reduceIte, reduceCtorEq, cfg0, take_rest, ibeq_dec, V.rn, rns, qn, setPs, rnOs, Ob.rn, gl0, glV, List.map, V.st, List.set_cons_zero, List.size_toArray, Tryz.ntmps92]
  refine ⟨fun h => ?_, fun h => ?_⟩
  · have h2 : n < 10 := by omega
    refine endK.ret ?_ (by first | rfl | simp ); simp [evRes, getT, retV, Tryz.f92]
    clear h hn
    revert n
    apply fin10n
    decide
  · have hl : (n : Int) * 2 + 2 ≤ 200 := by omega
    refine ⟨hl, fun _ => ?_⟩
    have h3 : 10 ≤ n := by omega
    have e1 : ((n : Int) * 2 + 2).toNat - ((n : Int) * 2).toNat = 2 := by omega
    have e2 : ((n : Int) * 2).toNat = n * 2 := by omega
    refine endK.ret ?_ (by first | rfl | simp ); simp [evRes, getT, retV, Tryz.f92,  e1, e2]
    rename_i hx
    clear h hl e1 e2 hx
    revert n
    apply fin100n
    decide
theorem pc105 (n : Nat) (hn : n = 7 ∨ n = 8) : PC Tryz.prog 105 [.int .i64 n] (.int .i64 2) := by
  rcases hn with rfl | rfl
  · refine PC.walk tok mixed cfg0 Tryz.func105 rfl Tryz.call105 (by simp ) (by first | rfl | simp ) ?_; simp (config := { maxSteps := 2000000 }) -implicitDefEqProofs +contextual (disch := first | assumption | omega | decide +kernel) only [push_cast, ↓capI, br2_true, br2_false, frk_tt, frk_tf, frk_f, frkD_tt, frkD_tf, frkD_f, pk2_true, pk2_false, imp_true, seval, Nat.reduceLeDiff, Nat.reduceEqDiff, reduceCtorEq, ↓reduceIte, reduceCtorEq, cfg0, take_rest, ibeq_dec, V.rn, rns, qn, setPs, rnOs, Ob.rn, gl0, glV, List.map, V.st, List.set_cons_zero, List.size_toArray, Tryz.ntmps105]
    refine endK.ret ?_ (by first | rfl | simp ); simp [evRes, getT, retV, Tryz.f105]
    rfl
  · refine PC.walk tok mixed cfg0 Tryz.func105 rfl Tryz.call105 (by simp ) (by first | rfl | simp ) ?_; simp (config := { maxSteps := 2000000 }) -implicitDefEqProofs +contextual (disch := first | assumption | omega | decide +kernel) only [push_cast, ↓capI, br2_true, br2_false, frk_tt, frk_tf, frk_f, frkD_tt, frkD_tf, frkD_f, pk2_true, pk2_false, imp_true, seval, Nat.reduceLeDiff, Nat.reduceEqDiff, reduceCtorEq, ↓reduceIte, reduceCtorEq, cfg0, take_rest, ibeq_dec, V.rn, rns, qn, setPs, rnOs, Ob.rn, gl0, glV, List.map, V.st, List.set_cons_zero, List.size_toArray, Tryz.ntmps105]
    refine endK.ret ?_ (by first | rfl | simp ); simp [evRes, getT, retV, Tryz.f105]
    rfl
theorem pc106 (b : Bool) : PC Tryz.prog 106 [.bool b] (.int .i64 (if b then 1 else 0)) := by
  cases b
  · refine PC.walk tok mixed cfg0 Tryz.func106 rfl Tryz.call106 (by simp ) (by first | rfl | simp ) ?_; simp (config := { maxSteps := 2000000 }) -implicitDefEqProofs +contextual (disch := first | assumption | omega | decide +kernel) only [push_cast, ↓capI, br2_true, br2_false, frk_tt, frk_tf, frk_f, frkD_tt, frkD_tf, frkD_f, pk2_true, pk2_false, imp_true, seval, Nat.reduceLeDiff, Nat.reduceEqDiff, reduceCtorEq, ↓reduceIte, reduceCtorEq, cfg0, take_rest, ibeq_dec, V.rn, rns, qn, setPs, rnOs, Ob.rn, gl0, glV, List.map, V.st, List.set_cons_zero, List.size_toArray, Tryz.ntmps106]
    refine endK.ret ?_ (by first | rfl | simp ); simp [evRes, getT, retV, Tryz.f106]
  · refine PC.walk tok mixed cfg0 Tryz.func106 rfl Tryz.call106 (by simp ) (by first | rfl | simp ) ?_; simp (config := { maxSteps := 2000000 }) -implicitDefEqProofs +contextual (disch := first | assumption | omega | decide +kernel) only [push_cast, ↓capI, br2_true, br2_false, frk_tt, frk_tf, frk_f, frkD_tt, frkD_tf, frkD_f, pk2_true, pk2_false, imp_true, seval, Nat.reduceLeDiff, Nat.reduceEqDiff, reduceCtorEq, ↓reduceIte, reduceCtorEq, cfg0, take_rest, ibeq_dec, V.rn, rns, qn, setPs, rnOs, Ob.rn, gl0, glV, List.map, V.st, List.set_cons_zero, List.size_toArray, Tryz.ntmps106]
    refine endK.ret ?_ (by first | rfl | simp ); simp [evRes, getT, retV, Tryz.f106]
theorem pc93 (n : Nat) (hn : 100 ≤ n ∧ n < 256) : PC Tryz.prog 93 [.int .u64 n] (.int .i64 3) := by
  have h64 : len64 n = 7 ∨ len64 n = 8 := by
    have : n.log2 = 6 ∨ n.log2 = 7 := by
      have h1 : 6 ≤ n.log2 := (Nat.le_log2 (by omega)).2 (by omega)
      have h2 : n.log2 < 8 := (Nat.log2_lt (by omega)).2 (by omega)
      omega
    unfold len64
    rw [if_neg (by omega)]
    omega
  refine PC.walk tok mixed cfg0 Tryz.func93 rfl Tryz.call93 (by simp ) (by first | rfl | simp ) ?_; simp (config := { maxSteps := 2000000 }) -implicitDefEqProofs +contextual (disch := first | assumption | omega | decide +kernel) only [push_cast, ↓capI, br2_true, br2_false, frk_tt, frk_tf, frk_f, frkD_tt, frkD_tf, frkD_f, pk2_true, pk2_false, imp_true, seval, Nat.reduceLeDiff, Nat.reduceEqDiff, reduceCtorEq, ↓reduceIte, reduceCtorEq, cfg0, take_rest, ibeq_dec, V.rn, rns, qn, setPs, rnOs, Ob.rn, gl0, glV, List.map, V.st, List.set_cons_zero, List.size_toArray, Tryz.ntmps93]
  refine callO.pc (pc78 n (by omega)) ?_
  simp (config := { maxSteps := 2000000 }) -implicitDefEqProofs +contextual (disch := first | assumption | omega | decide +kernel) only [push_cast, ↓capI, br2_true, br2_false, frk_tt, frk_tf, frk_f, frkD_tt, frkD_tf, frkD_f, pk2_true, pk2_false, imp_true, seval, Nat.reduceLeDiff, Nat.reduceEqDiff, reduceCtorEq, ↓reduceIte, reduceCtorEq, cfg0, take_rest, ibeq_dec, V.rn, rns, qn, setPs, rnOs, Ob.rn, gl0, glV, List.map, V.st, List.set_cons_zero, List.size_toArray]
  refine callO.pc (pc105 _ h64) ?_
  simp (config := { maxSteps := 2000000 }) -implicitDefEqProofs +contextual (disch := first | assumption | omega | decide +kernel) only [push_cast, ↓capI, br2_true, br2_false, frk_tt, frk_tf, frk_f, frkD_tt, frkD_tf, frkD_f, pk2_true, pk2_false, imp_true, seval, Nat.reduceLeDiff, Nat.reduceEqDiff, reduceCtorEq, ↓reduceIte, reduceCtorEq, cfg0, take_rest, ibeq_dec, V.rn, rns, qn, setPs, rnOs, Ob.rn, gl0, glV, List.map, V.st, List.set_cons_zero, List.size_toArray]
  have h100 : (100 : Int) ≤ (n : Int) := by omega
  refine callO.pc (pc106 true) ?_
  simp (config := { maxSteps := 2000000 }) -implicitDefEqProofs +contextual (disch := first | assumption | omega | decide +kernel) only [push_cast, ↓capI, br2_true, br2_false, frk_tt, frk_tf, frk_f, frkD_tt, frkD_tf, frkD_f, pk2_true, pk2_false, imp_true, seval, Nat.reduceLeDiff, Nat.reduceEqDiff, reduceCtorEq, ↓reduceIte, reduceCtorEq, cfg0, take_rest, ibeq_dec, V.rn, rns, qn, setPs, rnOs, Ob.rn, gl0, glV, List.map, V.st, List.set_cons_zero, List.size_toArray]
  refine endK.ret ?_ (by first | rfl | simp ); simp [evRes, getT, retV, Tryz.f93]
def z24 : List V := List.replicate 24 (.int .u8 0)
def buf3 (n : Nat) : List V := [.int .u8 0, .int .u8 ((48 + n / 100 : Nat) : Int), .int .u8 ((48 + n / 10 % 10 : Nat) : Int), .int .u8 ((48 + n % 10 : Nat) : Int)] ++ List.replicate 20 (.int .u8 0)
theorem bigL : ((List.append (List.append [48, 48, 48, 49, 48, 50, 48, 51, 48, 52, 48, 53, 48, 54, 48, 55, 48, 56, 48, 57, 49, 48, 49, 49, 49, 50, 49, 51, 49, 52, 49, 53, 49, 54, 49, 55, 49, 56, 49, 57, 50, 48, 50, 49, 50, 50, 50, 51, 50, 52] [50, 53, 50, 54, 50, 55, 50, 56, 50, 57, 51, 48, 51, 49, 51, 50, 51, 51, 51, 52, 51, 53, 51, 54, 51, 55, 51, 56, 51, 57, 52, 48, 52, 49, 52, 50, 52, 51, 52, 52, 52, 53, 52, 54, 52, 55, 52, 56, 52, 57]) (List.append [53, 48, 53, 49, 53, 50, 53, 51, 53, 52, 53, 53, 53, 54, 53, 55, 53, 56, 53, 57, 54, 48, 54, 49, 54, 50, 54, 51, 54, 52, 54, 53, 54, 54, 54, 55, 54, 56, 54, 57, 55, 48, 55, 49, 55, 50, 55, 51, 55, 52] [55, 53, 55, 54, 55, 55, 55, 56, 55, 57, 56, 48, 56, 49, 56, 50, 56, 51, 56, 52, 56, 53, 56, 54, 56, 55, 56, 56, 56, 57, 57, 48, 57, 49, 57, 50, 57, 51, 57, 52, 57, 53, 57, 54, 57, 55, 57, 56, 57, 57])) : List UInt8).length = 200 := rfl
theorem bigA (m : Nat) (h : m < 100) : (((List.append (List.append [48, 48, 48, 49, 48, 50, 48, 51, 48, 52, 48, 53, 48, 54, 48, 55, 48, 56, 48, 57, 49, 48, 49, 49, 49, 50, 49, 51, 49, 52, 49, 53, 49, 54, 49, 55, 49, 56, 49, 57, 50, 48, 50, 49, 50, 50, 50, 51, 50, 52] [50, 53, 50, 54, 50, 55, 50, 56, 50, 57, 51, 48, 51, 49, 51, 50, 51, 51, 51, 52, 51, 53, 51, 54, 51, 55, 51, 56, 51, 57, 52, 48, 52, 49, 52, 50, 52, 51, 52, 52, 52, 53, 52, 54, 52, 55, 52, 56, 52, 57]) (List.append [53, 48, 53, 49, 53, 50, 53, 51, 53, 52, 53, 53, 53, 54, 53, 55, 53, 56, 53, 57, 54, 48, 54, 49, 54, 50, 54, 51, 54, 52, 54, 53, 54, 54, 54, 55, 54, 56, 54, 57, 55, 48, 55, 49, 55, 50, 55, 51, 55, 52] [55, 53, 55, 54, 55, 55, 55, 56, 55, 57, 56, 48, 56, 49, 56, 50, 56, 51, 56, 52, 56, 53, 56, 54, 56, 55, 56, 56, 56, 57, 57, 48, 57, 49, 57, 50, 57, 51, 57, 52, 57, 53, 57, 54, 57, 55, 57, 56, 57, 57])) : List UInt8).getD (m * 2) 0).toNat = 48 + m / 10 := by
  revert m
  exact fun m h => (by decide : ∀ m : Fin 100, (((List.append (List.append [48, 48, 48, 49, 48, 50, 48, 51, 48, 52, 48, 53, 48, 54, 48, 55, 48, 56, 48, 57, 49, 48, 49, 49, 49, 50, 49, 51, 49, 52, 49, 53, 49, 54, 49, 55, 49, 56, 49, 57, 50, 48, 50, 49, 50, 50, 50, 51, 50, 52] [50, 53, 50, 54, 50, 55, 50, 56, 50, 57, 51, 48, 51, 49, 51, 50, 51, 51, 51, 52, 51, 53, 51, 54, 51, 55, 51, 56, 51, 57, 52, 48, 52, 49, 52, 50, 52, 51, 52, 52, 52, 53, 52, 54, 52, 55, 52, 56, 52, 57]) (List.append [53, 48, 53, 49, 53, 50, 53, 51, 53, 52, 53, 53, 53, 54, 53, 55, 53, 56, 53, 57, 54, 48, 54, 49, 54, 50, 54, 51, 54, 52, 54, 53, 54, 54, 54, 55, 54, 56, 54, 57, 55, 48, 55, 49, 55, 50, 55, 51, 55, 52] [55, 53, 55, 54, 55, 55, 55, 56, 55, 57, 56, 48, 56, 49, 56, 50, 56, 51, 56, 52, 56, 53, 56, 54, 56, 55, 56, 56, 56, 57, 57, 48, 57, 49, 57, 50, 57, 51, 57, 52, 57, 53, 57, 54, 57, 55, 57, 56, 57, 57])) : List UInt8).getD (m.1 * 2) 0).toNat = 48 + m.1 / 10) ⟨m, h⟩
theorem bigB (m : Nat) (h : m < 100) : (((List.append (List.append [48, 48, 48, 49, 48, 50, 48, 51, 48, 52, 48, 53, 48, 54, 48, 55, 48, 56, 48, 57, 49, 48, 49, 49, 49, 50, 49, 51, 49, 52, 49, 53, 49, 54, 49, 55, 49, 56, 49, 57, 50, 48, 50, 49, 50, 50, 50, 51, 50, 52] [50, 53, 50, 54, 50, 55, 50, 56, 50, 57, 51, 48, 51, 49, 51, 50, 51, 51, 51, 52, 51, 53, 51, 54, 51, 55, 51, 56, 51, 57, 52, 48, 52, 49, 52, 50, 52, 51, 52, 52, 52, 53, 52, 54, 52, 55, 52, 56, 52, 57]) (List.append [53, 48, 53, 49, 53, 50, 53, 51, 53, 52, 53, 53, 53, 54, 53, 55, 53, 56, 53, 57, 54, 48, 54, 49, 54, 50, 54, 51, 54, 52, 54, 53, 54, 54, 54, 55, 54, 56, 54, 57, 55, 48, 55, 49, 55, 50, 55, 51, 55, 52] [55, 53, 55, 54, 55, 55, 55, 56, 55, 57, 56, 48, 56, 49, 56, 50, 56, 51, 56, 52, 56, 53, 56, 54, 56, 55, 56, 56, 56, 57, 57, 48, 57, 49, 57, 50, 57, 51, 57, 52, 57, 53, 57, 54, 57, 55, 57, 56, 57, 57])) : List UInt8).getD (m * 2 + 1) 0).toNat = 48 + m % 10 := by
  revert m
  exact fun m h => (by decide : ∀ m : Fin 100, (((List.append (List.append [48, 48, 48, 49, 48, 50, 48, 51, 48, 52, 48, 53, 48, 54, 48, 55, 48, 56, 48, 57, 49, 48, 49, 49, 49, 50, 49, 51, 49, 52, 49, 53, 49, 54, 49, 55, 49, 56, 49, 57, 50, 48, 50, 49, 50, 50, 50, 51, 50, 52] [50, 53, 50, 54, 50, 55, 50, 56, 50, 57, 51, 48, 51, 49, 51, 50, 51, 51, 51, 52, 51, 53, 51, 54, 51, 55, 51, 56, 51, 57, 52, 48, 52, 49, 52, 50, 52, 51, 52, 52, 52, 53, 52, 54, 52, 55, 52, 56, 52, 57]) (List.append [53, 48, 53, 49, 53, 50, 53, 51, 53, 52, 53, 53, 53, 54, 53, 55, 53, 56, 53, 57, 54, 48, 54, 49, 54, 50, 54, 51, 54, 52, 54, 53, 54, 54, 54, 55, 54, 56, 54, 57, 55, 48, 55, 49, 55, 50, 55, 51, 55, 52] [55, 53, 55, 54, 55, 55, 55, 56, 55, 57, 56, 48, 56, 49, 56, 50, 56, 51, 56, 52, 56, 53, 56, 54, 56, 55, 56, 56, 56, 57, 57, 48, 57, 49, 57, 50, 57, 51, 57, 52, 57, 53, 57, 54, 57, 55, 57, 56, 57, 57])) : List UInt8).getD (m.1 * 2 + 1) 0).toNat = 48 + m.1 % 10) ⟨m, h⟩
theorem g80 (n : Nat) (hn : 100 ≤ n ∧ n < 256) : GCall Tryz.prog 94 [.buf 0 0 1 3 1, .int .u64 n] [.cells 0 z24] (.tup []) [.cells 0 (buf3 n)] := by
  unfold z24
  simp only [List.replicate]
  refine GC.walk tok mixed cfg0 Tryz.func94 rfl Tryz.call94 ?_; simp (config := { maxSteps := 2000000 }) -implicitDefEqProofs +contextual (disch := first | assumption | omega | decide +kernel) only [push_cast, ↓capI, br2_true, br2_false, frk_tt, frk_tf, frk_f, frkD_tt, frkD_tf, frkD_f, pk2_true, pk2_false, imp_true, seval, Nat.reduceLeDiff, Nat.reduceEqDiff, reduceCtorEq, ↓reduceIte, reduceCtorEq, cfg0, take_rest, ibeq_dec, V.rn, rns, qn, setPs, rnOs, Ob.rn, gl0, glV, List.map, V.st, List.set_cons_zero, List.size_toArray, Tryz.ntmps94]
  refine T.lp tok mixed cfg0 (fun (j : Nat) => kp 1 (sv (.int .u64 n) (dd 2 (sv (.int .i64 3) (dd 162 (nl)))))) (fun H0 (j : Nat) => [.cells 0 z24]) (fun (j : Nat) => j = 0) (fun (j : Nat) => 0) (0) ?_ ?_ ?_
  · rfl
  · unfold z24
    simp only [List.replicate]
    exact Gn.canon (J := []) (by first | rfl | (simp [List.append_nil]; done) | (simp [List.append_nil]; rfl)) (by simp [wk, putT, kp, dd, sv, nl]) (by simp [List.length_append]) (by simp [kp, dd, sv, nl]) (by simp )
  rintro j rfl
  unfold z24
  simp only [List.replicate]
  simp (config := { maxSteps := 2000000 }) -implicitDefEqProofs +contextual (disch := first | assumption | omega | decide +kernel) only [push_cast, ↓capI, br2_true, br2_false, frk_tt, frk_tf, frk_f, frkD_tt, frkD_tf, frkD_f, pk2_true, pk2_false, imp_true, seval, Nat.reduceLeDiff, Nat.reduceEqDiff, reduceCtorEq, ↓reduceIte, reduceCtorEq, cfg0, take_rest, ibeq_dec, V.rn, rns, qn, setPs, rnOs, Ob.rn, gl0, glV, List.map, V.st, List.set_cons_zero, List.size_toArray]
  have e1 : IntKind.u32.wrap (n : Int) = (n : Int) := u32_id (by omega)
  have e2 : ((n : Int)).tmod 100 = ((n % 100 : Nat) : Int) := by rw [Int.tmod_eq_emod_of_nonneg (by omega)]; omega
  have e3 : ((n : Int)).tdiv 100 = ((n / 100 : Nat) : Int) := by rw [Int.tdiv_eq_ediv_of_nonneg (by omega)]; omega
  have e4 : IntKind.u32.wrap (((n % 100 : Nat) : Int) * 2) = ((n % 100 * 2 : Nat) : Int) := by rw [u32_id (by omega)]; omega
  have e5 : IntKind.u32.wrap (((n % 100 * 2 : Nat) : Int) + 1) = ((n % 100 * 2 + 1 : Nat) : Int) := by rw [u32_id (by omega)]; omega
  have e6 : IntKind.u32.wrap ((n / 100 : Nat) : Int) = ((n / 100 : Nat) : Int) := u32_id (by omega)
  have e7 : IntKind.u32.wrap (48 + ((n / 100 : Nat) : Int)) = ((48 + n / 100 : Nat) : Int) := by rw [u32_id (by omega)]; omega
  have e8 : IntKind.u8.wrap (((48 + n / 100 : Nat) : Int)) = ((48 + n / 100 : Nat) : Int) := u8_id (by omega)
  have h5 : n % 100 < 100 := by omega
  have e9 : ((n % 100 * 2 + 1 : Nat) : Int).toNat = n % 100 * 2 + 1 := Int.toNat_natCast _
  have e10 : ((n % 100 * 2 : Nat) : Int).toNat = n % 100 * 2 := Int.toNat_natCast _
  have f1 : (0 : Int) ≤ ((n % 100 * 2 + 1 : Nat) : Int) ∧ ((n % 100 * 2 + 1 : Nat) : Int) < ((200 : Nat) : Int) := by omega
  have f2 : (0 : Int) ≤ ((n % 100 * 2 : Nat) : Int) ∧ ((n % 100 * 2 : Nat) : Int) < ((200 : Nat) : Int) := by omega
  simp only [e1, e2, e3, e4, e5, e6, e7, e8, e9, e10, bigL, bigA _ h5, bigB _ h5, f1, f2, true_and, true_imp_iff, and_self]
  have e11 : n % 100 / 10 = n / 10 % 10 := by omega
  have e12 : n % 100 % 10 = n % 10 := by omega
  rw [e11, e12]
  unfold buf3
  refine endG.normal ([]) (by first | rfl | simp [fzs_ok, getO, setO, fzs, fz, fzH, Nat.beq, tt_3, tt_4, tt_5, tt_9, tt_43, tt_127, tt_130, tt_132, tt_146, tt_57, tt_59, tt_126, tt_137, tt_2, tt_101, tt_116, tt_136, tt_137, cfg0, take_rest, ibeq_dec, V.rn, rns, qn, setPs, rnOs, Ob.rn, gl0, glV, List.map, V.st, List.set_cons_zero, List.size_toArray, List.replicate]) (by simp) (by simp [fzs_ok, imp, lenOK_iff, List.take_of_length_le, evRes, getT, getO, setO, fzs, fz, fzH, Nat.beq, retV, Res.then, ldT, ldR, mkV, getV, tt_3, tt_4, tt_5, tt_9, tt_43, tt_127, tt_130, tt_132, tt_146, tt_57, tt_59, tt_126, tt_137, tt_2, tt_101, tt_116, tt_136, tt_137, cfg0, take_rest, ibeq_dec, V.rn, rns, qn, setPs, rnOs, Ob.rn, gl0, glV, List.map, V.st, List.set_cons_zero, List.size_toArray, Tryz.f94, List.replicate]) (by first | rfl | simp [List.replicate]) (by first | rfl | simp [List.replicate])
theorem pc85 (n : Nat) (hn : n < 256) : PC Tryz.prog 85 [.int .i64 n, .int .i64 10] (.str (dec8 n)) := by
  refine PC.walk tok mixed cfg0 Tryz.func85 rfl Tryz.call85 (by simp ) (by first | rfl | simp ) ?_; simp (config := { maxSteps := 2000000 }) -implicitDefEqProofs +contextual (disch := first | assumption | omega | decide +kernel) only [push_cast, ↓capI, br2_true, br2_false, frk_tt, frk_tf, frk_f, frkD_tt, frkD_tf, frkD_f, pk2_true, pk2_false, imp_true, seval, Nat.reduceLeDiff, Nat.reduceEqDiff, reduceCtorEq, ↓reduceIte, reduceCtorEq, cfg0, take_rest, ibeq_dec, V.rn, rns, qn, setPs, rnOs, Ob.rn, gl0, glV, List.map, V.st, List.set_cons_zero, List.size_toArray, Tryz.ntmps85]
  refine ⟨fun h => ?_, fun h => ?_⟩
  · refine callO.pc (pc92 n (by omega)) ?_
    simp (config := { maxSteps := 2000000 }) -implicitDefEqProofs +contextual (disch := first | assumption | omega | decide +kernel) only [push_cast, ↓capI, br2_true, br2_false, frk_tt, frk_tf, frk_f, frkD_tt, frkD_tf, frkD_f, pk2_true, pk2_false, imp_true, seval, Nat.reduceLeDiff, Nat.reduceEqDiff, reduceCtorEq, ↓reduceIte, reduceCtorEq, cfg0, take_rest, ibeq_dec, V.rn, rns, qn, setPs, rnOs, Ob.rn, gl0, glV, List.map, V.st, List.set_cons_zero, List.size_toArray]
    refine endK.ret ?_ (by first | rfl | simp ); simp [evRes, getT, retV, Tryz.f85]
  have hr : 100 ≤ n ∧ n < 256 := by omega
  have hi : ¬ (n : Int) < 0 := by omega
  refine callO.pc (pc93 n hr) ?_
  simp (config := { maxSteps := 2000000 }) -implicitDefEqProofs +contextual (disch := first | assumption | omega | decide +kernel) only [push_cast, ↓capI, br2_true, br2_false, frk_tt, frk_tf, frk_f, frkD_tt, frkD_tf, frkD_f, pk2_true, pk2_false, imp_true, seval, Nat.reduceLeDiff, Nat.reduceEqDiff, reduceCtorEq, ↓reduceIte, reduceCtorEq, cfg0, take_rest, ibeq_dec, V.rn, rns, qn, setPs, rnOs, Ob.rn, gl0, glV, List.map, V.st, List.set_cons_zero, List.size_toArray, hi]
  refine callO.part0 [0] (g80 n hr) (by decide) rfl rfl ⟨by rfl, by simp, trivial⟩ ?_
  unfold buf3
  simp only [List.replicate, List.append_eq, List.cons_append, List.nil_append]
  simp (config := { maxSteps := 2000000 }) -implicitDefEqProofs +contextual (disch := first | assumption | omega | decide +kernel) only [push_cast, ↓capI, br2_true, br2_false, frk_tt, frk_tf, frk_f, frkD_tt, frkD_tf, frkD_f, pk2_true, pk2_false, imp_true, seval, Nat.reduceLeDiff, Nat.reduceEqDiff, reduceCtorEq, ↓reduceIte, reduceCtorEq, cfg0, take_rest, ibeq_dec, V.rn, rns, qn, setPs, rnOs, Ob.rn, gl0, glV, List.map, V.st, List.set_cons_zero, List.size_toArray, hi]
  have t1 : ((48 : Int) + (n : Int) / 100).toNat = 48 + n / 100 := by omega
  have t2 : ((48 : Int) + (n : Int) / 10 % 10).toNat = 48 + n / 10 % 10 := by omega
  have t3 : ((48 : Int) + (n : Int) % 10).toNat = 48 + n % 10 := by omega
  have h1 : ¬ n < 10 := by omega
  have h2 : ¬ n < 100 := by omega
  refine endK.ret ?_ (by first | rfl | simp ); simp [evRes, getT, retV, Tryz.f85,  dec8, h1, h2, if_false, t1, t2, t3]
theorem pc73 (n : Nat) (hn : n < 256) : PC Tryz.prog 73 [.int .i64 n] (.str (dec8 n)) := by
  refine PC.walk tok mixed cfg0 Tryz.func73 rfl Tryz.call73 (by simp ) (by first | rfl | simp ) ?_; simp (config := { maxSteps := 2000000 }) -implicitDefEqProofs +contextual (disch := first | assumption | omega | decide +kernel) only [push_cast, ↓capI, br2_true, br2_false, frk_tt, frk_tf, frk_f, frkD_tt, frkD_tf, frkD_f, pk2_true, pk2_false, imp_true, seval, Nat.reduceLeDiff, Nat.reduceEqDiff, reduceCtorEq, ↓reduceIte, reduceCtorEq, cfg0, take_rest, ibeq_dec, V.rn, rns, qn, setPs, rnOs, Ob.rn, gl0, glV, List.map, V.st, List.set_cons_zero, List.size_toArray, Tryz.ntmps73]
  refine callO.pc (pc85 n hn) ?_
  simp (config := { maxSteps := 2000000 }) -implicitDefEqProofs +contextual (disch := first | assumption | omega | decide +kernel) only [push_cast, ↓capI, br2_true, br2_false, frk_tt, frk_tf, frk_f, frkD_tt, frkD_tf, frkD_f, pk2_true, pk2_false, imp_true, seval, Nat.reduceLeDiff, Nat.reduceEqDiff, reduceCtorEq, ↓reduceIte, reduceCtorEq, cfg0, take_rest, ibeq_dec, V.rn, rns, qn, setPs, rnOs, Ob.rn, gl0, glV, List.map, V.st, List.set_cons_zero, List.size_toArray]
  refine endK.ret ?_ (by first | rfl | simp ); simp [evRes, getT, retV, Tryz.f73]
theorem pc62 (n : Nat) (hn : n < 256) : PC Tryz.prog 62 [.int .i64 n] (.str (dec8 n)) := by
  refine PC.walk tok mixed cfg0 Tryz.func62 rfl Tryz.call62 (by simp ) (by first | rfl | simp ) ?_; simp (config := { maxSteps := 2000000 }) -implicitDefEqProofs +contextual (disch := first | assumption | omega | decide +kernel) only [push_cast, ↓capI, br2_true, br2_false, frk_tt, frk_tf, frk_f, frkD_tt, frkD_tf, frkD_f, pk2_true, pk2_false, imp_true, seval, Nat.reduceLeDiff, Nat.reduceEqDiff, reduceCtorEq, ↓reduceIte, reduceCtorEq, cfg0, take_rest, ibeq_dec, V.rn, rns, qn, setPs, rnOs, Ob.rn, gl0, glV, List.map, V.st, List.set_cons_zero, List.size_toArray, Tryz.ntmps62]
  refine callO.pc (pc73 n hn) ?_
  simp (config := { maxSteps := 2000000 }) -implicitDefEqProofs +contextual (disch := first | assumption | omega | decide +kernel) only [push_cast, ↓capI, br2_true, br2_false, frk_tt, frk_tf, frk_f, frkD_tt, frkD_tf, frkD_f, pk2_true, pk2_false, imp_true, seval, Nat.reduceLeDiff, Nat.reduceEqDiff, reduceCtorEq, ↓reduceIte, reduceCtorEq, cfg0, take_rest, ibeq_dec, V.rn, rns, qn, setPs, rnOs, Ob.rn, gl0, glV, List.map, V.st, List.set_cons_zero, List.size_toArray]
  refine endK.ret ?_ (by first | rfl | simp ); simp [evRes, getT, retV, Tryz.f62]
theorem pc44 (n : Nat) (hn : n < 256) : PC Tryz.prog 44 [.int .i64 n] (.str (dec8 n)) := by
  refine PC.walk tok mixed cfg0 Tryz.func44 rfl Tryz.call44 (by simp ) (by first | rfl | simp ) ?_; simp (config := { maxSteps := 2000000 }) -implicitDefEqProofs +contextual (disch := first | assumption | omega | decide +kernel) only [push_cast, ↓capI, br2_true, br2_false, frk_tt, frk_tf, frk_f, frkD_tt, frkD_tf, frkD_f, pk2_true, pk2_false, imp_true, seval, Nat.reduceLeDiff, Nat.reduceEqDiff, reduceCtorEq, ↓reduceIte, reduceCtorEq, cfg0, take_rest, ibeq_dec, V.rn, rns, qn, setPs, rnOs, Ob.rn, gl0, glV, List.map, V.st, List.set_cons_zero, List.size_toArray, Tryz.ntmps44]
  refine callO.pc (pc62 n hn) ?_
  simp (config := { maxSteps := 2000000 }) -implicitDefEqProofs +contextual (disch := first | assumption | omega | decide +kernel) only [push_cast, ↓capI, br2_true, br2_false, frk_tt, frk_tf, frk_f, frkD_tt, frkD_tf, frkD_f, pk2_true, pk2_false, imp_true, seval, Nat.reduceLeDiff, Nat.reduceEqDiff, reduceCtorEq, ↓reduceIte, reduceCtorEq, cfg0, take_rest, ibeq_dec, V.rn, rns, qn, setPs, rnOs, Ob.rn, gl0, glV, List.map, V.st, List.set_cons_zero, List.size_toArray]
  refine endK.ret ?_ (by first | rfl | simp ); simp [evRes, getT, retV, Tryz.f44]
theorem pc60a (n : Nat) (hn : n < 10) : PC Tryz.prog 64 [.int .u64 n] (.str (dec8 n)) := by
  have hn2 : (n : Int) < 10 := by omega
  refine PC.walk tok mixed cfg0 Tryz.func64 rfl Tryz.call64 (by simp ) (by first | rfl | simp ) ?_; simp (config := { maxSteps := 2000000 }) -implicitDefEqProofs +contextual (disch := first | assumption | omega | decide +kernel) only [push_cast, ↓capI, br2_true, br2_false, frk_tt, frk_tf, frk_f, frkD_tt, frkD_tf, frkD_f, pk2_true, pk2_false, imp_true, seval, Nat.reduceLeDiff, Nat.reduceEqDiff, reduceCtorEq, ↓reduceIte, reduceCtorEq, cfg0, take_rest, ibeq_dec, V.rn, rns, qn, setPs, rnOs, Ob.rn, gl0, glV, List.map, V.st, List.set_cons_zero, List.size_toArray, Tryz.ntmps64]
  have t1 : ((48 : Int) + (n : Int)).toNat = 48 + n := by omega
  refine endK.ret ?_ (by first | rfl | simp ); simp [evRes, getT, retV, Tryz.f64,  dec8, hn, t1]
theorem dec8_len (n : Nat) : (dec8 n).length ≤ 3 := by
  unfold dec8
  split
  · simp
  split <;> simp
theorem dec8_app (n : Nat) (h : 10 ≤ n) (hn : n < 256) : dec8 (n / 10) ++ dec8 (n % 10) = dec8 n := by
  rw [dec8, dec8, dec8, if_pos (by omega : n % 10 < 10), if_neg (by omega : ¬ n < 10)]
  split
  · rw [if_pos (by omega)]
    rfl
  · rw [if_pos (by omega : n / 10 < 100), if_neg (by omega : ¬ n < 100), Nat.div_div_eq_div_mul]
    rfl
theorem pc60s (n : Nat) (h10 : 10 ≤ n) (hn : n < 256) (h : PC Tryz.prog 64 [.int .u64 (n / 10 : Nat)] (.str (dec8 (n / 10)))) : PC Tryz.prog 64 [.int .u64 n] (.str (dec8 n)) := by
  have hn2 : ¬ (n : Int) < 10 := by omega
  have e1 : IntKind.u64.wrap ((n : Int).tdiv 10) = ((n / 10 : Nat) : Int) := by
    rw [Int.tdiv_eq_ediv_of_nonneg (by omega)]
    exact IntWalk.u64_in _ ⟨by omega, by omega⟩
  have e2 : (n : Int).tmod 10 = ((n % 10 : Nat) : Int) := by rw [Int.tmod_eq_emod_of_nonneg (by omega)]; omega
  refine PC.walk tok mixed cfg0 Tryz.func64 rfl Tryz.call64 (by simp ) (by first | rfl | simp ) ?_; simp (config := { maxSteps := 2000000 }) -implicitDefEqProofs +contextual (disch := first | assumption | omega | decide +kernel) only [push_cast, ↓capI, br2_true, br2_false, frk_tt, frk_tf, frk_f, frkD_tt, frkD_tf, frkD_f, pk2_true, pk2_false, imp_true, seval, Nat.reduceLeDiff, Nat.reduceEqDiff, reduceCtorEq, ↓reduceIte, reduceCtorEq, cfg0, take_rest, ibeq_dec, V.rn, rns, qn, setPs, rnOs, Ob.rn, gl0, glV, List.map, V.st, List.set_cons_zero, List.size_toArray, Tryz.ntmps64]
  rw [e1]
  refine callO.pc h ?_
  simp (config := { maxSteps := 2000000 }) -implicitDefEqProofs +contextual (disch := first | assumption | omega | decide +kernel) only [push_cast, ↓capI, br2_true, br2_false, frk_tt, frk_tf, frk_f, frkD_tt, frkD_tf, frkD_f, pk2_true, pk2_false, imp_true, seval, Nat.reduceLeDiff, Nat.reduceEqDiff, reduceCtorEq, ↓reduceIte, reduceCtorEq, cfg0, take_rest, ibeq_dec, V.rn, rns, qn, setPs, rnOs, Ob.rn, gl0, glV, List.map, V.st, List.set_cons_zero, List.size_toArray, e2]
  refine callO.pc (pc60a (n % 10) (by omega)) ?_
  simp (config := { maxSteps := 2000000 }) -implicitDefEqProofs +contextual (disch := first | assumption | omega | decide +kernel) only [push_cast, ↓capI, br2_true, br2_false, frk_tt, frk_tf, frk_f, frkD_tt, frkD_tf, frkD_f, pk2_true, pk2_false, imp_true, seval, Nat.reduceLeDiff, Nat.reduceEqDiff, reduceCtorEq, ↓reduceIte, reduceCtorEq, cfg0, take_rest, ibeq_dec, V.rn, rns, qn, setPs, rnOs, Ob.rn, gl0, glV, List.map, V.st, List.set_cons_zero, List.size_toArray]
  refine ⟨by have := dec8_len (n / 10); have := dec8_len (n % 10); omega, fun _ => ?_⟩
  refine endK.ret ?_ (by first | rfl | simp ); simp [evRes, getT, retV, Tryz.f64,  dec8_app n h10 hn]
theorem pc64 (n : Nat) (hn : n < 256) : PC Tryz.prog 64 [.int .u64 n] (.str (dec8 n)) := by
  by_cases h : n < 10
  · exact pc60a n h
  refine pc60s n (by omega) hn ?_
  by_cases h2 : n / 10 < 10
  · exact pc60a _ h2
  exact pc60s _ (by omega) (by omega) (pc60a _ (by omega))
theorem pc50 (n : Nat) (hn : n < 256) : PC Tryz.prog 50 [.int .i64 n] (.str (dec8 n)) := by
  refine PC.walk tok mixed cfg0 Tryz.func50 rfl Tryz.call50 (by simp ) (by first | rfl | simp ) ?_; simp (config := { maxSteps := 2000000 }) -implicitDefEqProofs +contextual (disch := first | assumption | omega | decide +kernel) only [push_cast, ↓capI, br2_true, br2_false, frk_tt, frk_tf, frk_f, frkD_tt, frkD_tf, frkD_f, pk2_true, pk2_false, imp_true, seval, Nat.reduceLeDiff, Nat.reduceEqDiff, reduceCtorEq, ↓reduceIte, reduceCtorEq, cfg0, take_rest, ibeq_dec, V.rn, rns, qn, setPs, rnOs, Ob.rn, gl0, glV, List.map, V.st, List.set_cons_zero, List.size_toArray, Tryz.ntmps50]
  refine callO.pc (pc64 n hn) ?_
  simp (config := { maxSteps := 2000000 }) -implicitDefEqProofs +contextual (disch := first | assumption | omega | decide +kernel) only [push_cast, ↓capI, br2_true, br2_false, frk_tt, frk_tf, frk_f, frkD_tt, frkD_tf, frkD_f, pk2_true, pk2_false, imp_true, seval, Nat.reduceLeDiff, Nat.reduceEqDiff, reduceCtorEq, ↓reduceIte, reduceCtorEq, cfg0, take_rest, ibeq_dec, V.rn, rns, qn, setPs, rnOs, Ob.rn, gl0, glV, List.map, V.st, List.set_cons_zero, List.size_toArray]
  refine endK.ret ?_ (by first | rfl | simp ); simp [evRes, getT, retV, Tryz.f50]
end Go.Proofs.YtllfdnbnkncnhaaGreatDoor

/- Chapter 44: the nodes of a predicate, the flows, the small functions. -/
set_option maxRecDepth 100000
set_option maxHeartbeats 4000000
set_option linter.all false
namespace Go.Proofs.YtllfdnbnkncnhaaGreatDoor
open Go.Vm

structure Nd where
  op : Int
  fd : Int
  v : UInt8
  m : UInt8
  deriving DecidableEq
instance : Inhabited Nd := ⟨⟨0, 0, 0, 0⟩⟩
structure Fl where
  s : UInt8
  d : UInt8
  t : UInt8
  deriving DecidableEq
def encN (x : Nd) : List V := [.int .i64 x.op, .int .i64 x.fd, .int .u8 x.v.toNat, .int .u8 x.m.toNat]
def slN (l : List Nd) : V := .sl false (l.flatMap encN) l.length
def encF (f : Fl) : List V := [.int .u8 f.s.toNat, .int .u8 f.d.toNat, .int .u8 f.t.toNat]
theorem lenN (x : Nd) : (encN x).length = 4 := rfl
theorem belN {n : Nat} (x : Nd) : belAll n (encN x) = true := rfl
theorem belF {n : Nat} (x : Fl) : belAll n (encF x) = true := rfl
theorem bel_Ns {n : Nat} (xs : List Nd) : belAll n (xs.flatMap encN) = true := belAll_flat belN xs
theorem bel_slN {n : Nat} (l : List Nd) : (slN l).bel n = true := by unfold slN; rw [bel_sl]; exact bel_Ns l
def arity (o : Int) : Int := if o = 1 ∨ o = 2 ∨ o = 3 then 0 else if o = 4 then 1 else if o = 5 ∨ o = 6 then 2 else -1
theorem pc53 (o : Int) : PC Tryz.prog 53 [.int .i64 o] (.int .i64 (arity o)) := by
  refine PC.walk tok mixed cfg0 Tryz.func53 rfl Tryz.call53 (by simp [belF, belN, bel_Ns, bel_slN]) (by first | rfl | simp [belF, belN, bel_Ns, bel_slN]) ?_; simp (config := { maxSteps := 2000000 }) -implicitDefEqProofs +contextual (disch := first | assumption | omega | decide +kernel) only [push_cast, ↓capI, br2_true, br2_false, frk_tt, frk_tf, frk_f, frkD_tt, frkD_tf, frkD_f, pk2_true, pk2_false, imp_true, seval, Nat.reduceLeDiff, Nat.reduceEqDiff, reduceCtorEq, ↓reduceIte, reduceCtorEq, encF, encN, slN, cfg0, get_flat_part lenN, get_flat_drop lenN, len_flat lenN, Tryz.ntmps53]
  refine ⟨fun h => ?_, fun h1 => ⟨fun h => ?_, fun h2 => ⟨fun h => ?_, fun h3 => ⟨fun h => ?_, fun h4 => ⟨fun h => ?_, fun h5 => ⟨fun h => ?_, fun h6 => ?_⟩⟩⟩⟩⟩⟩
  · refine endK.ret ?_ (by first | rfl | simp [belF, belN, bel_Ns, bel_slN]); simp [evRes, getT, retV, Tryz.f53]
    rfl
  · refine endK.ret ?_ (by first | rfl | simp [belF, belN, bel_Ns, bel_slN]); simp [evRes, getT, retV, Tryz.f53]
    rfl
  · refine endK.ret ?_ (by first | rfl | simp [belF, belN, bel_Ns, bel_slN]); simp [evRes, getT, retV, Tryz.f53]
    rfl
  · refine endK.ret ?_ (by first | rfl | simp [belF, belN, bel_Ns, bel_slN]); simp [evRes, getT, retV, Tryz.f53]
    rfl
  · refine endK.ret ?_ (by first | rfl | simp [belF, belN, bel_Ns, bel_slN]); simp [evRes, getT, retV, Tryz.f53]
    rfl
  · refine endK.ret ?_ (by first | rfl | simp [belF, belN, bel_Ns, bel_slN]); simp [evRes, getT, retV, Tryz.f53]
    rfl
  · refine endK.ret ?_ (by first | rfl | simp [belF, belN, bel_Ns, bel_slN]); simp [evRes, getT, retV, Tryz.f53,  arity, h1, h2, h3, h4, h5, h6, or_self, if_false]
def fval (f : Fl) (i : Int) : UInt8 := if i = 0 then f.s else if i = 1 then f.d else f.t
theorem pc52 (f : Fl) (i : Int) : PC Tryz.prog 52 [.agg (encF f), .int .i64 i] (.int .u8 (fval f i).toNat) := by
  refine PC.walk tok mixed cfg0 Tryz.func52 rfl Tryz.call52 (by simp [belF, belN, bel_Ns, bel_slN]) (by first | rfl | simp [belF, belN, bel_Ns, bel_slN]) ?_; simp (config := { maxSteps := 2000000 }) -implicitDefEqProofs +contextual (disch := first | assumption | omega | decide +kernel) only [push_cast, ↓capI, br2_true, br2_false, frk_tt, frk_tf, frk_f, frkD_tt, frkD_tf, frkD_f, pk2_true, pk2_false, imp_true, seval, Nat.reduceLeDiff, Nat.reduceEqDiff, reduceCtorEq, ↓reduceIte, reduceCtorEq, encF, encN, slN, cfg0, get_flat_part lenN, get_flat_drop lenN, len_flat lenN, Tryz.ntmps52]
  refine ⟨fun h => ?_, fun h1 => ⟨fun h => ?_, fun h2 => ?_⟩⟩
  · refine endK.ret ?_ (by first | rfl | simp [belF, belN, bel_Ns, bel_slN]); simp [evRes, getT, retV, Tryz.f52]
    rfl
  · refine endK.ret ?_ (by first | rfl | simp [belF, belN, bel_Ns, bel_slN]); simp [evRes, getT, retV, Tryz.f52]
    rfl
  · refine endK.ret ?_ (by first | rfl | simp [belF, belN, bel_Ns, bel_slN]); simp [evRes, getT, retV, Tryz.f52,  fval, h1, h2, if_false]
def fname (i : Int) : List UInt8 := if i = 0 then [115, 114, 99] else if i = 1 then [100, 115, 116] else [116, 121, 112, 101]
theorem pc43 (i : Int) : PC Tryz.prog 43 [.int .i64 i] (.str (fname i)) := by
  refine PC.walk tok mixed cfg0 Tryz.func43 rfl Tryz.call43 (by simp [belF, belN, bel_Ns, bel_slN]) (by first | rfl | simp [belF, belN, bel_Ns, bel_slN]) ?_; simp (config := { maxSteps := 2000000 }) -implicitDefEqProofs +contextual (disch := first | assumption | omega | decide +kernel) only [push_cast, ↓capI, br2_true, br2_false, frk_tt, frk_tf, frk_f, frkD_tt, frkD_tf, frkD_f, pk2_true, pk2_false, imp_true, seval, Nat.reduceLeDiff, Nat.reduceEqDiff, reduceCtorEq, ↓reduceIte, reduceCtorEq, encF, encN, slN, cfg0, get_flat_part lenN, get_flat_drop lenN, len_flat lenN, Tryz.ntmps43]
  refine ⟨fun h => ?_, fun h1 => ⟨fun h => ?_, fun h2 => ?_⟩⟩
  · refine endK.ret ?_ (by first | rfl | simp [belF, belN, bel_Ns, bel_slN]); simp [evRes, getT, retV, Tryz.f43]
    rfl
  · refine endK.ret ?_ (by first | rfl | simp [belF, belN, bel_Ns, bel_slN]); simp [evRes, getT, retV, Tryz.f43]
    rfl
  · refine endK.ret ?_ (by first | rfl | simp [belF, belN, bel_Ns, bel_slN]); simp [evRes, getT, retV, Tryz.f43,  fname, h1, h2, if_false]
theorem pc49 (i : Int) : PC Tryz.prog 49 [.int .i64 i] (.str (fname i)) := by
  refine PC.walk tok mixed cfg0 Tryz.func49 rfl Tryz.call49 (by simp [belF, belN, bel_Ns, bel_slN]) (by first | rfl | simp [belF, belN, bel_Ns, bel_slN]) ?_; simp (config := { maxSteps := 2000000 }) -implicitDefEqProofs +contextual (disch := first | assumption | omega | decide +kernel) only [push_cast, ↓capI, br2_true, br2_false, frk_tt, frk_tf, frk_f, frkD_tt, frkD_tf, frkD_f, pk2_true, pk2_false, imp_true, seval, Nat.reduceLeDiff, Nat.reduceEqDiff, reduceCtorEq, ↓reduceIte, reduceCtorEq, encF, encN, slN, cfg0, get_flat_part lenN, get_flat_drop lenN, len_flat lenN, Tryz.ntmps49]
  refine ⟨fun h => ?_, fun h1 => ⟨fun h => ?_, fun h2 => ?_⟩⟩
  · refine endK.ret ?_ (by first | rfl | simp [belF, belN, bel_Ns, bel_slN]); simp [evRes, getT, retV, Tryz.f49]
    rfl
  · refine endK.ret ?_ (by first | rfl | simp [belF, belN, bel_Ns, bel_slN]); simp [evRes, getT, retV, Tryz.f49]
    rfl
  · refine endK.ret ?_ (by first | rfl | simp [belF, belN, bel_Ns, bel_slN]); simp [evRes, getT, retV, Tryz.f49,  fname, h1, h2, if_false]
def encf (f : Fl) : Nat := f.s.toNat * 65536 + f.d.toNat * 256 + f.t.toNat
def decf (n : Nat) : Fl := ⟨UInt8.ofNat (n / 65536), UInt8.ofNat (n / 256), UInt8.ofNat n⟩
theorem wN {n : Nat} (h : n < 2 ^ 64) : (n : Int) = ((BitVec.ofNat 64 n).toNat : Int) := by rw [BitVec.toNat_ofNat, Nat.mod_eq_of_lt h]
theorem u64N {n : Nat} (h : n < 2 ^ 64) : IntKind.u64.wrap (n : Int) = (n : Int) := IntWalk.u64_in _ ⟨by omega, by omega⟩
theorem u8W (m : Nat) : IntKind.u8.wrap (m : Int) = ((UInt8.ofNat m).toNat : Int) := by
  rw [UInt8.toNat_ofNat']
  unfold IntKind.wrap
  simp [IntKind.bits, IntKind.signed]
theorem shrN {n : Nat} (k : Nat) (h : n < 2 ^ 64) : ishr .u64 (n : Int) (k : Int) = ((n / 2 ^ k : Nat) : Int) := by
  rw [wN h, w_shr, BitVec.toNat_ushiftRight, BitVec.toNat_ofNat, Nat.mod_eq_of_lt h, Nat.shiftRight_eq_div_pow]
theorem orN {a b c : Nat} (ha : a < 256) (hb : b < 256) (hc : c < 256) : ibits .or .u64 (ibits .or .u64 (ishl .u64 (a : Int) 16) (ishl .u64 (b : Int) 8)) (c : Int) = ((a * 65536 + b * 256 + c : Nat) : Int) := by
  have e1 : ishl .u64 (a : Int) 16 = (((BitVec.ofNat 64 a) <<< 16).toNat : Int) := by
    rw [wN (n := a) (by omega)]
    exact w_shl (k := 16)
  have e2 : ishl .u64 (b : Int) 8 = (((BitVec.ofNat 64 b) <<< 8).toNat : Int) := by
    rw [wN (n := b) (by omega)]
    exact w_shl (k := 8)
  rw [e1, e2, wN (n := c) (by omega), ib_or, ib_or, w_ofInt, w_ofInt, w_ofInt, w_ofInt]
  simp only [BitVec.toNat_or, BitVec.toNat_shiftLeft, BitVec.toNat_ofNat, Nat.shiftLeft_eq]
  rw [Nat.mod_eq_of_lt (by omega : a < 2 ^ 64), Nat.mod_eq_of_lt (by omega : b < 2 ^ 64), Nat.mod_eq_of_lt (by omega : c < 2 ^ 64), Nat.mod_eq_of_lt (by omega : a * 2 ^ 16 < 2 ^ 64), Nat.mod_eq_of_lt (by omega : b * 2 ^ 8 < 2 ^ 64)]
  have h1 : a * 2 ^ 16 ||| b * 2 ^ 8 = (a * 2 ^ 8 + b) * 2 ^ 8 := by
    have := Nat.shiftLeft_add_eq_or_of_lt (i := 16) (b := b * 2 ^ 8) (by omega) a
    rw [Nat.shiftLeft_eq] at this
    omega
  rw [h1]
  have := Nat.shiftLeft_add_eq_or_of_lt (i := 8) (b := c) (by omega) (a * 2 ^ 8 + b)
  rw [Nat.shiftLeft_eq] at this
  omega
theorem pc17 (f : Fl) : PC Tryz.prog 17 [.agg (encF f)] (.int .u64 (encf f)) := by
  have h1 := f.s.toNat_lt
  have h2 := f.d.toNat_lt
  have h3 := f.t.toNat_lt
  refine PC.walk tok mixed cfg0 Tryz.func17 rfl Tryz.call17 (by simp [belF, belN, bel_Ns, bel_slN]) (by first | rfl | simp [belF, belN, bel_Ns, bel_slN]) ?_; simp (config := { maxSteps := 2000000 }) -implicitDefEqProofs +contextual (disch := first | assumption | omega | decide +kernel) only [push_cast, ↓capI, br2_true, br2_false, frk_tt, frk_tf, frk_f, frkD_tt, frkD_tf, frkD_f, pk2_true, pk2_false, imp_true, seval, Nat.reduceLeDiff, Nat.reduceEqDiff, reduceCtorEq, ↓reduceIte, reduceCtorEq, encF, encN, slN, cfg0, get_flat_part lenN, get_flat_drop lenN, len_flat lenN, Tryz.ntmps17]
  refine endK.ret ?_ (by first | rfl | simp [belF, belN, bel_Ns, bel_slN]); simp [evRes, getT, retV, Tryz.f17,  u64N (n := f.s.toNat) (by omega), u64N (n := f.d.toNat) (by omega), u64N (n := f.t.toNat) (by omega), orN h1 h2 h3, encf]
theorem pc18 (n : Nat) (hn : n < 2 ^ 64) : PC Tryz.prog 18 [.int .u64 n] (.agg (encF (decf n))) := by
  have e1 : ishr .u64 (n : Int) 16 = ((n / 65536 : Nat) : Int) := shrN 16 hn
  have e2 : ishr .u64 (n : Int) 8 = ((n / 256 : Nat) : Int) := shrN 8 hn
  refine PC.walk tok mixed cfg0 Tryz.func18 rfl Tryz.call18 (by simp [belF, belN, bel_Ns, bel_slN]) (by first | rfl | simp [belF, belN, bel_Ns, bel_slN]) ?_; simp (config := { maxSteps := 2000000 }) -implicitDefEqProofs +contextual (disch := first | assumption | omega | decide +kernel) only [push_cast, ↓capI, br2_true, br2_false, frk_tt, frk_tf, frk_f, frkD_tt, frkD_tf, frkD_f, pk2_true, pk2_false, imp_true, seval, Nat.reduceLeDiff, Nat.reduceEqDiff, reduceCtorEq, ↓reduceIte, reduceCtorEq, encF, encN, slN, cfg0, get_flat_part lenN, get_flat_drop lenN, len_flat lenN, Tryz.ntmps18]
  rw [e1, e2, u8W, u8W, u8W]
  refine endK.ret ?_ (by first | rfl | simp [belF, belN, bel_Ns, bel_slN]); simp [belF, belN, bel_Ns, bel_slN, fzs_ok, imp, lenOK_iff, List.take_of_length_le, evRes, getT, getO, setO, fzs, fz, fzH, Nat.beq, retV, Res.then, ldT, ldR, mkV, getV, tt_3, tt_4, tt_5, tt_9, tt_22, tt_42, tt_26, tt_43, tt_36, tt_63, encF, encN, slN, cfg0, get_flat_part lenN, get_flat_drop lenN, len_flat lenN, Tryz.f18,  decf]
end Go.Proofs.YtllfdnbnkncnhaaGreatDoor

/- Chapter 44: the check of a predicate, program and reference. -/
set_option maxRecDepth 100000
set_option maxHeartbeats 4000000
set_option linter.all false
namespace Go.Proofs.YtllfdnbnkncnhaaGreatDoor
open Go.Vm

theorem fmN (x : Nd) (l : List Nd) : List.flatMap encN (x :: l) = .int .i64 x.op :: .int .i64 x.fd :: .int .u8 x.v.toNat :: .int .u8 x.m.toNat :: l.flatMap encN := rfl
theorem fm0 : List.flatMap encN [] = [] := rfl
theorem slN_nil : slN [] = .sl false [] 0 := rfl
theorem take_N {xs : List Nd} : (xs.flatMap encN).take (xs.length * 4) = xs.flatMap encN := by
  rw [List.take_of_length_le (by rw [len_flat lenN]; exact Nat.le_refl _)]
theorem toN1 (n : Nat) : ((n : Int) + 1).toNat - 1 = n := by omega
theorem b8 (v : UInt8) : BitVec.ofInt 8 (v.toNat : Int) = v.toBitVec := by
  rw [BitVec.ofInt_natCast]
  exact BitVec.eq_of_toNat_eq (by rw [BitVec.toNat_ofNat, Nat.mod_eq_of_lt v.toNat_lt]; rfl)
theorem w8 (b : BitVec 8) : IntKind.u8.wrap (b.toNat : Int) = b.toNat := u8_id (by have := b.isLt; omega)
theorem and8 (v m : UInt8) : ibits .and .u8 v.toNat m.toNat = ((v &&& m).toNat : Int) := by
  have h : ibits .and .u8 v.toNat m.toNat = IntKind.u8.wrap ((BitVec.ofInt 8 v.toNat &&& BitVec.ofInt 8 m.toNat).toNat : Int) := rfl
  rw [h, b8, b8, w8]
  rfl
theorem xor8 (v m : UInt8) : ibits .xor .u8 v.toNat m.toNat = ((v ^^^ m).toNat : Int) := by
  have h : ibits .xor .u8 v.toNat m.toNat = IntKind.u8.wrap ((BitVec.ofInt 8 v.toNat ^^^ BitVec.ofInt 8 m.toNat).toNat : Int) := rfl
  rw [h, b8, b8, w8]
  rfl
theorem andNot8 (v m : UInt8) : ibits .andNot .u8 v.toNat m.toNat = ((v &&& ~~~ m).toNat : Int) := by
  have h : ibits .andNot .u8 v.toNat m.toNat = IntKind.u8.wrap ((BitVec.ofInt 8 v.toNat &&& ~~~ BitVec.ofInt 8 m.toNat).toNat : Int) := rfl
  rw [h, b8, b8, w8]
  rfl
theorem zero8 (v : UInt8) : ((v.toNat : Int) = 0) = (v = 0) := by
  apply propext
  constructor
  · intro h
    exact UInt8.toNat_inj.1 (by simpa using h)
  · rintro rfl
    rfl
def rep (f : List Nd → List Nd × Int) : Nat → List Nd → List Nd × Int
  | 0, l => (l, 0)
  | n + 1, l => if (f l).2 ≠ 0 then ([], (f l).2) else rep f n (f l).1
def badN (x : Nd) : Bool := decide (x.v &&& ~~~ x.m ≠ 0)
def chk1 (x : Nd) : Int := if arity x.op < 0 then 11 else if x.op = 3 ∧ (x.fd < 0 ∨ 2 < x.fd) then 9 else if x.op = 3 ∧ badN x = true then 5 else 0
def chk : Nat → List Nd → List Nd × Int
  | _, [] => ([], 3)
  | 0, _ :: _ => ([], 3)
  | k + 1, x :: l => if chk1 x ≠ 0 then ([], chk1 x) else rep (chk k) (arity x.op).toNat l
theorem rep_len {f : List Nd → List Nd × Int} (h : ∀ l, (f l).1.length ≤ l.length) : ∀ n l, (rep f n l).1.length ≤ l.length
  | 0, l => Nat.le_refl _
  | n + 1, l => by
    rw [rep]
    split
    · exact Nat.zero_le _
    · exact Nat.le_trans (rep_len h n _) (h l)
theorem chk_len : ∀ k l, (chk k l).1.length ≤ l.length
  | 0, [] => Nat.le_refl _
  | 0, _ :: _ => Nat.zero_le _
  | k + 1, [] => Nat.le_refl _
  | k + 1, x :: l => by
    rw [chk]
    split
    · exact Nat.zero_le _
    · exact Nat.le_trans (rep_len (chk_len k) _ _) (Nat.le_succ _)
def encLN (r : List Nd × Int) : V := .tup [if r.2 ≠ 0 then .sl true [] 0 else slN r.1, .int .i64 r.2]
theorem encLN_ok {r : List Nd × Int} (h : r.2 = 0) : encLN r = .tup [slN r.1, .int .i64 0] := by
  rw [encLN, if_neg (fun e => e h), h]
theorem encLN_err {r : List Nd × Int} (h : ¬ r.2 = 0) : encLN r = .tup [.sl true [] 0, .int .i64 r.2] := by
  rw [encLN, if_pos h]
theorem arity_le (o : Int) : arity o ≤ 2 := by
  unfold arity
  split
  · decide
  split
  · decide
  split <;> decide
theorem bel_LN {n : Nat} (r : List Nd × Int) : (encLN r).bel n = true := by
  unfold encLN
  by_cases h : r.2 ≠ 0
  · rw [if_pos h]
    rfl
  · rw [if_neg h, bel_tup, belAll_cons, bel_slN]
    rfl
theorem pc31 : ∀ (k : Nat) (l : List Nd), l.length ≤ k → l.length ≤ 4000000 → PC Tryz.prog 31 [slN l] (encLN (chk k l)) := by
  intro k
  induction k with
  | zero =>
    intro l hl _
    have hl0 : l = [] := List.length_eq_zero_iff.1 (by omega)
    subst hl0
    refine PC.walk tok mixed cfg0 Tryz.func31 rfl Tryz.call31 (by simp [bel_LN, fmN, fm0, belF, belN, bel_Ns, bel_slN]) (by first | rfl | simp [bel_LN, fmN, fm0, belF, belN, bel_Ns, bel_slN]) ?_; simp (config := { maxSteps := 2000000 }) -implicitDefEqProofs +contextual (disch := first | assumption | omega | decide +kernel) only [push_cast, ↓capI, br2_true, br2_false, frk_tt, frk_tf, frk_f, frkD_tt, frkD_tf, frkD_f, pk2_true, pk2_false, imp_true, seval, Nat.reduceLeDiff, Nat.reduceEqDiff, reduceCtorEq, ↓reduceIte, reduceCtorEq, fmN, fm0, take_N, toN1, slN_nil, encF, encN, slN, cfg0, get_flat_part lenN, get_flat_drop lenN, len_flat lenN, Tryz.ntmps31]
    refine endK.ret ?_ (by first | rfl | simp [bel_LN, fmN, fm0, belF, belN, bel_Ns, bel_slN]); simp [evRes, getT, retV, Tryz.f31,  chk, encLN, fm0]
  | succ k ih =>
    intro l hl hm
    cases l with
    | nil =>
      refine PC.walk tok mixed cfg0 Tryz.func31 rfl Tryz.call31 (by simp [bel_LN, fmN, fm0, belF, belN, bel_Ns, bel_slN]) (by first | rfl | simp [bel_LN, fmN, fm0, belF, belN, bel_Ns, bel_slN]) ?_; simp (config := { maxSteps := 2000000 }) -implicitDefEqProofs +contextual (disch := first | assumption | omega | decide +kernel) only [push_cast, ↓capI, br2_true, br2_false, frk_tt, frk_tf, frk_f, frkD_tt, frkD_tf, frkD_f, pk2_true, pk2_false, imp_true, seval, Nat.reduceLeDiff, Nat.reduceEqDiff, reduceCtorEq, ↓reduceIte, reduceCtorEq, fmN, fm0, take_N, toN1, slN_nil, encF, encN, slN, cfg0, get_flat_part lenN, get_flat_drop lenN, len_flat lenN, Tryz.ntmps31]
      refine endK.ret ?_ (by first | rfl | simp [bel_LN, fmN, fm0, belF, belN, bel_Ns, bel_slN]); simp [evRes, getT, retV, Tryz.f31,  chk, encLN]
    | cons x l =>
      refine PC.walk tok mixed cfg0 Tryz.func31 rfl Tryz.call31 (by simp [bel_LN, fmN, fm0, belF, belN, bel_Ns, bel_slN]) (by first | rfl | simp [bel_LN, fmN, fm0, belF, belN, bel_Ns, bel_slN]) ?_; simp (config := { maxSteps := 2000000 }) -implicitDefEqProofs +contextual (disch := first | assumption | omega | decide +kernel) only [push_cast, ↓capI, br2_true, br2_false, frk_tt, frk_tf, frk_f, frkD_tt, frkD_tf, frkD_f, pk2_true, pk2_false, imp_true, seval, Nat.reduceLeDiff, Nat.reduceEqDiff, reduceCtorEq, ↓reduceIte, reduceCtorEq, fmN, fm0, take_N, toN1, slN_nil, encF, encN, slN, cfg0, get_flat_part lenN, get_flat_drop lenN, len_flat lenN, Tryz.ntmps31]
      have hm2 : l.length ≤ 4000000 := by simp only [List.length_cons] at hm; omega
      have hk2 : l.length ≤ k := by simp only [List.length_cons] at hl; omega
      refine callO.pc (pc53 x.op) ?_
      by_cases ha : arity x.op < 0
      · have hc : chk1 x = 11 := by rw [chk1, if_pos ha]
        simp (config := { maxSteps := 2000000 }) -implicitDefEqProofs +contextual (disch := first | assumption | omega | decide +kernel) only [push_cast, ↓capI, br2_true, br2_false, frk_tt, frk_tf, frk_f, frkD_tt, frkD_tf, frkD_f, pk2_true, pk2_false, imp_true, seval, Nat.reduceLeDiff, Nat.reduceEqDiff, reduceCtorEq, ↓reduceIte, reduceCtorEq, fmN, fm0, take_N, toN1, slN_nil, encF, encN, slN, cfg0, get_flat_part lenN, get_flat_drop lenN, len_flat lenN, ha]
        refine endK.ret ?_ (by first | rfl | simp [bel_LN, fmN, fm0, belF, belN, bel_Ns, bel_slN]); simp [evRes, getT, retV, Tryz.f31,  chk, hc, encLN]
      by_cases h3 : x.op = 3
      case neg =>
        have hc : chk1 x = 0 := by rw [chk1, if_neg ha, if_neg (fun h => h3 h.1), if_neg (fun h => h3 h.1)]
        simp (config := { maxSteps := 2000000 }) -implicitDefEqProofs +contextual (disch := first | assumption | omega | decide +kernel) only [push_cast, ↓capI, br2_true, br2_false, frk_tt, frk_tf, frk_f, frkD_tt, frkD_tf, frkD_f, pk2_true, pk2_false, imp_true, seval, Nat.reduceLeDiff, Nat.reduceEqDiff, reduceCtorEq, ↓reduceIte, reduceCtorEq, fmN, fm0, take_N, toN1, slN_nil, encF, encN, slN, cfg0, get_flat_part lenN, get_flat_drop lenN, len_flat lenN, ha, h3]
        refine callO.pc (pc53 x.op) ?_
        simp (config := { maxSteps := 2000000 }) -implicitDefEqProofs +contextual (disch := first | assumption | omega | decide +kernel) only [push_cast, ↓capI, br2_true, br2_false, frk_tt, frk_tf, frk_f, frkD_tt, frkD_tf, frkD_f, pk2_true, pk2_false, imp_true, seval, Nat.reduceLeDiff, Nat.reduceEqDiff, reduceCtorEq, ↓reduceIte, reduceCtorEq, fmN, fm0, take_N, toN1, slN_nil, encF, encN, slN, cfg0, get_flat_part lenN, get_flat_drop lenN, len_flat lenN]
        have hle := arity_le x.op
        obtain ⟨a, hA⟩ : ∃ a : Nat, arity x.op = (a : Int) := ⟨(arity x.op).toNat, by omega⟩
        have hr0 : chk (k + 1) (x :: l) = rep (chk k) a l := by
          rw [chk, hc, if_neg (by decide), hA, Int.toNat_natCast]
        rw [hr0]
        refine T.lp tok mixed cfg0 (fun ((i, r) : Nat × List Nd) => dd 5 (sv (slN r) (dd 42 (sv (.int .i64 a) (sv (.int .i64 i) (dd 11 (nl))))))) (fun H0 ((i, r) : Nat × List Nd) => [.cells 0 [.int .i64 x.op, .int .i64 x.fd, .int .u8 x.v.toNat, .int .u8 x.m.toNat]]) (fun ((i, r) : Nat × List Nd) => i ≤ a ∧ r.length ≤ l.length ∧ rep (chk k) (a - i) r = rep (chk k) a l) (fun ((i, r) : Nat × List Nd) => a - i) ((0, l)) ?_ ?_ ?_
        · exact ⟨Nat.zero_le _, Nat.le_refl _, rfl⟩
        · rw [hA]
          exact Gn.canon (J := []) (by first | rfl | (simp [List.append_nil]; done) | (simp [List.append_nil]; rfl)) (by simp [wk, slN, putT, kp, dd, sv, nl]) (by simp [List.length_append]) (by simp [bel_LN, fmN, fm0, belF, belN, bel_Ns, bel_slN, kp, dd, sv, nl]) (by simp [bel_LN, fmN, fm0, belF, belN, bel_Ns, bel_slN])
        rintro ⟨i, r⟩ ⟨hi, hrl, hr⟩
        simp (config := { maxSteps := 2000000 }) -implicitDefEqProofs +contextual (disch := first | assumption | omega | decide +kernel) only [push_cast, ↓capI, br2_true, br2_false, frk_tt, frk_tf, frk_f, frkD_tt, frkD_tf, frkD_f, pk2_true, pk2_false, imp_true, seval, Nat.reduceLeDiff, Nat.reduceEqDiff, reduceCtorEq, ↓reduceIte, reduceCtorEq, fmN, fm0, take_N, toN1, slN_nil, encF, encN, slN, cfg0, get_flat_part lenN, get_flat_drop lenN, len_flat lenN]
        refine ⟨fun hlt => ?_, fun hge => ?_⟩
        · rw [show a - i = (a - (i + 1)) + 1 by omega, rep] at hr
          refine callO.pc (ih r (by omega) (by omega)) ?_
          by_cases he : (chk k r).2 = 0
          · rw [if_neg (fun h => h he)] at hr
            rw [encLN_ok he]
            have hcl := chk_len k r
            simp (config := { maxSteps := 2000000 }) -implicitDefEqProofs +contextual (disch := first | assumption | omega | decide +kernel) only [push_cast, ↓capI, br2_true, br2_false, frk_tt, frk_tf, frk_f, frkD_tt, frkD_tf, frkD_f, pk2_true, pk2_false, imp_true, seval, Nat.reduceLeDiff, Nat.reduceEqDiff, reduceCtorEq, ↓reduceIte, reduceCtorEq, fmN, fm0, take_N, toN1, slN_nil, encF, encN, slN, cfg0, get_flat_part lenN, get_flat_drop lenN, len_flat lenN, he]
            refine ⟨(i + 1, (chk k r).1), ⟨by simp only; omega, by simp only; omega, hr⟩, by (try simp only); omega, ?_⟩; exact Gn.canon (by first | rfl | (simp [List.append_nil]; rfl)) (by simp [wk, slN]) (by simp [List.length_append]) (by simp [bel_LN, fmN, fm0, belF, belN, bel_Ns, bel_slN]) (by simp [bel_LN, fmN, fm0, belF, belN, bel_Ns, bel_slN])
          · rw [if_pos he] at hr
            rw [encLN_err he]
            simp (config := { maxSteps := 2000000 }) -implicitDefEqProofs +contextual (disch := first | assumption | omega | decide +kernel) only [push_cast, ↓capI, br2_true, br2_false, frk_tt, frk_tf, frk_f, frkD_tt, frkD_tf, frkD_f, pk2_true, pk2_false, imp_true, seval, Nat.reduceLeDiff, Nat.reduceEqDiff, reduceCtorEq, ↓reduceIte, reduceCtorEq, fmN, fm0, take_N, toN1, slN_nil, encF, encN, slN, cfg0, get_flat_part lenN, get_flat_drop lenN, len_flat lenN, he]
            rw [← hr, encLN_err (r := ([], (chk k r).2)) he]
            refine endK.ret ?_ (by first | rfl | simp [bel_LN, fmN, fm0, belF, belN, bel_Ns, bel_slN]); simp [evRes, getT, retV, Tryz.f31]
        · rw [show a - i = 0 by omega, rep] at hr
          rw [← hr, encLN_ok rfl]
          refine endK.ret ?_ (by first | rfl | simp [bel_LN, fmN, fm0, belF, belN, bel_Ns, bel_slN]); simp [evRes, getT, retV, Tryz.f31,  slN]
      by_cases hf : x.fd < 0
      · have hc : chk1 x = 9 := by rw [chk1, if_neg ha, if_pos ⟨h3, Or.inl hf⟩]
        simp (config := { maxSteps := 2000000 }) -implicitDefEqProofs +contextual (disch := first | assumption | omega | decide +kernel) only [push_cast, ↓capI, br2_true, br2_false, frk_tt, frk_tf, frk_f, frkD_tt, frkD_tf, frkD_f, pk2_true, pk2_false, imp_true, seval, Nat.reduceLeDiff, Nat.reduceEqDiff, reduceCtorEq, ↓reduceIte, reduceCtorEq, fmN, fm0, take_N, toN1, slN_nil, encF, encN, slN, cfg0, get_flat_part lenN, get_flat_drop lenN, len_flat lenN, ha, h3, hf]
        refine endK.ret ?_ (by first | rfl | simp [bel_LN, fmN, fm0, belF, belN, bel_Ns, bel_slN]); simp [evRes, getT, retV, Tryz.f31,  chk, hc, encLN]
      by_cases hf2 : 2 < x.fd
      · have hc : chk1 x = 9 := by rw [chk1, if_neg ha, if_pos ⟨h3, Or.inr hf2⟩]
        simp (config := { maxSteps := 2000000 }) -implicitDefEqProofs +contextual (disch := first | assumption | omega | decide +kernel) only [push_cast, ↓capI, br2_true, br2_false, frk_tt, frk_tf, frk_f, frkD_tt, frkD_tf, frkD_f, pk2_true, pk2_false, imp_true, seval, Nat.reduceLeDiff, Nat.reduceEqDiff, reduceCtorEq, ↓reduceIte, reduceCtorEq, fmN, fm0, take_N, toN1, slN_nil, encF, encN, slN, cfg0, get_flat_part lenN, get_flat_drop lenN, len_flat lenN, ha, h3, hf, hf2]
        refine endK.ret ?_ (by first | rfl | simp [bel_LN, fmN, fm0, belF, belN, bel_Ns, bel_slN]); simp [evRes, getT, retV, Tryz.f31,  chk, hc, encLN]
      have hb : ∀ h : badN x = true, chk1 x = 5 := fun h => by rw [chk1, if_neg ha, if_neg (fun h => h.2.elim hf hf2), if_pos ⟨h3, h⟩]
      have hn : badN x = decide (ibits BinOp.andNot IntKind.u8 x.v.toNat x.m.toNat ≠ 0) := by
        rw [badN, andNot8]
        congr 1
        rw [Ne, Ne, zero8]
      by_cases hbd : ibits BinOp.andNot IntKind.u8 x.v.toNat x.m.toNat = 0
      case neg =>
        have hc := hb (by rw [hn]; simpa using hbd)
        simp (config := { maxSteps := 2000000 }) -implicitDefEqProofs +contextual (disch := first | assumption | omega | decide +kernel) only [push_cast, ↓capI, br2_true, br2_false, frk_tt, frk_tf, frk_f, frkD_tt, frkD_tf, frkD_f, pk2_true, pk2_false, imp_true, seval, Nat.reduceLeDiff, Nat.reduceEqDiff, reduceCtorEq, ↓reduceIte, reduceCtorEq, fmN, fm0, take_N, toN1, slN_nil, encF, encN, slN, cfg0, get_flat_part lenN, get_flat_drop lenN, len_flat lenN, ha, h3, hf, hf2, hbd]
        refine endK.ret ?_ (by first | rfl | simp [bel_LN, fmN, fm0, belF, belN, bel_Ns, bel_slN]); simp [evRes, getT, retV, Tryz.f31,  chk, hc, encLN]
      have hc : chk1 x = 0 := by
        rw [chk1, if_neg ha, if_neg (fun h => h.2.elim hf hf2), if_neg]
        rintro ⟨_, h⟩
        rw [hn] at h
        simp [hbd] at h
      simp (config := { maxSteps := 2000000 }) -implicitDefEqProofs +contextual (disch := first | assumption | omega | decide +kernel) only [push_cast, ↓capI, br2_true, br2_false, frk_tt, frk_tf, frk_f, frkD_tt, frkD_tf, frkD_f, pk2_true, pk2_false, imp_true, seval, Nat.reduceLeDiff, Nat.reduceEqDiff, reduceCtorEq, ↓reduceIte, reduceCtorEq, fmN, fm0, take_N, toN1, slN_nil, encF, encN, slN, cfg0, get_flat_part lenN, get_flat_drop lenN, len_flat lenN, ha, h3, hf, hf2, hbd]
      rw [← h3]
      refine callO.pc (pc53 x.op) ?_
      simp (config := { maxSteps := 2000000 }) -implicitDefEqProofs +contextual (disch := first | assumption | omega | decide +kernel) only [push_cast, ↓capI, br2_true, br2_false, frk_tt, frk_tf, frk_f, frkD_tt, frkD_tf, frkD_f, pk2_true, pk2_false, imp_true, seval, Nat.reduceLeDiff, Nat.reduceEqDiff, reduceCtorEq, ↓reduceIte, reduceCtorEq, fmN, fm0, take_N, toN1, slN_nil, encF, encN, slN, cfg0, get_flat_part lenN, get_flat_drop lenN, len_flat lenN]
      have hle := arity_le x.op
      obtain ⟨a, hA⟩ : ∃ a : Nat, arity x.op = (a : Int) := ⟨(arity x.op).toNat, by omega⟩
      have hr0 : chk (k + 1) (x :: l) = rep (chk k) a l := by
        rw [chk, hc, if_neg (by decide), hA, Int.toNat_natCast]
      rw [hr0]
      refine T.lp tok mixed cfg0 (fun ((i, r) : Nat × List Nd) => dd 5 (sv (slN r) (dd 42 (sv (.int .i64 a) (sv (.int .i64 i) (dd 11 (nl))))))) (fun H0 ((i, r) : Nat × List Nd) => [.cells 0 [.int .i64 x.op, .int .i64 x.fd, .int .u8 x.v.toNat, .int .u8 x.m.toNat]]) (fun ((i, r) : Nat × List Nd) => i ≤ a ∧ r.length ≤ l.length ∧ rep (chk k) (a - i) r = rep (chk k) a l) (fun ((i, r) : Nat × List Nd) => a - i) ((0, l)) ?_ ?_ ?_
      · exact ⟨Nat.zero_le _, Nat.le_refl _, rfl⟩
      · rw [hA]
        exact Gn.canon (J := []) (by first | rfl | (simp [List.append_nil]; done) | (simp [List.append_nil]; rfl)) (by simp [wk, slN, putT, kp, dd, sv, nl]) (by simp [List.length_append]) (by simp [bel_LN, fmN, fm0, belF, belN, bel_Ns, bel_slN, kp, dd, sv, nl]) (by simp [bel_LN, fmN, fm0, belF, belN, bel_Ns, bel_slN])
      rintro ⟨i, r⟩ ⟨hi, hrl, hr⟩
      simp (config := { maxSteps := 2000000 }) -implicitDefEqProofs +contextual (disch := first | assumption | omega | decide +kernel) only [push_cast, ↓capI, br2_true, br2_false, frk_tt, frk_tf, frk_f, frkD_tt, frkD_tf, frkD_f, pk2_true, pk2_false, imp_true, seval, Nat.reduceLeDiff, Nat.reduceEqDiff, reduceCtorEq, ↓reduceIte, reduceCtorEq, fmN, fm0, take_N, toN1, slN_nil, encF, encN, slN, cfg0, get_flat_part lenN, get_flat_drop lenN, len_flat lenN]
      refine ⟨fun hlt => ?_, fun hge => ?_⟩
      · rw [show a - i = (a - (i + 1)) + 1 by omega, rep] at hr
        refine callO.pc (ih r (by omega) (by omega)) ?_
        by_cases he : (chk k r).2 = 0
        · rw [if_neg (fun h => h he)] at hr
          rw [encLN_ok he]
          have hcl := chk_len k r
          simp (config := { maxSteps := 2000000 }) -implicitDefEqProofs +contextual (disch := first | assumption | omega | decide +kernel) only [push_cast, ↓capI, br2_true, br2_false, frk_tt, frk_tf, frk_f, frkD_tt, frkD_tf, frkD_f, pk2_true, pk2_false, imp_true, seval, Nat.reduceLeDiff, Nat.reduceEqDiff, reduceCtorEq, ↓reduceIte, reduceCtorEq, fmN, fm0, take_N, toN1, slN_nil, encF, encN, slN, cfg0, get_flat_part lenN, get_flat_drop lenN, len_flat lenN, he]
          refine ⟨(i + 1, (chk k r).1), ⟨by simp only; omega, by simp only; omega, hr⟩, by (try simp only); omega, ?_⟩; exact Gn.canon (by first | rfl | (simp [List.append_nil]; rfl)) (by simp [wk, slN]) (by simp [List.length_append]) (by simp [bel_LN, fmN, fm0, belF, belN, bel_Ns, bel_slN]) (by simp [bel_LN, fmN, fm0, belF, belN, bel_Ns, bel_slN])
        · rw [if_pos he] at hr
          rw [encLN_err he]
          simp (config := { maxSteps := 2000000 }) -implicitDefEqProofs +contextual (disch := first | assumption | omega | decide +kernel) only [push_cast, ↓capI, br2_true, br2_false, frk_tt, frk_tf, frk_f, frkD_tt, frkD_tf, frkD_f, pk2_true, pk2_false, imp_true, seval, Nat.reduceLeDiff, Nat.reduceEqDiff, reduceCtorEq, ↓reduceIte, reduceCtorEq, fmN, fm0, take_N, toN1, slN_nil, encF, encN, slN, cfg0, get_flat_part lenN, get_flat_drop lenN, len_flat lenN, he]
          rw [← hr, encLN_err (r := ([], (chk k r).2)) he]
          refine endK.ret ?_ (by first | rfl | simp [bel_LN, fmN, fm0, belF, belN, bel_Ns, bel_slN]); simp [evRes, getT, retV, Tryz.f31]
      · rw [show a - i = 0 by omega, rep] at hr
        rw [← hr, encLN_ok rfl]
        refine endK.ret ?_ (by first | rfl | simp [bel_LN, fmN, fm0, belF, belN, bel_Ns, bel_slN]); simp [evRes, getT, retV, Tryz.f31,  slN]
def checkP (l : List Nd) : Int := if 24 < l.length then 12 else if (chk l.length l).2 = 0 ∧ (chk l.length l).1 ≠ [] then 4 else (chk l.length l).2
theorem pc19 (l : List Nd) (hl : l.length ≤ 4000000) : PC Tryz.prog 19 [slN l] (.int .i64 (checkP l)) := by
  by_cases h : 24 < l.length
  · refine PC.walk tok mixed cfg0 Tryz.func19 rfl Tryz.call19 (by simp [bel_LN, fmN, fm0, belF, belN, bel_Ns, bel_slN]) (by first | rfl | simp [bel_LN, fmN, fm0, belF, belN, bel_Ns, bel_slN]) ?_; simp (config := { maxSteps := 2000000 }) -implicitDefEqProofs +contextual (disch := first | assumption | omega | decide +kernel) only [push_cast, ↓capI, br2_true, br2_false, frk_tt, frk_tf, frk_f, frkD_tt, frkD_tf, frkD_f, pk2_true, pk2_false, imp_true, seval, Nat.reduceLeDiff, Nat.reduceEqDiff, reduceCtorEq, ↓reduceIte, reduceCtorEq, fmN, fm0, take_N, toN1, slN_nil, encF, encN, slN, cfg0, get_flat_part lenN, get_flat_drop lenN, len_flat lenN, Tryz.ntmps19]
    refine endK.ret ?_ (by first | rfl | simp [bel_LN, fmN, fm0, belF, belN, bel_Ns, bel_slN]); simp [evRes, getT, retV, Tryz.f19,  checkP, h]
  refine PC.walk tok mixed cfg0 Tryz.func19 rfl Tryz.call19 (by simp [bel_LN, fmN, fm0, belF, belN, bel_Ns, bel_slN]) (by first | rfl | simp [bel_LN, fmN, fm0, belF, belN, bel_Ns, bel_slN]) ?_; simp (config := { maxSteps := 2000000 }) -implicitDefEqProofs +contextual (disch := first | assumption | omega | decide +kernel) only [push_cast, ↓capI, br2_true, br2_false, frk_tt, frk_tf, frk_f, frkD_tt, frkD_tf, frkD_f, pk2_true, pk2_false, imp_true, seval, Nat.reduceLeDiff, Nat.reduceEqDiff, reduceCtorEq, ↓reduceIte, reduceCtorEq, fmN, fm0, take_N, toN1, slN_nil, encF, encN, slN, cfg0, get_flat_part lenN, get_flat_drop lenN, len_flat lenN, Tryz.ntmps19]
  refine callO.pc (pc31 l.length l (Nat.le_refl _) hl) ?_
  by_cases he : (chk l.length l).2 = 0
  · rw [encLN_ok he]
    by_cases hn : (chk l.length l).1 = []
    · rw [hn]
      simp (config := { maxSteps := 2000000 }) -implicitDefEqProofs +contextual (disch := first | assumption | omega | decide +kernel) only [push_cast, ↓capI, br2_true, br2_false, frk_tt, frk_tf, frk_f, frkD_tt, frkD_tf, frkD_f, pk2_true, pk2_false, imp_true, seval, Nat.reduceLeDiff, Nat.reduceEqDiff, reduceCtorEq, ↓reduceIte, reduceCtorEq, fmN, fm0, take_N, toN1, slN_nil, encF, encN, slN, cfg0, get_flat_part lenN, get_flat_drop lenN, len_flat lenN]
      refine endK.ret ?_ (by first | rfl | simp [bel_LN, fmN, fm0, belF, belN, bel_Ns, bel_slN]); simp [evRes, getT, retV, Tryz.f19,  checkP, h, he, hn]
    · have hp : 0 < (chk l.length l).1.length := List.length_pos_iff.2 hn
      simp (config := { maxSteps := 2000000 }) -implicitDefEqProofs +contextual (disch := first | assumption | omega | decide +kernel) only [push_cast, ↓capI, br2_true, br2_false, frk_tt, frk_tf, frk_f, frkD_tt, frkD_tf, frkD_f, pk2_true, pk2_false, imp_true, seval, Nat.reduceLeDiff, Nat.reduceEqDiff, reduceCtorEq, ↓reduceIte, reduceCtorEq, fmN, fm0, take_N, toN1, slN_nil, encF, encN, slN, cfg0, get_flat_part lenN, get_flat_drop lenN, len_flat lenN, hp]
      refine endK.ret ?_ (by first | rfl | simp [bel_LN, fmN, fm0, belF, belN, bel_Ns, bel_slN]); simp [evRes, getT, retV, Tryz.f19,  checkP, h, he, hn]
  · rw [encLN_err he]
    simp (config := { maxSteps := 2000000 }) -implicitDefEqProofs +contextual (disch := first | assumption | omega | decide +kernel) only [push_cast, ↓capI, br2_true, br2_false, frk_tt, frk_tf, frk_f, frkD_tt, frkD_tf, frkD_f, pk2_true, pk2_false, imp_true, seval, Nat.reduceLeDiff, Nat.reduceEqDiff, reduceCtorEq, ↓reduceIte, reduceCtorEq, fmN, fm0, take_N, toN1, slN_nil, encF, encN, slN, cfg0, get_flat_part lenN, get_flat_drop lenN, len_flat lenN, he]
    refine endK.ret ?_ (by first | rfl | simp [bel_LN, fmN, fm0, belF, belN, bel_Ns, bel_slN]); simp [evRes, getT, retV, Tryz.f19,  checkP, h, he]
end Go.Proofs.YtllfdnbnkncnhaaGreatDoor

/- Chapter 44: the digits at the beginning of a text. -/
set_option maxRecDepth 100000
set_option maxHeartbeats 4000000
set_option linter.all false
namespace Go.Proofs.YtllfdnbnkncnhaaGreatDoor
open Go.Vm

def dgT (n : Nat) : List V := tab 256 fun j => .bool (decide (48 ≤ j) && decide (j < 48 + n))
theorem bel_T {m n : Nat} : belAll m (dgT n) = true := belAll_tab fun _ _ => rfl
theorem rn_T {q : Nat → Nat} {n : Nat} : rns q (dgT n) = dgT n := by
  rw [dgT, rns_map, tab_map]
  rfl
theorem pg99 (c : UInt8) : GCall Tryz.prog 110 [.ptr 0 0 0, .int .u8 c.toNat] [.cells 0 (dgT 10)] (.bool (isDig c)) [.cells 0 (dgT 10)] := by
  have hc := c.toNat_lt
  have hd : (decide (48 ≤ c.toNat) && decide (c.toNat < 58)) = isDig c := by
    rw [isDig]
    congr 1
    rw [decide_eq_decide]
    omega
  unfold dgT
  refine GC.walk tok mixed cfg0 Tryz.func110 rfl Tryz.call110 ?_; simp (config := { maxSteps := 2000000 }) -implicitDefEqProofs +contextual (disch := first | assumption | omega | decide +kernel) only [push_cast, ↓capI, br2_true, br2_false, frk_tt, frk_tf, frk_f, frkD_tt, frkD_tf, frkD_f, pk2_true, pk2_false, imp_true, seval, Nat.reduceLeDiff, Nat.reduceEqDiff, reduceCtorEq, ↓reduceIte, reduceCtorEq, cfg0, take_rest, ibeq_dec, V.rn, rns, qn, setPs, rnOs, Ob.rn, List.set_cons_zero, List.size_toArray, setO_tabN, getV_tabP, getV_tab, getV_tabO, tab_length, tab_set, Tryz.ntmps110]
  refine endG.ret ([]) (by first | rfl | simp [bel_T, fzs_ok, getO, setO, fzs, fz, fzH, Nat.beq, tt_3, tt_4, tt_5, tt_9, tt_43, tt_127, tt_130, tt_132, tt_146, tt_57, tt_59, tt_126, tt_137, tt_122, cfg0, take_rest, ibeq_dec, V.rn, rns, qn, setPs, rnOs, Ob.rn, List.set_cons_zero, List.size_toArray, setO_tabN, getV_tabP, getV_tab, getV_tabO, tab_length, tab_set, hd, Nat.mul_one]) (by simp) (by simp [bel_T, fzs_ok, imp, lenOK_iff, List.take_of_length_le, evRes, getT, getO, setO, fzs, fz, fzH, Nat.beq, retV, Res.then, ldT, ldR, mkV, getV, tt_3, tt_4, tt_5, tt_9, tt_43, tt_127, tt_130, tt_132, tt_146, tt_57, tt_59, tt_126, tt_137, tt_122, cfg0, take_rest, ibeq_dec, V.rn, rns, qn, setPs, rnOs, Ob.rn, List.set_cons_zero, List.size_toArray, setO_tabN, getV_tabP, getV_tab, getV_tabO, tab_length, tab_set, Tryz.f110, hd, Nat.mul_one]) (by first | rfl | simp [bel_T, hd, Nat.mul_one]) (by first | rfl | simp [bel_T, hd, Nat.mul_one])
def digs0 : List UInt8 := [48, 49, 50, 51, 52, 53, 54, 55, 56, 57]
def digs (s : List UInt8) : List UInt8 := s.takeWhile isDig
def dropD (s : List UInt8) : List UInt8 := s.dropWhile isDig
theorem dropD_len (s : List UInt8) : (dropD s).length + (digs s).length = s.length := by
  have := congrArg List.length (List.takeWhile_append_dropWhile (p := isDig) (l := s))
  rw [List.length_append] at this
  unfold dropD digs
  omega
theorem take_digs (s : List UInt8) : s.take (s.length - (dropD s).length) = digs s ∧ s.drop (s.length - (dropD s).length) = dropD s := by
  have h := dropD_len s
  have e : s = digs s ++ dropD s := (List.takeWhile_append_dropWhile).symm
  have hk : s.length - (dropD s).length = (digs s).length := by omega
  rw [hk]
  generalize digs s = a at *
  generalize dropD s = b at *
  subst e
  exact ⟨List.take_left, List.drop_left⟩
theorem dropD_nil : dropD [] = [] := rfl
theorem dropD_yes {c : UInt8} {t : List UInt8} (h : isDig c = true) : dropD (c :: t) = dropD t := by rw [dropD, List.dropWhile_cons, if_pos h]; rfl
theorem dropD_no {c : UInt8} {t : List UInt8} (h : isDig c = false) : dropD (c :: t) = c :: t := by rw [dropD, List.dropWhile_cons, if_neg (by rw [h]; simp)]
theorem pg91 (s : List UInt8) : GCall Tryz.prog 99 [.str s, .ptr 0 0 0] [.cells 0 (dgT 10)] (.str (dropD s)) [.cells 0 (dgT 10)] := by
  refine GC.walk tok mixed cfg0 Tryz.func99 rfl Tryz.call99 ?_; simp (config := { maxSteps := 2000000 }) -implicitDefEqProofs +contextual (disch := first | assumption | omega | decide +kernel) only [push_cast, ↓capI, br2_true, br2_false, frk_tt, frk_tf, frk_f, frkD_tt, frkD_tf, frkD_f, pk2_true, pk2_false, imp_true, seval, Nat.reduceLeDiff, Nat.reduceEqDiff, reduceCtorEq, ↓reduceIte, reduceCtorEq, cfg0, take_rest, ibeq_dec, V.rn, rns, qn, setPs, rnOs, Ob.rn, List.set_cons_zero, List.size_toArray, setO_tabN, getV_tabP, getV_tab, getV_tabO, tab_length, tab_set, Tryz.ntmps99]
  refine T.lp tok mixed cfg0 (fun (r : List UInt8) => sv (.str r) (kp 1 (dd 14 (nl)))) (fun H0 (r : List UInt8) => [.cells 0 (dgT 10)]) (fun (r : List UInt8) => dropD r = dropD s) (fun (r : List UInt8) => r.length) (s) ?_ ?_ ?_
  · rfl
  · exact Gn.canon (J := []) (by first | rfl | (simp [List.append_nil]; done) | (simp [List.append_nil]; rfl)) (by simp [wk, putT, kp, dd, sv, nl]) (by simp [List.length_append]) (by simp [bel_T, kp, dd, sv, nl]) (by simp [bel_T])
  intro r hr
  cases r with
  | nil =>
    simp (config := { maxSteps := 2000000 }) -implicitDefEqProofs +contextual (disch := first | assumption | omega | decide +kernel) only [push_cast, ↓capI, br2_true, br2_false, frk_tt, frk_tf, frk_f, frkD_tt, frkD_tf, frkD_f, pk2_true, pk2_false, imp_true, seval, Nat.reduceLeDiff, Nat.reduceEqDiff, reduceCtorEq, ↓reduceIte, reduceCtorEq, cfg0, take_rest, ibeq_dec, V.rn, rns, qn, setPs, rnOs, Ob.rn, List.set_cons_zero, List.size_toArray, setO_tabN, getV_tabP, getV_tab, getV_tabO, tab_length, tab_set]
    rw [← hr]
    refine endG.ret ([]) (by first | rfl | simp [bel_T, fzs_ok, getO, setO, fzs, fz, fzH, Nat.beq, tt_3, tt_4, tt_5, tt_9, tt_43, tt_127, tt_130, tt_132, tt_146, tt_57, tt_59, tt_126, tt_137, tt_122, cfg0, take_rest, ibeq_dec, V.rn, rns, qn, setPs, rnOs, Ob.rn, List.set_cons_zero, List.size_toArray, setO_tabN, getV_tabP, getV_tab, getV_tabO, tab_length, tab_set, dropD_nil]) (by simp) (by simp [bel_T, fzs_ok, imp, lenOK_iff, List.take_of_length_le, evRes, getT, getO, setO, fzs, fz, fzH, Nat.beq, retV, Res.then, ldT, ldR, mkV, getV, tt_3, tt_4, tt_5, tt_9, tt_43, tt_127, tt_130, tt_132, tt_146, tt_57, tt_59, tt_126, tt_137, tt_122, cfg0, take_rest, ibeq_dec, V.rn, rns, qn, setPs, rnOs, Ob.rn, List.set_cons_zero, List.size_toArray, setO_tabN, getV_tabP, getV_tab, getV_tabO, tab_length, tab_set, Tryz.f99, dropD_nil]) (by first | rfl | simp [bel_T, dropD_nil]) (by first | rfl | simp [bel_T, dropD_nil])
  | cons c t =>
    have hlen : (c :: t).length = t.length + 1 := rfl
    simp (config := { maxSteps := 2000000 }) -implicitDefEqProofs +contextual (disch := first | assumption | omega | decide +kernel) only [push_cast, ↓capI, br2_true, br2_false, frk_tt, frk_tf, frk_f, frkD_tt, frkD_tf, frkD_f, pk2_true, pk2_false, imp_true, seval, Nat.reduceLeDiff, Nat.reduceEqDiff, reduceCtorEq, ↓reduceIte, reduceCtorEq, cfg0, take_rest, ibeq_dec, V.rn, rns, qn, setPs, rnOs, Ob.rn, List.set_cons_zero, List.size_toArray, setO_tabN, getV_tabP, getV_tab, getV_tabO, tab_length, tab_set, List.length_cons]
    refine callO.part0 [0] (pg99 c) (by decide) rfl rfl ⟨by simp [rnOs, Ob.rn, rn_T, getO], by simp, trivial⟩ ?_
    cases hd : isDig c
    · simp (config := { maxSteps := 2000000 }) -implicitDefEqProofs +contextual (disch := first | assumption | omega | decide +kernel) only [push_cast, ↓capI, br2_true, br2_false, frk_tt, frk_tf, frk_f, frkD_tt, frkD_tf, frkD_f, pk2_true, pk2_false, imp_true, seval, Nat.reduceLeDiff, Nat.reduceEqDiff, reduceCtorEq, ↓reduceIte, reduceCtorEq, cfg0, take_rest, ibeq_dec, V.rn, rns, qn, setPs, rnOs, Ob.rn, List.set_cons_zero, List.size_toArray, setO_tabN, getV_tabP, getV_tab, getV_tabO, tab_length, tab_set]
      rw [← hr]
      refine endG.ret ([]) (by first | rfl | simp [bel_T, fzs_ok, getO, setO, fzs, fz, fzH, Nat.beq, tt_3, tt_4, tt_5, tt_9, tt_43, tt_127, tt_130, tt_132, tt_146, tt_57, tt_59, tt_126, tt_137, tt_122, cfg0, take_rest, ibeq_dec, V.rn, rns, qn, setPs, rnOs, Ob.rn, List.set_cons_zero, List.size_toArray, setO_tabN, getV_tabP, getV_tab, getV_tabO, tab_length, tab_set, dropD_no hd]) (by simp) (by simp [bel_T, fzs_ok, imp, lenOK_iff, List.take_of_length_le, evRes, getT, getO, setO, fzs, fz, fzH, Nat.beq, retV, Res.then, ldT, ldR, mkV, getV, tt_3, tt_4, tt_5, tt_9, tt_43, tt_127, tt_130, tt_132, tt_146, tt_57, tt_59, tt_126, tt_137, tt_122, cfg0, take_rest, ibeq_dec, V.rn, rns, qn, setPs, rnOs, Ob.rn, List.set_cons_zero, List.size_toArray, setO_tabN, getV_tabP, getV_tab, getV_tabO, tab_length, tab_set, Tryz.f99, dropD_no hd]) (by first | rfl | simp [bel_T, dropD_no hd]) (by first | rfl | simp [bel_T, dropD_no hd])
    · simp (config := { maxSteps := 2000000 }) -implicitDefEqProofs +contextual (disch := first | assumption | omega | decide +kernel) only [push_cast, ↓capI, br2_true, br2_false, frk_tt, frk_tf, frk_f, frkD_tt, frkD_tf, frkD_f, pk2_true, pk2_false, imp_true, seval, Nat.reduceLeDiff, Nat.reduceEqDiff, reduceCtorEq, ↓reduceIte, reduceCtorEq, cfg0, take_rest, ibeq_dec, V.rn, rns, qn, setPs, rnOs, Ob.rn, List.set_cons_zero, List.size_toArray, setO_tabN, getV_tabP, getV_tab, getV_tabO, tab_length, tab_set]
      refine ⟨t, by rw [← hr, dropD_yes hd], by (try simp only); omega, ?_⟩; exact Gn.canon (by first | rfl | (simp [List.append_nil]; rfl)) (by simp [wk]) (by simp [List.length_append]) (by simp [bel_T]) (by simp [bel_T])
theorem hset (i : Nat) : (tab 256 fun j => if j = 48 + i then V.bool true else V.bool (decide (48 ≤ j) && decide (j < 48 + i))) = dgT (i + 1) := by
  refine tab_ext fun j _ => ?_
  split
  · rename_i h
    subst h
    simp
  · congr 2
    rw [decide_eq_decide]
    omega
theorem len_T {n : Nat} : (dgT n).length = 256 := tab_length
theorem ones_T {n : Nat} : ones true (dgT n) True = True := by
  rw [eq_iff_iff, ones_iff]
  refine ⟨fun _ => trivial, fun _ => ⟨fun _ x hx => ?_, trivial⟩⟩
  obtain ⟨i, _, rfl⟩ := tab_mem.1 hx
  rfl
theorem get_T {n : Nat} : getV (dgT n) 0 256 = dgT n := List.take_of_length_le (Nat.le_of_eq len_T)
theorem put_T {n : Nat} {l : List V} (h : l.length = 256) : putV l 0 (dgT n) = dgT n := putV_all _ _ (by rw [h, len_T])
theorem put_T0 {n : Nat} {g : Nat → V} : putV (tab 256 g) 0 (dgT n) = dgT n := put_T tab_length
theorem put1_T {i : Nat} : putV (dgT i) ((48 + i) * 1) [.bool true] = dgT (i + 1) := by rw [Nat.mul_one, dgT, putV_tab, hset]
theorem pc98 : PC Tryz.prog 98 [.str digs0] (.tup [.agg (dgT 10), .bool true]) := by
  have h0 : (tab 256 fun _ => V.bool false) = dgT 0 := by
    refine tab_ext fun j _ => ?_
    congr 1
    have : ¬ (48 ≤ j ∧ j < 48) := by omega
    simp
  refine PC.walk tok mixed cfg0 Tryz.func98 rfl Tryz.call98 (by simp [bel_T]) (by first | rfl | simp [bel_T]) ?_; simp (config := { maxSteps := 2000000 }) -implicitDefEqProofs +contextual (disch := first | assumption | omega | decide +kernel) only [push_cast, ↓capI, br2_true, br2_false, frk_tt, frk_tf, frk_f, frkD_tt, frkD_tf, frkD_f, pk2_true, pk2_false, imp_true, seval, Nat.reduceLeDiff, Nat.reduceEqDiff, reduceCtorEq, ↓reduceIte, reduceCtorEq, cfg0, take_rest, ibeq_dec, V.rn, rns, qn, setPs, rnOs, Ob.rn, List.set_cons_zero, List.size_toArray, setO_tabN, getV_tabP, getV_tab, getV_tabO, tab_length, tab_set, Tryz.ntmps98]
  simp (config := { maxSteps := 2000000 }) -implicitDefEqProofs +contextual (disch := first | assumption | omega | decide +kernel) only [push_cast, ↓capI, br2_true, br2_false, frk_tt, frk_tf, frk_f, frkD_tt, frkD_tf, frkD_f, pk2_true, pk2_false, imp_true, seval, Nat.reduceLeDiff, Nat.reduceEqDiff, reduceCtorEq, ↓reduceIte, reduceCtorEq, cfg0, take_rest, ibeq_dec, V.rn, rns, qn, setPs, rnOs, Ob.rn, List.set_cons_zero, List.size_toArray, setO_tabN, getV_tabP, getV_tab, getV_tabO, tab_length, tab_set, h0]
  refine T.lp tok mixed cfg0 (fun (i : Nat) => kp 1 (dd 1 (kp 1 (sv (.bool false) (sv (.int .i64 i) (dd 16 (nl))))))) (fun H0 (i : Nat) => [.cells 0 (dgT i)]) (fun (i : Nat) => i ≤ 10) (fun (i : Nat) => 10 - i) (0) ?_ ?_ ?_
  · exact Nat.zero_le _
  · exact Gn.canon (J := []) (by first | rfl | (simp [List.append_nil]; done) | (simp [List.append_nil]; rfl)) (by simp [wk, putT, kp, dd, sv, nl]) (by simp [List.length_append]) (by simp [bel_T, kp, dd, sv, nl]) (by simp [bel_T])
  intro i hi
  by_cases h : i < 10
  case neg =>
    have hi10 : i = 10 := by omega
    subst hi10
    simp (config := { maxSteps := 2000000 }) -implicitDefEqProofs +contextual (disch := first | assumption | omega | decide +kernel) only [push_cast, ↓capI, br2_true, br2_false, frk_tt, frk_tf, frk_f, frkD_tt, frkD_tf, frkD_f, pk2_true, pk2_false, imp_true, seval, Nat.reduceLeDiff, Nat.reduceEqDiff, reduceCtorEq, ↓reduceIte, reduceCtorEq, cfg0, take_rest, ibeq_dec, V.rn, rns, qn, setPs, rnOs, Ob.rn, List.set_cons_zero, List.size_toArray, setO_tabN, getV_tabP, getV_tab, getV_tabO, tab_length, tab_set, ones_T, get_T, len_T]
    refine endK.ret ?_ (by first | rfl | simp [bel_T]); simp [evRes, getT, retV, Tryz.f98,  put_T len_T, tt_122, ldT, ldR, mkV, getO, Nat.beq, len_T, get_T, imp, Res.then, ones_T, lenOK_iff]
  have hg : ((digs0.getD i 0).toNat : Int) = (48 : Int) + i := by
    have key : ∀ k : Fin 10, ((digs0.getD k.val 0).toNat : Int) = (48 : Int) + (k.val : Int) := by decide
    exact key ⟨i, h⟩
  have hl : digs0.length = 10 := rfl
  have hk : ((48 : Int) + i).toNat = 48 + i := by omega
  simp (config := { maxSteps := 2000000 }) -implicitDefEqProofs +contextual (disch := first | assumption | omega | decide +kernel) only [push_cast, ↓capI, br2_true, br2_false, frk_tt, frk_tf, frk_f, frkD_tt, frkD_tf, frkD_f, pk2_true, pk2_false, imp_true, seval, Nat.reduceLeDiff, Nat.reduceEqDiff, reduceCtorEq, ↓reduceIte, reduceCtorEq, cfg0, take_rest, ibeq_dec, V.rn, rns, qn, setPs, rnOs, Ob.rn, List.set_cons_zero, List.size_toArray, setO_tabN, getV_tabP, getV_tab, getV_tabO, tab_length, tab_set, hl, hg, hk, len_T, put1_T]
  refine ⟨i + 1, by omega, by (try simp only); omega, ?_⟩; exact Gn.canon (by first | rfl | (simp [List.append_nil]; rfl)) (by simp [wk]) (by simp [List.length_append]) (by simp [bel_T]) (by simp [bel_T])
theorem pc90 (s : List UInt8) : PC Tryz.prog 90 [.str s, .str digs0] (.str (dropD s)) := by
  have hne : (digs0 = []) = False := by decide
  have hl : digs0.length = 10 := rfl
  by_cases h : s = []
  · refine PC.walk tok mixed cfg0 Tryz.func90 rfl Tryz.call90 (by simp [bel_T]) (by first | rfl | simp [bel_T]) ?_; simp (config := { maxSteps := 2000000 }) -implicitDefEqProofs +contextual (disch := first | assumption | omega | decide +kernel) only [push_cast, ↓capI, br2_true, br2_false, frk_tt, frk_tf, frk_f, frkD_tt, frkD_tf, frkD_f, pk2_true, pk2_false, imp_true, seval, Nat.reduceLeDiff, Nat.reduceEqDiff, reduceCtorEq, ↓reduceIte, reduceCtorEq, cfg0, take_rest, ibeq_dec, V.rn, rns, qn, setPs, rnOs, Ob.rn, List.set_cons_zero, List.size_toArray, setO_tabN, getV_tabP, getV_tab, getV_tabO, tab_length, tab_set, Tryz.ntmps90]
    simp (config := { maxSteps := 2000000 }) -implicitDefEqProofs +contextual (disch := first | assumption | omega | decide +kernel) only [push_cast, ↓capI, br2_true, br2_false, frk_tt, frk_tf, frk_f, frkD_tt, frkD_tf, frkD_f, pk2_true, pk2_false, imp_true, seval, Nat.reduceLeDiff, Nat.reduceEqDiff, reduceCtorEq, ↓reduceIte, reduceCtorEq, cfg0, take_rest, ibeq_dec, V.rn, rns, qn, setPs, rnOs, Ob.rn, List.set_cons_zero, List.size_toArray, setO_tabN, getV_tabP, getV_tab, getV_tabO, tab_length, tab_set, h, hne]
    refine endK.ret ?_ (by first | rfl | simp [bel_T]); simp [evRes, getT, retV, Tryz.f90,  dropD_nil, h]
  refine PC.walk tok mixed cfg0 Tryz.func90 rfl Tryz.call90 (by simp [bel_T]) (by first | rfl | simp [bel_T]) ?_; simp (config := { maxSteps := 2000000 }) -implicitDefEqProofs +contextual (disch := first | assumption | omega | decide +kernel) only [push_cast, ↓capI, br2_true, br2_false, frk_tt, frk_tf, frk_f, frkD_tt, frkD_tf, frkD_f, pk2_true, pk2_false, imp_true, seval, Nat.reduceLeDiff, Nat.reduceEqDiff, reduceCtorEq, ↓reduceIte, reduceCtorEq, cfg0, take_rest, ibeq_dec, V.rn, rns, qn, setPs, rnOs, Ob.rn, List.set_cons_zero, List.size_toArray, setO_tabN, getV_tabP, getV_tab, getV_tabO, tab_length, tab_set, Tryz.ntmps90]
  simp (config := { maxSteps := 2000000 }) -implicitDefEqProofs +contextual (disch := first | assumption | omega | decide +kernel) only [push_cast, ↓capI, br2_true, br2_false, frk_tt, frk_tf, frk_f, frkD_tt, frkD_tf, frkD_f, pk2_true, pk2_false, imp_true, seval, Nat.reduceLeDiff, Nat.reduceEqDiff, reduceCtorEq, ↓reduceIte, reduceCtorEq, cfg0, take_rest, ibeq_dec, V.rn, rns, qn, setPs, rnOs, Ob.rn, List.set_cons_zero, List.size_toArray, setO_tabN, getV_tabP, getV_tab, getV_tabO, tab_length, tab_set, h, hne, hl]
  refine callO.pc pc98 ?_
  simp (config := { maxSteps := 2000000 }) -implicitDefEqProofs +contextual (disch := first | assumption | omega | decide +kernel) only [push_cast, ↓capI, br2_true, br2_false, frk_tt, frk_tf, frk_f, frkD_tt, frkD_tf, frkD_f, pk2_true, pk2_false, imp_true, seval, Nat.reduceLeDiff, Nat.reduceEqDiff, reduceCtorEq, ↓reduceIte, reduceCtorEq, cfg0, take_rest, ibeq_dec, V.rn, rns, qn, setPs, rnOs, Ob.rn, List.set_cons_zero, List.size_toArray, setO_tabN, getV_tabP, getV_tab, getV_tabO, tab_length, tab_set, len_T, ones_T, put_T0]
  refine callO.part0 [0] (pg91 s) (by decide) rfl rfl ⟨by simp [rnOs, Ob.rn, rn_T, getO], by simp, trivial⟩ ?_
  simp (config := { maxSteps := 2000000 }) -implicitDefEqProofs +contextual (disch := first | assumption | omega | decide +kernel) only [push_cast, ↓capI, br2_true, br2_false, frk_tt, frk_tf, frk_f, frkD_tt, frkD_tf, frkD_f, pk2_true, pk2_false, imp_true, seval, Nat.reduceLeDiff, Nat.reduceEqDiff, reduceCtorEq, ↓reduceIte, reduceCtorEq, cfg0, take_rest, ibeq_dec, V.rn, rns, qn, setPs, rnOs, Ob.rn, List.set_cons_zero, List.size_toArray, setO_tabN, getV_tabP, getV_tab, getV_tabO, tab_length, tab_set]
  refine endK.ret ?_ (by first | rfl | simp [bel_T]); simp [evRes, getT, retV, Tryz.f90]
end Go.Proofs.YtllfdnbnkncnhaaGreatDoor


/-
  Chapter 44: the scanners' small steps.
-/
import Derived.Test.YtlbmbbaefncleaaGreatDoorBase
import Derived.Test.YtlbmbbaefncleaaGreatDoorVm7
set_option maxRecDepth 100000
set_option maxHeartbeats 4000000
set_option linter.all false
namespace Go.Proofs.YtlbmbbaefncleaaGreatDoor.Pd
open Go.Vm
theorem take_rest {α : Type} {l : List α} {i : Nat} : (l.drop i).take (l.length - i) = l.drop i := List.take_of_length_le (by rw [List.length_drop]; exact Nat.le_refl _)
theorem ibeq_dec {a b : Int} : (a == b) = decide (a = b) := by rw [Bool.eq_iff_iff, beq_iff_eq, decide_eq_true_eq]
def begins (s p : List UInt8) : Bool := decide (p.length ≤ s.length) && (s.take p.length == p)
def cutP (s p : List UInt8) : List UInt8 × Bool := if begins s p = true then (s.drop p.length, true) else (s, false)
def encSB (r : List UInt8 × Bool) : V := .tup [.str r.1, .bool r.2]
theorem begins_le {s p : List UInt8} (h : begins s p = true) : p.length ≤ s.length := by
 simp only [begins, Bool.and_eq_true, decide_eq_true_eq] at h; exact h.1
attribute [local push_cast] cfg0 take_rest ibeq_dec
theorem pc190 (s p : List UInt8) : PC Tryz.prog 190 [.str s, .str p] (.bool (begins s p)) := by
 refine PC.walk tok mixed cfg0 Tryz.func190 rfl Tryz.call190 (by simp) (by first | rfl | simp) ?_; refine vms1 Tryz.ntmps190 ?_
 refine ⟨fun h => ?_, fun h => ?_⟩
 ·refine endK.retA ?_; simp [evRes, getT, retV, Tryz.f190,  begins, h]
 ·refine endK.retA ?_; simp [evRes, getT, retV, Tryz.f190,  begins, h]
theorem pc163 (s p : List UInt8) : PC Tryz.prog 163 [.str s, .str p] (.bool (begins s p)) := by
 refine PC.walk tok mixed cfg0 Tryz.func163 rfl Tryz.call163 (by simp) (by first | rfl | simp) ?_; refine vms1 Tryz.ntmps163 ?_
 refine callO.pc (pc190 s p) ?_
 refine vms0 ?_
 refine endK.retA ?_; simp [evRes, getT, retV, Tryz.f163]
theorem pc214 (s p : List UInt8) : PC Tryz.prog 214 [.str s, .str p] (encSB (cutP s p)) := by
 refine PC.walk tok mixed cfg0 Tryz.func214 rfl Tryz.call214 (by simp) (by first | rfl | simp) ?_; refine vms1 Tryz.ntmps214 ?_
 refine callO.pc (pc190 s p) ?_
 cases h : begins s p
 ·refine vms0 ?_
  refine endK.retA ?_; simp [evRes, getT, retV, Tryz.f214,  encSB, cutP, h]
 ·have hl := begins_le h
  refine vms0 ?_
  refine endK.retA ?_; simp [evRes, getT, retV, Tryz.f214,  encSB, cutP, h]
theorem pc192 (s p : List UInt8) : PC Tryz.prog 192 [.str s, .str p] (encSB (cutP s p)) := by
 refine PC.walk tok mixed cfg0 Tryz.func192 rfl Tryz.call192 (by simp) (by first | rfl | simp) ?_; refine vms1 Tryz.ntmps192 ?_
 refine callO.pc (pc214 s p) ?_
 simp (maxSteps := 2000000) -implicitDefEqProofs +contextual (disch := first | assumption | omega | decide +kernel) only [push_cast, ↓capI, seval, Nat.reduceLeDiff, Nat.reduceEqDiff, reduceCtorEq, ↓reduceIte, encSB]
 refine endK.retA ?_; simp [evRes, getT, retV, Tryz.f192,  encSB]
theorem pc165 (s : List UInt8) (i : Int) (r : List V) (hr : belAll 1 r = true) : GCall Tryz.prog 165 [.ptr 0 0 0] [.cells 0 (.str s :: .int .i64 i :: r)] (.bool (decide (i = s.length))) [.cells 0 (.str s :: .int .i64 i :: r)] := by
 refine GC.walk tok mixed cfg0 Tryz.func165 rfl Tryz.call165 ?_; refine vms1 Tryz.ntmps165 ?_
 refine endG.ret ([]) (by first | rfl | simp [fzs_ok, getO, setO, fzs, fz, fzH, Nat.beq, tt_3, tt_4, tt_5, tt_9, tt_128, tt_200, tt_203, tt_205, tt_231, tt_131, tt_133, tt_327, tt_251, cfg0, take_rest, ibeq_dec, hr]) (by simp) (by simp [fzs_ok, imp, lenOK_iff, List.take_of_length_le, evRes, getT, getO, setO, fzs, fz, fzH, Nat.beq, retV, Res.then, ldT, ldR, mkV, getV, tt_3, tt_4, tt_5, tt_9, tt_128, tt_200, tt_203, tt_205, tt_231, tt_131, tt_133, tt_327, tt_251, cfg0, take_rest, ibeq_dec, Tryz.f165, hr]) (by first | rfl | simp [hr]) (by first | rfl | simp [hr])
theorem pc166 (s p : List UInt8) : GCall Tryz.prog 166 [.ptr 0 0 0, .str p] [.cells 0 [.str s]] (.bool (begins s p)) [.cells 0 [.str (cutP s p).1]] := by
 refine GC.walk tok mixed cfg0 Tryz.func166 rfl Tryz.call166 ?_; refine vms1 Tryz.ntmps166 ?_
 refine callO.pc (pc192 s p) ?_
 cases h : begins s p
 ·have e : cutP s p = (s, false) := by simp [cutP, h]
  rw [e]
  simp (maxSteps := 2000000) -implicitDefEqProofs +contextual (disch := first | assumption | omega | decide +kernel) only [push_cast, ↓capI, seval, Nat.reduceLeDiff, Nat.reduceEqDiff, reduceCtorEq, ↓reduceIte, encSB]
  refine endG.ret ([]) (by first | rfl | simp [fzs_ok, getO, setO, fzs, fz, fzH, Nat.beq, tt_3, tt_4, tt_5, tt_9, tt_128, tt_200, tt_203, tt_205, tt_231, tt_131, tt_133, tt_327, tt_251, cfg0, take_rest, ibeq_dec]) (by simp) (by simp [fzs_ok, imp, lenOK_iff, List.take_of_length_le, evRes, getT, getO, setO, fzs, fz, fzH, Nat.beq, retV, Res.then, ldT, ldR, mkV, getV, tt_3, tt_4, tt_5, tt_9, tt_128, tt_200, tt_203, tt_205, tt_231, tt_131, tt_133, tt_327, tt_251, cfg0, take_rest, ibeq_dec, Tryz.f166]) (by first | rfl | simp) (by first | rfl | simp)
 ·have e : cutP s p = (s.drop p.length, true) := by simp [cutP, h]
  rw [e]
  simp (maxSteps := 2000000) -implicitDefEqProofs +contextual (disch := first | assumption | omega | decide +kernel) only [push_cast, ↓capI, seval, Nat.reduceLeDiff, Nat.reduceEqDiff, reduceCtorEq, ↓reduceIte, encSB]
  refine endG.ret ([]) (by first | rfl | simp [fzs_ok, getO, setO, fzs, fz, fzH, Nat.beq, tt_3, tt_4, tt_5, tt_9, tt_128, tt_200, tt_203, tt_205, tt_231, tt_131, tt_133, tt_327, tt_251, cfg0, take_rest, ibeq_dec]) (by simp) (by simp [fzs_ok, imp, lenOK_iff, List.take_of_length_le, evRes, getT, getO, setO, fzs, fz, fzH, Nat.beq, retV, Res.then, ldT, ldR, mkV, getV, tt_3, tt_4, tt_5, tt_9, tt_128, tt_200, tt_203, tt_205, tt_231, tt_131, tt_133, tt_327, tt_251, cfg0, take_rest, ibeq_dec, Tryz.f166]) (by first | rfl | simp) (by first | rfl | simp)
theorem pc128 (s p : List UInt8) (i : Nat) (r : List V) (hr : belAll 1 r = true) (hi : i ≤ s.length) (hs : s.length ≤ 4000000000) (hp : p.length ≤ 4000000000) : GCall Tryz.prog 128 [.ptr 0 0 0, .str p] [.cells 0 (.str s :: .int .i64 i :: r)] (.bool (begins (s.drop i) p))
  [.cells 0 (.str s :: .int .i64 (if begins (s.drop i) p = true then (i : Int) + p.length else i) :: r)] := by
 refine GC.walk tok mixed cfg0 Tryz.func128 rfl Tryz.call128 ?_; refine vms1 Tryz.ntmps128 ?_
 refine callG.pc1 (pc163 (s.drop i) p) ?_
 cases h : begins (s.drop i) p
 ·refine vms0 ?_
  refine endG.ret ([]) (by first | rfl | simp [fzs_ok, getO, setO, fzs, fz, fzH, Nat.beq, tt_3, tt_4, tt_5, tt_9, tt_128, tt_200, tt_203, tt_205, tt_231, tt_131, tt_133, tt_327, tt_251, cfg0, take_rest, ibeq_dec, hr]) (by simp) (by simp [fzs_ok, imp, lenOK_iff, List.take_of_length_le, evRes, getT, getO, setO, fzs, fz, fzH, Nat.beq, retV, Res.then, ldT, ldR, mkV, getV, tt_3, tt_4, tt_5, tt_9, tt_128, tt_200, tt_203, tt_205, tt_231, tt_131, tt_133, tt_327, tt_251, cfg0, take_rest, ibeq_dec, Tryz.f128, hr]) (by first | rfl | simp [hr]) (by first | rfl | simp [hr])
 ·refine vms0 ?_
  refine endG.ret ([]) (by first | rfl | simp [fzs_ok, getO, setO, fzs, fz, fzH, Nat.beq, tt_3, tt_4, tt_5, tt_9, tt_128, tt_200, tt_203, tt_205, tt_231, tt_131, tt_133, tt_327, tt_251, cfg0, take_rest, ibeq_dec, hr]) (by simp) (by simp [fzs_ok, imp, lenOK_iff, List.take_of_length_le, evRes, getT, getO, setO, fzs, fz, fzH, Nat.beq, retV, Res.then, ldT, ldR, mkV, getV, tt_3, tt_4, tt_5, tt_9, tt_128, tt_200, tt_203, tt_205, tt_231, tt_131, tt_133, tt_327, tt_251, cfg0, take_rest, ibeq_dec, Tryz.f128, hr]) (by first | rfl | simp [hr]) (by first | rfl | simp [hr])
end Go.Proofs.YtlbmbbaefncleaaGreatDoor.Pd

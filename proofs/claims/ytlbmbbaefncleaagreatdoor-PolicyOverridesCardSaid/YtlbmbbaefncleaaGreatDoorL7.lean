/-
  Chapter 45: the law of Override.
-/
import Derived.Test.YtlbmbbaefncleaaGreatDoorOvr
import Derived.Test.YtlbmbbaefncleaaGreatDoorSel
import Derived.Test.YtlbmbbaefncleaaGreatDoorEql
import Derived.Test.YtlbmbbaefncleaaGreatDoorAwf
import Derived.Test.YtlbmbbaefncleaaGreatDoorLaw
set_option maxRecDepth 100000
set_option maxHeartbeats 4000000
set_option linter.all false
namespace Go.Proofs.YtlbmbbaefncleaaGreatDoor
open Go.Vm
theorem sel_len {h : Int} {f : Pd.Fl} : ∀ {l : List Ru}, (selR h f l).2 = true → (selR h f l).1 < l.length
 | [], hh => by simp [selR] at hh
 | r :: l, hh => by
  rw [selR] at hh ⊢
  split
  ·simp
  ·rename_i h1
   rw [if_neg h1] at hh
   split at hh
   ·rename_i h2
    rw [if_pos h2]
    have := sel_len h2
    simp; omega
   ·cases hh
theorem sel_zero {h : Int} {f : Pd.Fl} : ∀ {l : List Ru}, (selR h f l).2 = false → selR h f l = (0, false)
 | [], _ => rfl
 | r :: l, hh => by
  rw [selR] at hh ⊢
  split at hh
  ·cases hh
  ·rename_i h1
   rw [if_neg h1]
   split at hh
   ·cases hh
   ·rename_i h2
    rw [if_neg h2]
theorem sel_left {h : Int} {f : Pd.Fl} {b : List Ru} : ∀ {a : List Ru}, (selR h f a).2 = true → selR h f (a ++ b) = selR h f a
 | [], hh => by simp [selR] at hh
 | r :: a, hh => by
  rw [selR] at hh
  rw [List.cons_append, selR, selR]
  split
  ·rfl
  ·rename_i h1
   rw [if_neg h1] at hh
   split at hh
   ·rename_i h2
    rw [sel_left h2]
   ·cases hh
theorem sel_right {h : Int} {f : Pd.Fl} {b : List Ru} : ∀ {a : List Ru}, (selR h f a).2 = false → selR h f (a ++ b) = if (selR h f b).2 = true then (a.length + (selR h f b).1, true) else (0, false)
 | [], hh => by
  simp only [List.nil_append, List.length_nil, Nat.zero_add]
  split
  ·rename_i h1
   rw [← h1]
  ·rename_i h1
   exact (sel_zero (by simpa using h1))
 | r :: a, hh => by
  rw [selR] at hh
  split at hh
  ·cases hh
  ·rename_i h1
   split at hh
   ·cases hh
   ·rename_i h2
    have := sel_right (a := a) (b := b) (by simpa using h2)
    rw [List.cons_append, selR, if_neg h1, this]
    split
    ·rw [if_pos rfl, List.length_cons]
     congr 1
     omega
    ·rfl
attribute [local push_cast] slR cfg0 lfl_lenR Nat.mul_one Pd.encF
theorem ov7 (a b : List Ru) (h : Int) (f : Pd.Fl) : PC Tryz.prog 7 [slR a, slR b, agX h f] (.bool true) := by
 rw [agX]
 refine PC.walk tok mixed cfg0 Tryz.func7 rfl Tryz.call7 (by simp [Pd.bel_slN, Px.bel_slN, Pd.bel_Ns, Px.bel_Ns, belAll_append, Pd.belF]) (by first | rfl | simp [Pd.bel_slN, Px.bel_slN, Pd.bel_Ns, Px.bel_Ns, belAll_append, Pd.belF]) ?_; refine vms1 Tryz.ntmps7 ?_
 refine callO.pc (pc9 a) ?_
 cases hsa : smallR a
 ·refine vms1 hsa ?_
  refine callO.pc pc10 ?_
  refine vms1 hsa ?_
  refine endK.ret ?_ (by first | rfl | simp [Pd.bel_slN, Px.bel_slN, Pd.bel_Ns, Px.bel_Ns, belAll_append, Pd.belF]); simp [evRes, getT, retV, Tryz.f7]
 refine vms1 hsa ?_
 refine callO.pc (pc9 b) ?_
 cases hsb : smallR b
 ·refine vms1 hsb ?_
  refine callO.pc pc10 ?_
  refine vms1 hsb ?_
  refine endK.ret ?_ (by first | rfl | simp [Pd.bel_slN, Px.bel_slN, Pd.bel_Ns, Px.bel_Ns, belAll_append, Pd.belF]); simp [evRes, getT, retV, Tryz.f7]
 obtain ⟨ha1, ha2⟩ := small_iff.1 hsa
 obtain ⟨hb1, hb2⟩ := small_iff.1 hsb
 have hab : ∀ r ∈ a ++ b, r.p.length ≤ 60 ∧ r.q.length ≤ 60 := fun r hr => (List.mem_append.1 hr).elim (ha2 r) (hb2 r)
 have hlen : (a ++ b).length ≤ 120 := by rw [List.length_append]; omega
 have h24 := pc24 a b (by omega) (by omega) fun r hr => ⟨by have := (hab r hr).1; omega, by have := (hab r hr).2; omega⟩
 have h25 := pc25 a b (by omega) (by omega)
 have eL := fun hh => sel_left (h := h) (f := f) (a := a) (b := b) hh
 have eR := fun hh => sel_right (h := h) (f := f) (a := a) (b := b) hh
 generalize a ++ b = c at h24 h25 hab hlen eL eR
 refine vms1 hsb ?_
 refine callO.pc h24 ?_
 refine vms0 ?_
 refine callO.pc (pc19 c h f (by omega) fun r hr => by have := (hab r hr).1; omega) ?_
 refine vms0 ?_
 refine callO.pc (pc19 a h f (by omega) fun r hr => by have := (ha2 r hr).1; omega) ?_
 refine vms0 ?_
 refine callO.pc (pc19 b h f (by omega) fun r hr => by have := (hb2 r hr).1; omega) ?_
 refine vms0 ?_
 refine callO.pc h25 ?_
 refine vms0 ?_
 refine callO.pc (pc15 c (by omega) fun r hr => ⟨by have := (hab r hr).1; omega, by have := (hab r hr).2; omega⟩) ?_
 cases h1 : (selR h f a).2
 ·have e := eR h1
  cases h2 : (selR h f b).2
  ·rw [if_neg (by rw [h2]; decide)] at e
   simp (maxSteps := 2000000) -implicitDefEqProofs +contextual (disch := first | assumption | omega | decide +kernel) only [push_cast, ↓capI, seval, Nat.reduceLeDiff, Nat.reduceEqDiff, reduceCtorEq, ↓reduceIte, e, h1, h2]
   refine callO.pc pc10 ?_
   simp (maxSteps := 2000000) -implicitDefEqProofs +contextual (disch := first | assumption | omega | decide +kernel) only [push_cast, ↓capI, seval, Nat.reduceLeDiff, Nat.reduceEqDiff, reduceCtorEq, ↓reduceIte, e, h1, h2]
   refine endK.ret ?_ (by first | rfl | simp [Pd.bel_slN, Px.bel_slN, Pd.bel_Ns, Px.bel_Ns, belAll_append, Pd.belF]); simp [evRes, getT, retV, Tryz.f7]
  ·rw [if_pos h2] at e
   have h3 := sel_len h2
   simp (maxSteps := 2000000) -implicitDefEqProofs +contextual (disch := first | assumption | omega | decide +kernel) only [push_cast, ↓capI, seval, Nat.reduceLeDiff, Nat.reduceEqDiff, reduceCtorEq, ↓reduceIte, e, h1, h2]
   refine callO.pc pc10 ?_
   simp (maxSteps := 2000000) -implicitDefEqProofs +contextual (disch := first | assumption | omega | decide +kernel) only [push_cast, ↓capI, seval, Nat.reduceLeDiff, Nat.reduceEqDiff, reduceCtorEq, ↓reduceIte, e, h1, h2]
   refine endK.ret ?_ (by first | rfl | simp [Pd.bel_slN, Px.bel_slN, Pd.bel_Ns, Px.bel_Ns, belAll_append, Pd.belF]); simp [evRes, getT, retV, Tryz.f7]
 ·have e := eL h1
  simp (maxSteps := 2000000) -implicitDefEqProofs +contextual (disch := first | assumption | omega | decide +kernel) only [push_cast, ↓capI, seval, Nat.reduceLeDiff, Nat.reduceEqDiff, reduceCtorEq, ↓reduceIte, e, h1]
  refine callO.pc pc10 ?_
  simp (maxSteps := 2000000) -implicitDefEqProofs +contextual (disch := first | assumption | omega | decide +kernel) only [push_cast, ↓capI, seval, Nat.reduceLeDiff, Nat.reduceEqDiff, reduceCtorEq, ↓reduceIte, e, h1]
  refine endK.ret ?_ (by first | rfl | simp [Pd.bel_slN, Px.bel_slN, Pd.bel_Ns, Px.bel_Ns, belAll_append, Pd.belF]); simp [evRes, getT, retV, Tryz.f7]
theorem law7 (xs : List V) (h : TypA tt 8 [22, 22, 44] xs) : PC Tryz.prog 7 xs (.bool true) := by
 obtain ⟨v1, vs, c1, rfl, rfl, h1, h⟩ := typA_cons h
 obtain ⟨v2, vs, c2, rfl, rfl, h2, h⟩ := typA_cons h
 obtain ⟨v3, vs, c3, rfl, rfl, h3, h⟩ := typA_cons h
 obtain rfl := typA_nil h
 obtain ⟨a, ha⟩ := typ_slR h1
 obtain ⟨b, hb⟩ := typ_slR h2
 obtain ⟨x, f, hx⟩ := typ_X h3
 refine PC.lax ?_
 rw [laxs, laxs, laxs, laxs, ha, hb, hx]
 exact ov7 a b x f
end Go.Proofs.YtlbmbbaefncleaaGreatDoor

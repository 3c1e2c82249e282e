/-
  Chapter 40: the document's Check.
-/
import Derived.Test.YtlbmbbaefncleaaGreatDoorTopCheck
set_option maxRecDepth 100000
set_option linter.all false
namespace Go.Proofs.YtlbmbbaefncleaaGreatDoor.Top
open Go.Vm
attribute [local push_cast] encT encP encL slI slP slL cfg0 gfp_lenP gfp_lenL gfd_lenL lfl_lenP lfl_lenL eqP getI_nat
theorem pc57 (t : Tp) (hf : t.fit) : PC Tryz.prog 57 [.agg (encT t)] (.int .i64 (chk t)) := by
  refine PC.walk tok mixed cfg0 Tryz.func57 rfl Tryz.call57 (by simp [belAll, V.bel, belT, belP]) rfl ?_
  have hfp := hf.ports
  have hfl := hf.links
  have hfh := hf.hosts
  refine vms1 Tryz.ntmps57 ?_
  repeat' (first | intro _ | refine And.intro ?_ ?_)
  all_goals try (refine endK.ret ?_ rfl; simp only [evRes, getT, retV, Tryz.f57, chk, *, ↓reduceIte]; done)
  have hc : chk t = chk1 t := by simp only [chk, *, ↓reduceIte]
  rw [hc]
  refine T.rounds tok mixed cfg0 (fun j : Nat => ⟨(.dead :: .ptr 0 0 0 :: .int .i64 0 :: .int .i64 j :: .dead :: .dead :: .dead :: .dead :: .dead :: .dead :: .dead :: .dead :: .dead :: .dead :: .dead :: .dead :: .dead :: .dead :: .dead :: .dead :: .dead :: .dead :: .dead :: .dead :: .dead :: .dead :: .dead :: .dead :: .dead :: .dead :: .dead :: .dead :: .dead :: .dead :: .dead :: .dead :: .dead :: .dead :: .dead :: .dead :: .dead :: .dead :: .dead :: .dead :: .dead :: .dead :: .dead :: .dead :: .dead :: .dead :: .dead :: .dead :: .dead :: .dead :: .dead :: .dead :: .dead :: .dead :: .dead :: .dead :: .dead :: .dead :: .dead :: .dead :: .dead :: .dead :: .dead :: .dead :: .dead :: .dead :: .dead :: .dead :: .dead :: .dead :: .dead :: .dead :: .dead :: .dead :: .dead :: .dead :: .dead :: .dead :: .dead :: .dead :: .dead :: .dead :: .dead :: .dead :: .dead :: .dead :: .dead :: .dead :: .dead :: .dead :: .dead :: .dead :: .dead :: .dead :: .dead :: .dead :: .dead :: .dead :: .dead :: .dead :: .dead :: .dead :: .dead :: .dead :: .dead :: []), [.cells 0 (encT t)]⟩)
    (fun j => (t.ports.drop j).any badN = t.ports.any badN) (fun j => t.ports.length - j) 0 ?_ rfl ?_
  · exact Gn.canonA (J := []) rfl (by simp [wk, slI])
  intro j hj
  refine vms0 ?_
  refine ⟨fun hlt => ?_, fun hge => ?_⟩
  · have hx := any_cons hlt hj
    repeat' (first | intro _ | refine And.intro ?_ ?_)
    all_goals first
      | (refine endK.ret ?_ rfl
         have := hx.1 (by simp [badN, *])
         simp [evRes, getT, retV, Tryz.f57, chk1, this]
         done)
      | (refine ⟨j + 1, hx.2 (by simp [badN, *]), by simp only; omega, ?_⟩
         refine Gn.canonA (J := []) rfl ?_
         skip
         simp [wk, slI])
  have h1 := any_end hge hj
  clear hge hj
  refine callO.pc (pc93 t hf) ?_
  refine vms0 ?_
  refine T.rounds tok mixed cfg0 (fun j : Nat => ⟨(.dead :: .ptr 0 0 0 :: .int .i64 0 :: .dead :: slP (ends t) :: .int .i64 j :: .dead :: .dead :: .dead :: .dead :: .dead :: .dead :: .dead :: .dead :: .dead :: .dead :: .dead :: .dead :: .dead :: .dead :: .dead :: .dead :: .dead :: .dead :: .dead :: .dead :: .dead :: .dead :: .dead :: .dead :: .dead :: .dead :: .dead :: .dead :: .dead :: .dead :: .dead :: .dead :: .dead :: .dead :: .dead :: .dead :: .dead :: .dead :: .dead :: .dead :: .dead :: .dead :: .dead :: .dead :: .dead :: .dead :: .dead :: .dead :: .dead :: .dead :: .dead :: .dead :: .dead :: .dead :: .dead :: .dead :: .dead :: .dead :: .dead :: .dead :: .dead :: .dead :: .dead :: .dead :: .dead :: .dead :: .dead :: .dead :: .dead :: .dead :: .dead :: .dead :: .dead :: .dead :: .dead :: .dead :: .dead :: .dead :: .dead :: .dead :: .dead :: .dead :: .dead :: .dead :: .dead :: .dead :: .dead :: .dead :: .dead :: .dead :: .dead :: .dead :: .dead :: .dead :: .dead :: .dead :: .dead :: .dead :: .dead :: .dead :: .dead :: .dead :: .dead :: []), [.cells 0 (encT t)]⟩)
    (fun j => ((ends t).drop j).any (fun a => !has t a) = (ends t).any (fun a => !has t a)) (fun j => (ends t).length - j) 0 ?_ rfl ?_
  · exact Gn.canonA (J := []) rfl (by simp [wk, slP])
  have hle : (ends t).length ≤ 20000000000 := by simp only [ends, List.length_append, endsOf_length]; omega
  intro j hj
  refine vms0 ?_
  refine ⟨fun hlt => ?_, fun hge => ?_⟩
  · have hx := any_cons hlt hj
    skip
    refine callG.pc1 (pc94 t (ends t)[j]) ?_
    refine vms0 ?_
    refine ⟨fun hh => ?_, fun hh => ?_⟩
    · refine endK.ret ?_ rfl
      have := hx.1 (by simp [hh])
      simp [evRes, getT, retV, Tryz.f57, chk1, h1, this]
    · refine ⟨j + 1, hx.2 (by simp [hh]), by simp only; omega, ?_⟩
      refine Gn.canonA (J := []) rfl ?_
      skip
      simp [wk, slP]
  have h2 := any_end hge hj
  clear hge hj
  refine T.rounds tok mixed cfg0 (fun i : Nat => ⟨(.dead :: .ptr 0 0 0 :: .int .i64 0 :: .dead :: slP (ends t) :: .dead :: .int .i64 i :: .dead :: .dead :: .dead :: .dead :: .dead :: .dead :: .dead :: .dead :: .dead :: .dead :: .dead :: .dead :: .dead :: .dead :: .dead :: .dead :: .dead :: .dead :: .dead :: .dead :: .dead :: .dead :: .dead :: .dead :: .dead :: .dead :: .dead :: .dead :: .dead :: .dead :: .dead :: .dead :: .dead :: .dead :: .dead :: .dead :: .dead :: .dead :: .dead :: .dead :: .dead :: .dead :: .dead :: .dead :: .dead :: .dead :: .dead :: .dead :: .dead :: .dead :: .dead :: .dead :: .dead :: .dead :: .dead :: .dead :: .dead :: .dead :: .dead :: .dead :: .dead :: .dead :: .dead :: .dead :: .dead :: .dead :: .dead :: .dead :: .dead :: .dead :: .dead :: .dead :: .dead :: .dead :: .dead :: .dead :: .dead :: .dead :: .dead :: .dead :: .dead :: .dead :: .dead :: .dead :: .dead :: .dead :: .dead :: .dead :: .dead :: .dead :: .dead :: .dead :: .dead :: .dead :: .dead :: .dead :: .dead :: .dead :: .dead :: .dead :: .dead :: .dead :: []), [.cells 0 (encT t)]⟩)
    (fun i => dup ((ends t).take i) ((ends t).drop i) = dup [] (ends t)) (fun i => (ends t).length - i) 0 ?_ rfl ?_
  · exact Gn.canonA (J := []) rfl (by simp [wk, slP])
  intro i hi
  refine vms0 ?_
  refine ⟨fun hlt => ?_, fun hge => ?_⟩
  · rw [drop_cons hlt, dup] at hi
    obtain ⟨pre, hpre⟩ : ∃ pre, pre = (ends t).take i := ⟨_, rfl⟩
    have hpl : pre.length = i := by rw [hpre, List.length_take]; omega
    rw [← hpre] at hi
    refine T.rounds tok mixed cfg0 (fun k : Nat => ⟨(.dead :: .ptr 0 0 0 :: .int .i64 0 :: .dead :: slP (ends t) :: .dead :: .int .i64 i :: .int .i64 k :: .dead :: .dead :: .dead :: .dead :: .dead :: .dead :: .dead :: .dead :: .dead :: .dead :: .dead :: .dead :: .dead :: .dead :: .dead :: .dead :: .dead :: .dead :: .dead :: .dead :: .dead :: .dead :: .dead :: .dead :: .dead :: .dead :: .dead :: .dead :: .dead :: .dead :: .dead :: .dead :: .dead :: .dead :: .dead :: .dead :: .dead :: .dead :: .dead :: .dead :: .dead :: .dead :: .dead :: .dead :: .dead :: .dead :: .dead :: .dead :: .dead :: .dead :: .dead :: .dead :: .dead :: .dead :: .dead :: .dead :: .dead :: .dead :: .dead :: .dead :: .dead :: .dead :: .dead :: .dead :: .dead :: .dead :: .dead :: .dead :: .dead :: .dead :: .dead :: .dead :: .dead :: .dead :: .dead :: .dead :: .dead :: .dead :: .dead :: .dead :: .dead :: .dead :: .dead :: .dead :: .dead :: .dead :: .dead :: .dead :: .dead :: .dead :: .dead :: .dead :: .dead :: .dead :: .dead :: .dead :: .dead :: .dead :: .dead :: .dead :: .dead :: []), [.cells 0 (encT t)]⟩)
      (fun k => k ≤ i ∧ (pre.drop k).any (fun b => decide ((ends t)[i] = b)) = pre.any (fun b => decide ((ends t)[i] = b))) (fun k => i - k) 0 ?_ ⟨Nat.zero_le _, rfl⟩ ?_
    · exact Gn.canonA (J := []) rfl (by simp [wk, slP])
    intro k hk
    have hk0 := hk.1
    have hk1 := hk.2
    clear hk
    by_cases hki : k < i
    · have hke : k < (ends t).length := by omega
      refine vms3 hki hke hlt ?_
      have hkp : k < pre.length := by omega
      have hpk : pre[k] = (ends t)[k] := by simp [hpre]
      have hx := any_cons hkp hk1
      rw [hpk] at hx
      refine ⟨fun he => ?_, fun he => ?_⟩
      · refine endK.ret ?_ rfl
        have h3 := hx.1 (by simp [he])
        rw [h3] at hi
        simp [evRes, getT, retV, Tryz.f57, chk1, h1, h2, ← hi]
      · refine ⟨k + 1, ⟨hki, hx.2 (by simp [he])⟩, by simp only; omega, ?_⟩
        refine Gn.canonA (J := []) rfl ?_
        skip
        simp [wk, slP]
    · refine vms1 hki ?_
      have h3 := any_end (by omega : ¬ k < pre.length) hk1
      rw [h3, Bool.false_or] at hi
      refine ⟨i + 1, ?_, by simp only; omega, ?_⟩
      · show dup ((ends t).take (i + 1)) ((ends t).drop (i + 1)) = _
        rw [List.take_add_one, List.getElem?_eq_getElem hlt, ← hpre]
        exact hi
      · refine Gn.canonA (J := []) rfl ?_
        skip
        simp [wk, slP]
  have h3 : dup [] (ends t) = false := by rw [List.drop_of_length_le (by omega)] at hi; exact hi.symm
  clear hge hi
  refine T.rounds tok mixed cfg0 (fun j : Nat => ⟨(.dead :: .ptr 0 0 0 :: .int .i64 0 :: .dead :: .dead :: .dead :: .dead :: .dead :: .int .i64 j :: .dead :: .dead :: .dead :: .dead :: .dead :: .dead :: .dead :: .dead :: .dead :: .dead :: .dead :: .dead :: .dead :: .dead :: .dead :: .dead :: .dead :: .dead :: .dead :: .dead :: .dead :: .dead :: .dead :: .dead :: .dead :: .dead :: .dead :: .dead :: .dead :: .dead :: .dead :: .dead :: .dead :: .dead :: .dead :: .dead :: .dead :: .dead :: .dead :: .dead :: .dead :: .dead :: .dead :: .dead :: .dead :: .dead :: .dead :: .dead :: .dead :: .dead :: .dead :: .dead :: .dead :: .dead :: .dead :: .dead :: .dead :: .dead :: .dead :: .dead :: .dead :: .dead :: .dead :: .dead :: .dead :: .dead :: .dead :: .dead :: .dead :: .dead :: .dead :: .dead :: .dead :: .dead :: .dead :: .dead :: .dead :: .dead :: .dead :: .dead :: .dead :: .dead :: .dead :: .dead :: .dead :: .dead :: .dead :: .dead :: .dead :: .dead :: .dead :: .dead :: .dead :: .dead :: .dead :: .dead :: .dead :: .dead :: .dead :: .dead :: []), [.cells 0 (encT t)]⟩)
    (fun j => (t.links.drop j).any (fun l => decide (l.a.1 = l.b.1)) = t.links.any (fun l => decide (l.a.1 = l.b.1))) (fun j => t.links.length - j) 0 ?_ rfl ?_
  · exact Gn.canonA (J := []) rfl (by simp [wk, slL])
  intro j hj
  refine vms0 ?_
  refine ⟨fun hlt => ?_, fun hge => ?_⟩
  · have hx := any_cons hlt hj
    refine ⟨fun he => ?_, fun he => ?_⟩
    · refine endK.ret ?_ rfl
      have h4 := hx.1 (by simp [he])
      simp [evRes, getT, retV, Tryz.f57, chk1, h1, h2, h3, h4]
    · refine ⟨j + 1, hx.2 (by simp [he]), by simp only; omega, ?_⟩
      refine Gn.canonA (J := []) rfl ?_
      skip
      simp [wk, slL]
  · refine endK.ret ?_ rfl
    simp [evRes, getT, retV, Tryz.f57, chk1, h1, h2, h3, any_end hge hj]
end Go.Proofs.YtlbmbbaefncleaaGreatDoor.Top

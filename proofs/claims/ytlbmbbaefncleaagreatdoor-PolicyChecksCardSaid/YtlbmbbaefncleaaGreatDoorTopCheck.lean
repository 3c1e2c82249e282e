/-
  Chapter 40: which error a topology has.
-/
import Derived.Test.YtlbmbbaefncleaaGreatDoorTopEnds
import Derived.Test.YtlbmbbaefncleaaGreatDoorTopHas
set_option maxRecDepth 100000
set_option linter.all false
namespace Go.Proofs.YtlbmbbaefncleaaGreatDoor.Top
open Go.Vm
theorem lenI_nat {l : List Int} {i : Nat} (h : i < l.length) : 1 ≤ ((l.map (V.int .i64)).drop (i * 1)).length := by
  rw [List.length_drop, List.length_map]; omega
def badN (n : Int) : Bool := decide (n < 1) || decide (16 < n)
def dup : List (Int × Int) → List (Int × Int) → Bool
  | _, [] => false
  | pre, a :: r => pre.any (fun b => decide (a = b)) || dup (pre ++ [a]) r
def chk1 (t : Tp) : Int :=
  if t.ports.any badN then 9 else if (ends t).any (fun a => !has t a) then 9 else if dup [] (ends t) then 7 else if t.links.any (fun l => decide (l.a.1 = l.b.1)) then 2 else 0
def chk (t : Tp) : Int :=
  if (t.ports.length : Int) = 0 then 8 else if 16 < (t.ports.length : Int) then 12 else if 32 < (t.links.length : Int) then 12 else if 16 < (t.hosts.length : Int) then 12 else chk1 t
theorem any_cons {α : Type} {f : α → Bool} {l : List α} {j : Nat} {r : Bool} (h : j < l.length) (hr : (l.drop j).any f = r) : (f l[j] = true → r = true) ∧ (f l[j] = false → (l.drop (j + 1)).any f = r) := by
  rw [drop_cons h, List.any_cons] at hr
  cases hf : f l[j] with
  | true => rw [hf] at hr; exact ⟨fun _ => by simpa using hr.symm, fun h => by simp at h⟩
  | false => rw [hf] at hr; exact ⟨fun h => by simp at h, fun _ => by simpa using hr⟩
theorem any_end {α : Type} {f : α → Bool} {l : List α} {j : Nat} {r : Bool} (h : ¬ j < l.length) (hr : (l.drop j).any f = r) : r = false := by
  rw [List.drop_of_length_le (by omega)] at hr; exact hr.symm
attribute [local push_cast] encT encP encL slI slP slL cfg0 gfp_lenP gfp_lenL gfd_lenL lfl_lenP lfl_lenL eqP getI_nat
theorem pc54 (t : Tp) (hf : t.fit) : PC Tryz.prog 54 [.agg (encT t)] (.int .i64 (chk t)) := by
  refine PC.walk tok mixed cfg0 Tryz.func54 rfl Tryz.call54 (by simp [belAll, V.bel, belT, belP]) rfl ?_
  have hfp := hf.ports
  have hfl := hf.links
  have hfh := hf.hosts
  refine vms1 Tryz.ntmps54 ?_
  repeat' (first | intro _ | refine And.intro ?_ ?_)
  all_goals try (refine endK.ret ?_ rfl; simp only [evRes, getT, retV, Tryz.f54, chk, *, ↓reduceIte]; done)
  have hc : chk t = chk1 t := by simp only [chk, *, ↓reduceIte]
  rw [hc]
  refine T.rounds tok mixed cfg0 (fun j : Nat => ⟨(.dead :: .ptr 0 0 0 :: .int .i64 0 :: .dead :: .dead :: .dead :: .dead :: .dead :: .dead :: .dead :: .dead :: .dead :: .dead :: .dead :: .dead :: .dead :: .dead :: .dead :: .dead :: .dead :: .dead :: .dead :: .dead :: .dead :: .dead :: .dead :: .dead :: .dead :: .dead :: .dead :: .dead :: .dead :: .dead :: .dead :: .dead :: slI t.ports :: .int .i64 t.ports.length :: .int .i64 j :: .dead :: .dead :: .dead :: .dead :: .dead :: .dead :: .dead :: .dead :: .dead :: .dead :: .dead :: .dead :: .dead :: .dead :: .dead :: .dead :: .dead :: .dead :: .dead :: .dead :: .dead :: .dead :: .dead :: .dead :: .dead :: .dead :: .dead :: .dead :: .dead :: .dead :: .dead :: .dead :: .dead :: .dead :: .dead :: .dead :: .dead :: .dead :: .dead :: .dead :: .dead :: .dead :: .dead :: .dead :: .dead :: .dead :: .dead :: .dead :: .dead :: .dead :: .dead :: .dead :: .dead :: .dead :: .dead :: .dead :: .dead :: .dead :: []), [.cells 0 (encT t)]⟩)
    (fun j => (t.ports.drop j).any badN = t.ports.any badN) (fun j => t.ports.length - j) 0 ?_ rfl ?_
  · exact Gn.canonA (J := []) rfl (by simp [wk, slI])
  intro j hj
  refine vms0 ?_
  refine ⟨fun hlt => ?_, fun hge => ?_⟩
  · have hx := any_cons hlt hj
    repeat' (first | intro _ | refine And.intro ?_ ?_)
    all_goals first
      | (refine endK.ret ?_ rfl
         have := hx.1 (by simp [badN, *])
         simp [evRes, getT, retV, Tryz.f54, chk1, this]
         done)
      | (refine ⟨j + 1, hx.2 (by simp [badN, *]), by simp only; omega, ?_⟩
         refine Gn.canonA (J := []) rfl ?_
         skip
         simp [wk, slI])
  have h1 := any_end hge hj
  clear hge hj
  refine callO.pc (pc89 t hf) ?_
  refine vms0 ?_
  refine T.rounds tok mixed cfg0 (fun j : Nat => ⟨(.dead :: .ptr 0 0 0 :: .int .i64 0 :: .dead :: .dead :: slP (ends t) :: .dead :: .dead :: .dead :: .dead :: .dead :: .dead :: .dead :: .dead :: .dead :: .dead :: .dead :: .dead :: .dead :: .dead :: .dead :: .dead :: .dead :: .dead :: .dead :: .dead :: .dead :: .dead :: .dead :: .dead :: .dead :: .dead :: .dead :: .dead :: .dead :: .dead :: .dead :: .dead :: .dead :: .dead :: .dead :: .dead :: .dead :: .dead :: .dead :: .dead :: .dead :: .dead :: .dead :: .dead :: slP (ends t) :: .int .i64 (ends t).length :: .int .i64 j :: .dead :: .dead :: .dead :: .dead :: .dead :: .dead :: .dead :: .dead :: .dead :: .dead :: .dead :: .dead :: .dead :: .dead :: .dead :: .dead :: .dead :: .dead :: .dead :: .dead :: .dead :: .dead :: .dead :: .dead :: .dead :: .dead :: .dead :: .dead :: .dead :: .dead :: .dead :: .dead :: .dead :: .dead :: .dead :: .dead :: .dead :: .dead :: .dead :: .dead :: .dead :: .dead :: .dead :: []), [.cells 0 (encT t)]⟩)
    (fun j => ((ends t).drop j).any (fun a => !has t a) = (ends t).any (fun a => !has t a)) (fun j => (ends t).length - j) 0 ?_ rfl ?_
  · exact Gn.canonA (J := []) rfl (by simp [wk, slP])
  have hle : (ends t).length ≤ 20000000000 := by simp only [ends, List.length_append, endsOf_length]; omega
  intro j hj
  refine vms0 ?_
  refine ⟨fun hlt => ?_, fun hge => ?_⟩
  · have hx := any_cons hlt hj
    refine callO.pc (pc90 t (ends t)[j]) ?_
    refine vms0 ?_
    refine ⟨fun hh => ?_, fun hh => ?_⟩
    · refine endK.ret ?_ rfl
      have := hx.1 (by simp [hh])
      simp [evRes, getT, retV, Tryz.f54, chk1, h1, this]
    · refine ⟨j + 1, hx.2 (by simp [hh]), by simp only; omega, ?_⟩
      refine Gn.canonA rfl ?_
      skip
      simp [wk, slP]
  have h2 := any_end hge hj
  clear hge hj
  refine T.rounds tok mixed cfg0 (fun i : Nat => ⟨(.dead :: .ptr 0 0 0 :: .int .i64 0 :: .dead :: .dead :: slP (ends t) :: .dead :: .dead :: .dead :: .dead :: .dead :: .dead :: .dead :: .dead :: .dead :: .dead :: .dead :: .dead :: .dead :: .dead :: .dead :: .dead :: .dead :: .dead :: .dead :: .dead :: .dead :: .dead :: .dead :: .dead :: .dead :: .dead :: .dead :: .dead :: .dead :: .dead :: .dead :: .dead :: .dead :: .dead :: .dead :: .dead :: .dead :: .dead :: .dead :: .dead :: .dead :: .dead :: .dead :: .dead :: .dead :: .dead :: .dead :: .dead :: .dead :: .dead :: .dead :: .dead :: .dead :: .dead :: .dead :: slP (ends t) :: .int .i64 (ends t).length :: .int .i64 i :: .dead :: .dead :: .dead :: .dead :: .dead :: .dead :: .dead :: .dead :: .dead :: .dead :: .dead :: .dead :: .dead :: .dead :: .dead :: .dead :: .dead :: .dead :: .dead :: .dead :: .dead :: .dead :: .dead :: .dead :: .dead :: .dead :: .dead :: .dead :: .dead :: .dead :: .dead :: .dead :: []), [.cells 0 (encT t)]⟩)
    (fun i => dup ((ends t).take i) ((ends t).drop i) = dup [] (ends t)) (fun i => (ends t).length - i) 0 ?_ rfl ?_
  · exact Gn.canonA (J := []) rfl (by simp [wk, slP])
  intro i hi
  refine vms0 ?_
  refine ⟨fun hlt => ?_, fun hge => ?_⟩
  · skip
    rw [drop_cons hlt, dup] at hi
    obtain ⟨pre, hpre⟩ : ∃ pre, pre = (ends t).take i := ⟨_, rfl⟩
    obtain ⟨x, hxe⟩ : ∃ x, x = (ends t)[i] := ⟨_, rfl⟩
    have hpl : pre.length = i := by rw [hpre, List.length_take]; omega
    rw [← hpre, ← hxe] at hi
    refine T.rounds tok mixed cfg0 (fun k : Nat => ⟨(.dead :: .ptr 0 0 0 :: .int .i64 0 :: .dead :: .dead :: slP (ends t) :: .dead :: .dead :: .dead :: .ptr 1 0 0 :: .dead :: .dead :: .dead :: .dead :: .dead :: .dead :: .dead :: .dead :: .dead :: .dead :: .dead :: .dead :: .dead :: .dead :: .dead :: .dead :: .dead :: .dead :: .dead :: .dead :: .dead :: .dead :: .dead :: .dead :: .dead :: .dead :: .dead :: .dead :: .dead :: .dead :: .dead :: .dead :: .dead :: .dead :: .dead :: .dead :: .dead :: .dead :: .dead :: .dead :: .dead :: .dead :: .dead :: .dead :: .dead :: .dead :: .dead :: .dead :: .dead :: .dead :: .dead :: slP (ends t) :: .int .i64 (ends t).length :: .int .i64 i :: .dead :: .dead :: .dead :: .dead :: .dead :: .dead :: slP pre :: .int .i64 pre.length :: .int .i64 k :: .dead :: .dead :: .dead :: .dead :: .dead :: .dead :: .dead :: .dead :: .dead :: .dead :: .dead :: .dead :: .dead :: .dead :: .dead :: .dead :: .dead :: .dead :: .dead :: .dead :: .dead :: .dead :: .dead :: []), [.cells 0 (encT t), .cells 0 (encP x)]⟩)
      (fun k => (pre.drop k).any (fun b => decide (x = b)) = pre.any (fun b => decide (x = b))) (fun k => pre.length - k) 0 ?_ rfl ?_
    · refine Gn.canonA (J := []) (by rw [hxe]; rfl) ?_
      simp [wk, slP, hpl]
      rw [take_flat lenP, hpre]
    intro k hk
    refine vms0 ?_
    refine ⟨fun hlt2 => ?_, fun hge2 => ?_⟩
    · have hx := any_cons hlt2 hk
      refine ⟨fun he => ?_, fun he => ?_⟩
      · refine endK.ret ?_ rfl
        have h3 := hx.1 (by simp [he])
        rw [h3] at hi
        simp [evRes, getT, retV, Tryz.f54, chk1, h1, h2, ← hi]
      · refine ⟨k + 1, hx.2 (by simp [he]), by simp only; omega, ?_⟩
        refine Gn.canonA rfl ?_
        skip
        simp [wk, slP]
    · have h3 := any_end hge2 hk
      rw [h3, Bool.false_or] at hi
      refine ⟨i + 1, ?_, by simp only; omega, ?_⟩
      · show dup ((ends t).take (i + 1)) ((ends t).drop (i + 1)) = _
        rw [List.take_add_one, List.getElem?_eq_getElem hlt, ← hpre, ← hxe]
        exact hi
      · refine Gn.canonA rfl ?_
        skip
        simp [wk, slP]
  have h3 : dup [] (ends t) = false := by rw [List.drop_of_length_le (by omega)] at hi; exact hi.symm
  clear hge hi
  refine T.rounds tok mixed cfg0 (fun j : Nat => ⟨(.dead :: .ptr 0 0 0 :: .int .i64 0 :: .dead :: .dead :: .dead :: .dead :: .dead :: .dead :: .dead :: .dead :: .dead :: .dead :: .dead :: .dead :: .dead :: .dead :: .dead :: .dead :: .dead :: .dead :: .dead :: .dead :: .dead :: .dead :: .dead :: .dead :: .dead :: .dead :: .dead :: .dead :: .dead :: .dead :: .dead :: .dead :: .dead :: .dead :: .dead :: .dead :: .dead :: .dead :: .dead :: .dead :: .dead :: .dead :: .dead :: .dead :: .dead :: .dead :: .dead :: .dead :: .dead :: .dead :: .dead :: .dead :: .dead :: .dead :: .dead :: .dead :: .dead :: .dead :: .dead :: .dead :: .dead :: .dead :: .dead :: .dead :: .dead :: .dead :: .dead :: .dead :: .dead :: .dead :: .dead :: .dead :: .dead :: .dead :: .dead :: .dead :: .dead :: .dead :: .dead :: slL t.links :: .int .i64 t.links.length :: .int .i64 j :: .dead :: .dead :: .dead :: .dead :: .dead :: .dead :: .dead :: .dead :: .dead :: .dead :: .dead :: []), [.cells 0 (encT t)]⟩)
    (fun j => (t.links.drop j).any (fun l => decide (l.a.1 = l.b.1)) = t.links.any (fun l => decide (l.a.1 = l.b.1))) (fun j => t.links.length - j) 0 ?_ rfl ?_
  · exact Gn.canonA (J := []) rfl (by simp [wk, slL])
  intro j hj
  refine vms0 ?_
  refine ⟨fun hlt => ?_, fun hge => ?_⟩
  · have hx := any_cons hlt hj
    refine ⟨fun he => ?_, fun he => ?_⟩
    · refine endK.ret ?_ rfl
      have h4 := hx.1 (by simp [he])
      simp [evRes, getT, retV, Tryz.f54, chk1, h1, h2, h3, h4]
    · refine ⟨j + 1, hx.2 (by simp [he]), by simp only; omega, ?_⟩
      refine Gn.canonA rfl ?_
      skip
      simp [wk, slL]
  · refine endK.ret ?_ rfl
    simp [evRes, getT, retV, Tryz.f54, chk1, h1, h2, h3, any_end hge hj]
end Go.Proofs.YtlbmbbaefncleaaGreatDoor.Top

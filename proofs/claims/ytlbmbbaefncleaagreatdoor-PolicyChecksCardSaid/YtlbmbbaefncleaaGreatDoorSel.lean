/-
  Chapter 45: Select, Small, Equal.
-/
import Derived.Test.YtlbmbbaefncleaaGreatDoorRu
import Derived.Test.YtlbmbbaefncleaaGreatDoorPdEval
set_option maxRecDepth 100000
set_option maxHeartbeats 4000000
set_option linter.all false
namespace Go.Proofs.YtlbmbbaefncleaaGreatDoor
open Go.Vm
noncomputable def evD (f : Pd.Fl) (l : List Pd.Nd) : Bool := by
 classical
 exact if h : Pd.checkP l = 0 ∧ ∃ p, Pd.okP p ∧ l = Pd.flat p then Pd.evP f h.2.choose else false
theorem evD_spec (f : Pd.Fl) (l : List Pd.Nd) : Pd.evalL f l (evD f l) := by
 classical
 by_cases h0 : Pd.checkP l = 0
 ·obtain ⟨_, p, hp, e⟩ := Pd.checkP_tree h0
  have h : Pd.checkP l = 0 ∧ ∃ p, Pd.okP p ∧ l = Pd.flat p := ⟨h0, p, hp, e⟩
  refine .inl ⟨h0, h.2.choose, h.2.choose_spec.1, h.2.choose_spec.2, ?_⟩
  unfold evD
  rw [dif_pos h]
 ·refine .inr ⟨h0, ?_⟩
  unfold evD
  rw [dif_neg fun h => h0 h.1]
def smallR (l : List Ru) : Bool := decide (l.length ≤ 60) && l.all fun r => decide (r.p.length ≤ 60) && decide (r.q.length ≤ 60)
theorem small_iff {l : List Ru} : smallR l = true ↔ l.length ≤ 60 ∧ ∀ r ∈ l, r.p.length ≤ 60 ∧ r.q.length ≤ 60 := by
 unfold smallR
 simp only [Bool.and_eq_true, decide_eq_true_eq, List.all_eq_true]
attribute [local push_cast] encR slR cfg0 gfp_lenR gfd_lenR lfl_lenR Nat.mul_one Pd.slN Px.slN Pd.encF
theorem pc9 (l : List Ru) : PC Tryz.prog 9 [slR l] (.bool (smallR l)) := by
 by_cases h60 : 60 < l.length
 ·have hs : smallR l = false := by
   rw [← Bool.not_eq_true, small_iff]
   omega
  refine PC.walk tok mixed cfg0 Tryz.func9 rfl Tryz.call9 (by simp [Pd.bel_slN, Px.bel_slN, Pd.bel_Ns, Px.bel_Ns, belAll_append, Pd.belF]) (by first | rfl | simp [Pd.bel_slN, Px.bel_slN, Pd.bel_Ns, Px.bel_Ns, belAll_append, Pd.belF]) ?_; refine vms1 Tryz.ntmps9 ?_
  refine endK.ret ?_ (by first | rfl | simp [Pd.bel_slN, Px.bel_slN, Pd.bel_Ns, Px.bel_Ns, belAll_append, Pd.belF]); simp [evRes, getT, retV, Tryz.f9,  hs]
 have hl : l.length ≤ 60 := by omega
 refine PC.walk tok mixed cfg0 Tryz.func9 rfl Tryz.call9 (by simp [Pd.bel_slN, Px.bel_slN, Pd.bel_Ns, Px.bel_Ns, belAll_append, Pd.belF]) (by first | rfl | simp [Pd.bel_slN, Px.bel_slN, Pd.bel_Ns, Px.bel_Ns, belAll_append, Pd.belF]) ?_; refine vms1 Tryz.ntmps9 ?_
 refine T.lp tok mixed cfg0 (fun (i : Nat) => kp 1 (dd 2 (sv (.int .i64 i) (dd 25 (nl))))) (fun H0 (i : Nat) => []) (fun (i : Nat) => i ≤ l.length ∧ ∀ j, j < i → ∀ h : j < l.length, l[j].p.length ≤ 60 ∧ l[j].q.length ≤ 60) (fun (i : Nat) => l.length - i) (0) ?_ ?_ ?_
 ·exact ⟨Nat.zero_le _, fun j hj => absurd hj (Nat.not_lt_zero j)⟩
 ·exact Gn.canon (J := []) (by first | rfl | (simp [List.append_nil]; done) | (simp [List.append_nil]; rfl)) (by simp [wk, slR, sum0, Pd.slN, Px.slN, putT, kp, dd, sv, nl]) (by simp [List.length_append]) (by simp [Pd.bel_slN, Px.bel_slN, Pd.bel_Ns, Px.bel_Ns, belAll_append, Pd.belF, kp, dd, sv, nl]) (by simp [Pd.bel_slN, Px.bel_slN, Pd.bel_Ns, Px.bel_Ns, belAll_append, Pd.belF])
 rintro i ⟨hi, hall⟩
 by_cases hlt : i < l.length
 ·by_cases hp : l[i].p.length ≤ 60
  ·have hp2 : ¬ 60 < l[i].p.length := by omega
   by_cases hq : l[i].q.length ≤ 60
   ·have hq2 : ¬ 60 < l[i].q.length := by omega
    refine vms3 hlt hp2 hq2 ?_
    refine ⟨i + 1, ⟨by omega, fun j hj h => by
     by_cases e : j = i
     ·subst e; exact ⟨hp, hq⟩
     ·exact hall j (by omega) h⟩, by (try simp only); omega, ?_⟩; exact Gn.canon (by first | rfl | (simp [List.append_nil]; rfl)) (by simp [wk, slR, sum0, Pd.slN, Px.slN]) (by simp [List.length_append]) (by simp [Pd.bel_slN, Px.bel_slN, Pd.bel_Ns, Px.bel_Ns, belAll_append, Pd.belF]) (by simp [Pd.bel_slN, Px.bel_slN, Pd.bel_Ns, Px.bel_Ns, belAll_append, Pd.belF])
   ·have hq2 : 60 < l[i].q.length := by omega
    have hs : smallR l = false := by
     rw [← Bool.not_eq_true, small_iff]
     intro h
     exact hq (h.2 _ (List.getElem_mem hlt)).2
    refine vms3 hlt hp2 hq2 ?_
    refine endK.ret ?_ (by first | rfl | simp [Pd.bel_slN, Px.bel_slN, Pd.bel_Ns, Px.bel_Ns, belAll_append, Pd.belF]); simp [evRes, getT, retV, Tryz.f9,  hs]
  ·have hp2 : 60 < l[i].p.length := by omega
   have hs : smallR l = false := by
    rw [← Bool.not_eq_true, small_iff]
    intro h
    exact hp (h.2 _ (List.getElem_mem hlt)).1
   refine vms2 hlt hp2 ?_
   refine endK.ret ?_ (by first | rfl | simp [Pd.bel_slN, Px.bel_slN, Pd.bel_Ns, Px.bel_Ns, belAll_append, Pd.belF]); simp [evRes, getT, retV, Tryz.f9,  hs]
 have hi' : i = l.length := by omega
 have hs : smallR l = true := by
  rw [small_iff]
  refine ⟨by omega, fun r hr => ?_⟩
  obtain ⟨j, hj, rfl⟩ := List.getElem_of_mem hr
  exact hall j (by omega) hj
 refine vms1 hlt ?_
 refine endK.ret ?_ (by first | rfl | simp [Pd.bel_slN, Px.bel_slN, Pd.bel_Ns, Px.bel_Ns, belAll_append, Pd.belF]); simp [evRes, getT, retV, Tryz.f9,  hs]
noncomputable def hitR (h : Int) (f : Pd.Fl) (r : Ru) : Bool := decide (r.f = h) && evD f r.p
noncomputable def selR (h : Int) (f : Pd.Fl) : List Ru → Nat × Bool
 | [] => (0, false)
 | r :: l => if hitR h f r = true then (0, true) else if (selR h f l).2 = true then ((selR h f l).1 + 1, true) else (0, false)
theorem sel_at {h : Int} {f : Pd.Fl} : ∀ {l : List Ru} {i : Nat}, (hi : i < l.length) → (∀ j, j < i → ∀ hj : j < l.length, hitR h f l[j] = false) → hitR h f l[i] = true → selR h f l = (i, true)
 | [], _, hi, _, _ => by simp at hi
 | r :: l, 0, _, _, hh => by
  have hh' : hitR h f r = true := hh
  rw [selR, if_pos hh']
 | r :: l, i + 1, hi, hn, hh => by
  have h0 := hn 0 (by omega) (by simp)
  have h1 := sel_at (l := l) (i := i) (by simpa using hi) (fun j hj hl => hn (j + 1) (by omega) (by simpa using hl)) hh
  rw [selR, if_neg (by simpa using h0), h1, if_pos rfl]
theorem sel_none {h : Int} {f : Pd.Fl} : ∀ {l : List Ru}, (∀ j, ∀ hj : j < l.length, hitR h f l[j] = false) → selR h f l = (0, false)
 | [], _ => rfl
 | r :: l, hn => by
  have h0 := hn 0 (by simp)
  have h1 := sel_none (l := l) (fun j hl => hn (j + 1) (by simpa using hl))
  rw [selR, if_neg (by simpa using h0), h1, if_neg (by decide)]
noncomputable def encIB (r : Nat × Bool) : V := .tup [.int .i64 r.1, .bool r.2]
theorem pc19 (l : List Ru) (h : Int) (f : Pd.Fl) (hl : l.length ≤ 1000000) (hs : ∀ r ∈ l, r.p.length ≤ 4000000) : PC Tryz.prog 19 [slR l, .int .i64 h, .agg (Pd.encF f)] (.tup [.int .i64 (selR h f l).1, .bool (selR h f l).2]) := by
 refine PC.walk tok mixed cfg0 Tryz.func19 rfl Tryz.call19 (by simp [Pd.bel_slN, Px.bel_slN, Pd.bel_Ns, Px.bel_Ns, belAll_append, Pd.belF]) (by first | rfl | simp [Pd.bel_slN, Px.bel_slN, Pd.bel_Ns, Px.bel_Ns, belAll_append, Pd.belF]) ?_; refine vms1 Tryz.ntmps19 ?_
 refine T.lp tok mixed cfg0 (fun (i : Nat) => dd 1 (kp 1 (dd 3 (kp 1 (dd 4 (kp 2 (sv (.int .i64 i) (dd 16 (nl))))))))) (fun H0 (i : Nat) => [.cells 0 (Pd.encF f)]) (fun (i : Nat) => i ≤ l.length ∧ ∀ j, j < i → ∀ hj : j < l.length, hitR h f l[j] = false) (fun (i : Nat) => l.length - i) (0) ?_ ?_ ?_
 ·exact ⟨Nat.zero_le _, fun j hj => absurd hj (Nat.not_lt_zero j)⟩
 ·exact Gn.canon (J := []) (by first | rfl | (simp [List.append_nil]; done) | (simp [List.append_nil]; rfl)) (by simp [wk, slR, sum0, Pd.slN, Px.slN, putT, kp, dd, sv, nl]) (by simp [List.length_append]) (by simp [Pd.bel_slN, Px.bel_slN, Pd.bel_Ns, Px.bel_Ns, belAll_append, Pd.belF, kp, dd, sv, nl]) (by simp [Pd.bel_slN, Px.bel_slN, Pd.bel_Ns, Px.bel_Ns, belAll_append, Pd.belF])
 rintro i ⟨hi, hn⟩
 by_cases hlt : i < l.length
 case neg =>
  have e := sel_none (h := h) (f := f) (l := l) fun j hj => hn j (by omega) hj
  refine vms1 hlt ?_
  refine endK.ret ?_ (by first | rfl | simp [Pd.bel_slN, Px.bel_slN, Pd.bel_Ns, Px.bel_Ns, belAll_append, Pd.belF]); simp [evRes, getT, retV, Tryz.f19,  e]
 have hnext : hitR h f l[i] = false → ∀ j, j < i + 1 → ∀ hj : j < l.length, hitR h f l[j] = false := fun h0 j hj hjl => by
  by_cases e : j = i
  ·subst e; exact h0
  ·exact hn j (by omega) hjl
 by_cases hf : l[i].f = h
 ·refine vms2 hlt hf ?_
  refine callO.pc (Pd.pc60 f l[i].p (hs _ (List.getElem_mem hlt)) _ (evD_spec f l[i].p)) ?_
  cases hb : evD f l[i].p
  ·have h0 : hitR h f l[i] = false := by rw [hitR, hb, Bool.and_false]
   refine vms3 hlt hf hb ?_
   refine ⟨i + 1, ⟨by omega, hnext h0⟩, by (try simp only); omega, ?_⟩; exact Gn.canon (by first | rfl | (simp [List.append_nil]; rfl)) (by simp [wk, slR, sum0, Pd.slN, Px.slN]) (by simp [List.length_append]) (by simp [Pd.bel_slN, Px.bel_slN, Pd.bel_Ns, Px.bel_Ns, belAll_append, Pd.belF]) (by simp [Pd.bel_slN, Px.bel_slN, Pd.bel_Ns, Px.bel_Ns, belAll_append, Pd.belF])
  ·have h0 : hitR h f l[i] = true := by rw [hitR, hb, hf, decide_eq_true rfl]; rfl
   have e := sel_at hlt hn h0
   refine vms3 hlt hf hb ?_
   refine endK.ret ?_ (by first | rfl | simp [Pd.bel_slN, Px.bel_slN, Pd.bel_Ns, Px.bel_Ns, belAll_append, Pd.belF]); simp [evRes, getT, retV, Tryz.f19,  e]
 ·have h0 : hitR h f l[i] = false := by rw [hitR, decide_eq_false hf, Bool.false_and]
  refine vms2 hlt hf ?_
  refine ⟨i + 1, ⟨by omega, hnext h0⟩, by (try simp only); omega, ?_⟩; exact Gn.canon (by first | rfl | (simp [List.append_nil]; rfl)) (by simp [wk, slR, sum0, Pd.slN, Px.slN]) (by simp [List.length_append]) (by simp [Pd.bel_slN, Px.bel_slN, Pd.bel_Ns, Px.bel_Ns, belAll_append, Pd.belF]) (by simp [Pd.bel_slN, Px.bel_slN, Pd.bel_Ns, Px.bel_Ns, belAll_append, Pd.belF])
end Go.Proofs.YtlbmbbaefncleaaGreatDoor

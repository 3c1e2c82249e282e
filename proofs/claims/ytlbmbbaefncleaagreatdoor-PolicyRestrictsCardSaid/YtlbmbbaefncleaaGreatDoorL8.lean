/-
  Chapter 45: the law of Restrict.
-/
import Derived.Test.YtlbmbbaefncleaaGreatDoorRsr
set_option maxRecDepth 100000
set_option maxHeartbeats 4000000
set_option linter.all false
namespace Go.Proofs.YtlbmbbaefncleaaGreatDoor
open Go.Vm
theorem rst_len {n : List Pd.Nd} {l : List Ru} : (rstR n l).length ≤ l.length := by
 unfold rstR
 split
 ·rw [List.length_map]; exact List.length_filter_le _ _
 ·exact Nat.zero_le _
theorem rst_small {n : List Pd.Nd} {l : List Ru} (h : ∀ r ∈ l, r.p.length ≤ 60 ∧ r.q.length ≤ 60) (hn : n.length ≤ 60) : ∀ r ∈ rstR n l, r.p.length ≤ 4000 ∧ r.q.length ≤ 4000 := by
 intro r hr
 unfold rstR at hr
 split at hr
 ·obtain ⟨q, hq, rfl⟩ := List.mem_map.1 hr
  have := h q (List.mem_filter.1 hq).1
  simp only [andR, List.length_cons, List.length_append]
  omega
 ·cases hr
theorem sel_lt {h : Int} {f : Pd.Fl} : ∀ {l : List Ru}, (selR h f l).2 = true → (selR h f l).1 < l.length
 | [], hh => by simp [selR] at hh
 | r :: l, hh => by
  rw [selR] at hh ⊢
  split
  ·simp
  ·rename_i h1
   rw [if_neg h1] at hh
   split at hh
   ·rename_i h2
    rw [if_pos h2]
    have := sel_lt h2
    simp; omega
   ·cases hh
attribute [local push_cast] slR cfg0 lfl_lenR Nat.mul_one Pd.encF Pd.slN
theorem rs8 (l : List Ru) (n : List Pd.Nd) (h : Int) (f : Pd.Fl) : PC Tryz.prog 8 [slR l, Pd.slN n, agX h f] (.bool true) := by
 rw [agX]
 by_cases hn : 60 < n.length
 ·refine PC.walk tok mixed cfg0 Tryz.func8 rfl Tryz.call8 (by simp [Pd.bel_slN, Px.bel_slN, Pd.bel_Ns, Px.bel_Ns, belAll_append, Pd.belF]) (by first | rfl | simp [Pd.bel_slN, Px.bel_slN, Pd.bel_Ns, Px.bel_Ns, belAll_append, Pd.belF]) ?_; refine vms1 Tryz.ntmps8 ?_
  refine callO.pc (pc9 l) ?_
  cases hsa : smallR l
  ·refine vms1 hsa ?_
   refine callO.pc pc10 ?_
   refine vms1 hsa ?_
   refine endK.ret ?_ (by first | rfl | simp [Pd.bel_slN, Px.bel_slN, Pd.bel_Ns, Px.bel_Ns, belAll_append, Pd.belF]); simp [evRes, getT, retV, Tryz.f8]
  ·refine vms1 hsa ?_
   refine callO.pc pc10 ?_
   refine vms1 hsa ?_
   refine endK.ret ?_ (by first | rfl | simp [Pd.bel_slN, Px.bel_slN, Pd.bel_Ns, Px.bel_Ns, belAll_append, Pd.belF]); simp [evRes, getT, retV, Tryz.f8]
 refine PC.walk tok mixed cfg0 Tryz.func8 rfl Tryz.call8 (by simp [Pd.bel_slN, Px.bel_slN, Pd.bel_Ns, Px.bel_Ns, belAll_append, Pd.belF]) (by first | rfl | simp [Pd.bel_slN, Px.bel_slN, Pd.bel_Ns, Px.bel_Ns, belAll_append, Pd.belF]) ?_; refine vms1 Tryz.ntmps8 ?_
 refine callO.pc (pc9 l) ?_
 cases hsa : smallR l
 ·refine vms1 hsa ?_
  refine callO.pc pc10 ?_
  refine vms1 hsa ?_
  refine endK.ret ?_ (by first | rfl | simp [Pd.bel_slN, Px.bel_slN, Pd.bel_Ns, Px.bel_Ns, belAll_append, Pd.belF]); simp [evRes, getT, retV, Tryz.f8]
 obtain ⟨ha1, ha2⟩ := small_iff.1 hsa
 have hn2 : n.length ≤ 60 := by omega
 have hsm : smR l := fun r hr => ⟨by have := (ha2 r hr).1; omega, by have := (ha2 r hr).2; omega⟩
 have h26 := pc26 l n (by omega) hsm (by omega)
 have h27 := pc27 l n (by omega) hsm (by omega)
 have hml := rst_len (n := n) (l := l)
 have hms := rst_small ha2 hn2
 have hsel := fun hh => sel_rst (h := h) (f := f) (n := n) (l := l) hh
 have hlt := fun hh => sel_lt (h := h) (f := f) (l := rstR n l) hh
 generalize rstR n l = m at h26 h27 hml hms hsel hlt
 refine vms1 hsa ?_
 refine callO.pc h26 ?_
 refine vms0 ?_
 refine callO.pc h27 ?_
 refine vms0 ?_
 refine callO.pc (pc15 m (by omega) fun r hr => ⟨by have := (hms r hr).1; omega, by have := (hms r hr).2; omega⟩) ?_
 refine vms0 ?_
 refine callO.pc (pc19 m h f (by omega) fun r hr => by have := (hms r hr).1; omega) ?_
 cases h1 : (selR h f m).2
 ·refine vms1 h1 ?_
  refine callO.pc pc10 ?_
  refine vms1 h1 ?_
  refine endK.ret ?_ (by first | rfl | simp [Pd.bel_slN, Px.bel_slN, Pd.bel_Ns, Px.bel_Ns, belAll_append, Pd.belF]); simp [evRes, getT, retV, Tryz.f8]
 obtain ⟨h2, h3⟩ := hsel h1
 have h4 := hlt h1
 refine vms1 h1 ?_
 refine callO.pc (pc19 l h f (by omega) fun r hr => by have := (ha2 r hr).1; omega) ?_
 refine vms2 h1 h2 ?_
 refine callO.pc (Pd.pc28 f n (by omega) _ (evD_spec f n)) ?_
 refine vms3 h1 h2 h3 ?_
 refine callO.pc pc10 ?_
 refine vms3 h1 h2 h3 ?_
 refine endK.ret ?_ (by first | rfl | simp [Pd.bel_slN, Px.bel_slN, Pd.bel_Ns, Px.bel_Ns, belAll_append, Pd.belF]); simp [evRes, getT, retV, Tryz.f8]
theorem law8 (xs : List V) (h : TypA tt 8 [22, 54, 44] xs) : PC Tryz.prog 8 xs (.bool true) := by
 obtain ⟨v1, vs, c1, rfl, rfl, h1, h⟩ := typA_cons h
 obtain ⟨v2, vs, c2, rfl, rfl, h2, h⟩ := typA_cons h
 obtain ⟨v3, vs, c3, rfl, rfl, h3, h⟩ := typA_cons h
 obtain rfl := typA_nil h
 obtain ⟨a, ha⟩ := typ_slR h1
 obtain ⟨b, hb⟩ := typ_slN h2
 obtain ⟨x, f, hx⟩ := typ_X h3
 refine PC.lax ?_
 rw [laxs, laxs, laxs, laxs, ha, hb, hx]
 exact rs8 a b x f
end Go.Proofs.YtlbmbbaefncleaaGreatDoor

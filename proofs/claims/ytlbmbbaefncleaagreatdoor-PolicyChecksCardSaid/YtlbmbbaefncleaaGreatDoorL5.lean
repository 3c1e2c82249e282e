/-
  Chapter 45: the law of Check.
-/
import Derived.Test.YtlbmbbaefncleaaGreatDoorChk
import Derived.Test.YtlbmbbaefncleaaGreatDoorSel
import Derived.Test.YtlbmbbaefncleaaGreatDoorAwf
import Derived.Test.YtlbmbbaefncleaaGreatDoorLaw
set_option maxRecDepth 100000
set_option maxHeartbeats 4000000
set_option linter.all false
namespace Go.Proofs.YtlbmbbaefncleaaGreatDoor
open Go.Vm Go.ChangeShapes Go.WideShapes Go.ChangeAt Go.RowKit
theorem typ_Pt {m : Nat} (c : List V) (h : Typ tt (m + 2) 112 c) : ∃ x : Int × Int, laxs c = Top.encP x ∧ True := by
 have h := typ_struct (by rw [tt_112]) h
 obtain ⟨c1, r1, rfl, h1, h⟩ := typF_cons h
 obtain ⟨c2, r2, rfl, h2, h⟩ := typF_cons h
 obtain rfl := typF_nil h
 obtain ⟨a, rfl, _⟩ := typ_int (by rw [tt_3]) h1
 obtain ⟨b, rfl, _⟩ := typ_int (by rw [tt_3]) h2
 exact ⟨(a, b), rfl, trivial⟩
theorem typ_Lk {m : Nat} (c : List V) (h : Typ tt (m + 3) 114 c) : ∃ x : Top.Lk, laxs c = Top.encL x ∧ True := by
 have h := typ_struct (by rw [tt_114]) h
 obtain ⟨c1, r1, rfl, h1, h⟩ := typF_cons h
 obtain ⟨c2, r2, rfl, h2, h⟩ := typF_cons h
 obtain ⟨c3, r3, rfl, h3, h⟩ := typF_cons h
 obtain rfl := typF_nil h
 obtain ⟨a, ha, _⟩ := typ_Pt (m := m) c1 h1
 obtain ⟨b, hb, _⟩ := typ_Pt (m := m) c2 h2
 obtain ⟨d, rfl⟩ := typ_bool (by rw [tt_4]) h3
 refine ⟨⟨a, b, d⟩, ?_, trivial⟩
 rw [laxs_append, laxs_append, laxs_append, ha, hb]
 rfl
theorem typ_T {m : Nat} {c : List V} (h : Typ tt (m + 5) 36 c) : ∃ t : Top.Tp, lax (mkV (tt 36) c) = .agg (Top.encT t) := by
 have h := typ_struct (by rw [tt_36]) h
 obtain ⟨c1, r1, rfl, h1, h⟩ := typF_cons h
 obtain ⟨c2, r2, rfl, h2, h⟩ := typF_cons h
 obtain ⟨c3, r3, rfl, h3, h⟩ := typF_cons h
 obtain rfl := typF_nil h
 obtain ⟨p, hp, _, _⟩ := typ_slice (by rw [tt_32]) typ_I h1
 obtain ⟨l, hl, _, _⟩ := typ_slice (by rw [tt_33]) typ_Lk h2
 obtain ⟨q, hq, _, _⟩ := typ_slice (by rw [tt_34]) typ_Pt h3
 refine ⟨⟨p, l, q⟩, ?_⟩
 rw [show ∀ c, mkV (tt 36) c = .agg c from fun c => by rw [tt_36]; rfl, Go.Vm.lax, laxs_append, laxs_append, laxs_append, hp, hl, hq]
 simp only [flatMap_one]
 rfl
attribute [local push_cast] slR cfg0 lfl_lenR Nat.mul_one encII2 Top.encT
theorem ck5 (t : Top.Tp) (l : List Ru) : PC Tryz.prog 5 [.agg (Top.encT t), slR l] (.bool true) := by
 refine PC.walk tok mixed cfg0 Tryz.func5 rfl Tryz.call5 (by simp [Pd.bel_slN, Px.bel_slN, Pd.bel_Ns, Px.bel_Ns]) (by first | rfl | simp [Pd.bel_slN, Px.bel_slN, Pd.bel_Ns, Px.bel_Ns]) ?_; refine vms1 Tryz.ntmps5 ?_
 refine callO.pc (Top.pc16 t) ?_
 cases hst : Top.small t
 ·refine vms1 hst ?_
  refine callO.pc pc10 ?_
  refine vms1 hst ?_
  refine endK.ret ?_ (by first | rfl | simp [Pd.bel_slN, Px.bel_slN, Pd.bel_Ns, Px.bel_Ns]); simp [evRes, getT, retV, Tryz.f5]
 have hf := Top.small_fit hst
 refine vms1 hst ?_
 refine callO.pc (pc9 l) ?_
 cases hsa : smallR l
 ·refine vms1 hsa ?_
  refine callO.pc pc10 ?_
  refine vms1 hsa ?_
  refine endK.ret ?_ (by first | rfl | simp [Pd.bel_slN, Px.bel_slN, Pd.bel_Ns, Px.bel_Ns]); simp [evRes, getT, retV, Tryz.f5]
 obtain ⟨ha1, ha2⟩ := small_iff.1 hsa
 have hs : ∀ r ∈ l, r.p.length ≤ 4000000 ∧ r.q.length ≤ 4000000 := fun r hr => ⟨by have := (ha2 r hr).1; omega, by have := (ha2 r hr).2; omega⟩
 refine vms1 hsa ?_
 refine callO.pc (pc17 t l hf hs) ?_
 refine vms0 ?_
 refine callO.pc (pc18 t l hf hs) ?_
 refine vms0 ?_
 refine callO.pc pc10 ?_
 refine vms0 ?_
 refine endK.ret ?_ (by first | rfl | simp [Pd.bel_slN, Px.bel_slN, Pd.bel_Ns, Px.bel_Ns]); simp [evRes, getT, retV, Tryz.f5]
theorem law5 (xs : List V) (h : TypA tt 8 [36, 22] xs) : PC Tryz.prog 5 xs (.bool true) := by
 obtain ⟨v1, vs, c1, rfl, rfl, h1, h⟩ := typA_cons h
 obtain ⟨v2, vs, c2, rfl, rfl, h2, h⟩ := typA_cons h
 obtain rfl := typA_nil h
 obtain ⟨t, ht⟩ := typ_T (m := 3) h1
 obtain ⟨a, ha⟩ := typ_slR h2
 refine PC.lax ?_
 rw [laxs, laxs, laxs, ht, ha]
 exact ck5 t a
end Go.Proofs.YtlbmbbaefncleaaGreatDoor

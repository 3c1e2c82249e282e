/-
  Joined by a program from the texts L5.
-/
import Derived.Test.YticeakkgoafiaaaMg
import Derived.Test.YticeakkgoafiaaaMl
/- Chapter 43: no valid list is better than the one that Find answers. -/
set_option maxRecDepth 100000
set_option maxHeartbeats 4000000
set_option linter.all false
namespace Go.Proofs.Yticeakkgoafiaaa
open Go.Vm Go.ChangeShapes Go.WideShapes Go.ChangeAt Go.RowKit
theorem err_val {t : Top.Tp} {x y : Int} {r : List Nd} {l : List Hop} {e : Int} (he : errR t x y r e) (h : ValR 13 t x y r l) : PC Try.prog 13 (argV t x y r ++ [slH l]) (.bool false) := by
 rcases h with ⟨_, _, _, h⟩ | ⟨p, ho, _⟩
 ·exact h
 ·exact (okR_no he ho).elim
theorem ok_val {t : Top.Tp} {x y : Int} {r : List Nd} {p : Pr} {l : List Hop} (ho : okR t x y r p) (h : ValR 13 t x y r l) : PC Try.prog 13 (argV t x y r ++ [slH l]) (.bool (vld t (hostP t y) true (hostP t x) l && La (autR p t.ports.length) 0 (sws l))) := by
 have hrng := ho.rng
 rw [badR] at hrng
 have hs := host_at ho.top (x := x) (by omega)
 rcases h with ⟨e, he, _, _⟩ | ⟨_, _, h⟩
 ·exact (okR_no he ho).elim
 ·have e : vld t (hostP t y) (mtL r (sws l)) (hostP t x) l = (vld t (hostP t y) true (hostP t x) l && La (autR p t.ports.length) 0 (sws l)) := by
   rw [vld_M]
   cases hv : vld t (hostP t y) true (hostP t x) l with
   | false => rfl
   | true =>
    rw [Bool.true_and, Bool.true_and]
    exact Bool.eq_iff_iff.2 (mt_La ho (vld_rng ho.top l _ hs hv))
  rw [← e]
  exact h
theorem lex_at {a b : List Hop} {i : Nat} (ha : i < a.length) (hb : i < b.length) (h : lexO ((outs a).drop i) ((outs b).drop i)) : a[i].out < b[i].out ∨ (a[i].out = b[i].out ∧ lexO ((outs a).drop (i + 1)) ((outs b).drop (i + 1))) := by
 rw [List.drop_eq_getElem_cons (show i < (outs a).length by rw [outs_len]; exact ha), List.drop_eq_getElem_cons (show i < (outs b).length by rw [outs_len]; exact hb)] at h
 simp only [outs, List.getElem_map] at h ⊢
 exact h
attribute [local push_cast] cfg0 encQ slN encH gfp_lenH gfd_lenH lfl_lenH Nat.mul_one Top.encT Top.slI Top.slP Top.slL
theorem pc5 (t : Top.Tp) (q : Qy) (l : List Hop) : PC Try.prog 5 [.agg (Top.encT t), .agg (encQ q), slH l] (.bool true) := by
 have h8 := pc8 t q
 cases hs : smallQ t q with
 | false =>
  rw [hs] at h8
  obtain ⟨x, y, r⟩ := q
  rw [slH]
  refine PC.walk tok mixed cfg0 Try.func5 rfl Try.call5 (by simp) (by first | rfl | simp) ?_; refine vms1 Try.ntmps5 ?_
  refine callO.pc h8 ?_
  refine vms0 ?_
  refine callO.pc pc9 ?_
  refine vms0 ?_
  refine endK.retA ?_; simp [evRes, getT, retV, Try.f5]
 | true =>
  rw [hs] at h8
  by_cases hl : (30 : Int) < l.length
  ·obtain ⟨x, y, r⟩ := q
   rw [slH]
   refine PC.walk tok mixed cfg0 Try.func5 rfl Try.call5 (by simp) (by first | rfl | simp) ?_; refine vms1 Try.ntmps5 ?_
   refine callO.pc h8 ?_
   refine vms1 hl ?_
   refine callO.pc pc9 ?_
   refine vms0 ?_
   refine endK.retA ?_; simp [evRes, getT, retV, Try.f5]
  obtain ⟨hf, hr⟩ := small_of hs
  obtain ⟨x, y, r⟩ := q
  simp only at hr
  have hV := fun (l : List Hop) (h : l.length ≤ 2000) => pc13 t x y r l hf (by omega) h
  rcases pc10 t x y r hf (by omega) with ⟨e, he, h0, h10⟩ | ⟨p, ho, h10⟩
  ·have h13 := err_val he (hV l (by omega))
   rw [argV] at h10 h13
   simp only [List.cons_append, List.nil_append] at h13
   rw [slH] at h13 ⊢
   refine PC.walk tok mixed cfg0 Try.func5 rfl Try.call5 (by simp) (by first | rfl | simp) ?_; refine vms1 Try.ntmps5 ?_
   refine callO.pc h8 ?_
   refine vms1 hl ?_
   refine callO.pc h10 ?_
   refine vms1 h0 ?_
   refine callO.pc h13 ?_
   refine vms0 ?_
   refine callO.pc pc9 ?_
   refine vms0 ?_
   refine endK.retA ?_; simp [evRes, getT, retV, Try.f5]
  have hrng := ho.rng
  rw [badR] at hrng
  have hsr := host_at ho.top (x := x) (by omega)
  have h13 := ok_val ho (hV l (by omega))
  have ho2 := fun (l : List Hop) (hv : vld t (hostP t y) true (hostP t x) l = true) (hL : La (autR p t.ports.length) 0 (sws l) = true) => opt2 (fit_of ho) (d := hostP t y) hsr hv hL
  cases hfr : findR t (autR p t.ports.length) (fit_of ho) (hostP t x) (hostP t y) with
  | none =>
   rw [hfr] at h10
   have hb : (vld t (hostP t y) true (hostP t x) l && La (autR p t.ports.length) 0 (sws l)) = false := by
    cases hb : (vld t (hostP t y) true (hostP t x) l && La (autR p t.ports.length) 0 (sws l)) with
    | false => rfl
    | true =>
     rw [Bool.and_eq_true] at hb
     obtain ⟨best, h1, _⟩ := ho2 l hb.1 hb.2
     rw [hfr] at h1
     cases h1
   rw [hb] at h13
   rw [argV] at h10 h13
   simp only [List.cons_append, List.nil_append] at h13
   rw [slH] at h13 ⊢
   refine PC.walk tok mixed cfg0 Try.func5 rfl Try.call5 (by simp) (by first | rfl | simp) ?_; refine vms1 Try.ntmps5 ?_
   refine callO.pc h8 ?_
   refine vms1 hl ?_
   refine callO.pc h10 ?_
   simp (maxSteps := 2000000) -implicitDefEqProofs +contextual (disch := first | assumption | omega | decide +kernel) only [push_cast, ↓capI, seval, Nat.reduceLeDiff, Nat.reduceEqDiff, reduceCtorEq, ↓reduceIte, findV]
   refine callO.pc h13 ?_
   refine vms0 ?_
   refine callO.pc pc9 ?_
   refine vms0 ?_
   refine endK.retA ?_; simp [evRes, getT, retV, Try.f5]
  | some best =>
   rw [hfr] at h10
   have hbl := find_len hfr
   have h13b := ok_val ho (hV best (by omega))
   obtain ⟨o1, o2⟩ := opt1 (fit_of ho) hsr hfr
   rw [o1, o2] at h13b
   have hlex : (vld t (hostP t y) true (hostP t x) l && La (autR p t.ports.length) 0 (sws l)) = true → best.length ≤ l.length ∧ (best.length = l.length → lexO (outs best) (outs l)) := fun hb => by
    rw [Bool.and_eq_true] at hb
    obtain ⟨best', h1, h2⟩ := ho2 l hb.1 hb.2
    rw [hfr] at h1
    cases h1
    exact h2
   generalize (vld t (hostP t y) true (hostP t x) l && La (autR p t.ports.length) 0 (sws l)) = b at h13 hlex
   rw [argV] at h10 h13 h13b
   simp only [List.cons_append, List.nil_append] at h13 h13b
   rw [slH] at h13 h13b ⊢
   cases b with
   | false =>
    refine PC.walk tok mixed cfg0 Try.func5 rfl Try.call5 (by simp) (by first | rfl | simp) ?_; refine vms1 Try.ntmps5 ?_
    refine callO.pc h8 ?_
    refine vms1 hl ?_
    refine callO.pc h10 ?_
    simp (maxSteps := 2000000) -implicitDefEqProofs +contextual (disch := first | assumption | omega | decide +kernel) only [push_cast, ↓capI, seval, Nat.reduceLeDiff, Nat.reduceEqDiff, reduceCtorEq, ↓reduceIte, findV, slH]
    refine callO.pc h13b ?_
    refine vms0 ?_
    refine callO.pc h13 ?_
    refine vms0 ?_
    refine callO.pc pc9 ?_
    refine vms0 ?_
    refine endK.retA ?_; simp [evRes, getT, retV, Try.f5]
   | true =>
    obtain ⟨hle, hlx⟩ := hlex rfl
    have hnl : ¬ ((l.length : Int) < (best.length : Int)) := by omega
    refine PC.walk tok mixed cfg0 Try.func5 rfl Try.call5 (by simp) (by first | rfl | simp) ?_; refine vms1 Try.ntmps5 ?_
    refine callO.pc h8 ?_
    refine vms1 hl ?_
    refine callO.pc h10 ?_
    simp (maxSteps := 2000000) -implicitDefEqProofs +contextual (disch := first | assumption | omega | decide +kernel) only [push_cast, ↓capI, seval, Nat.reduceLeDiff, Nat.reduceEqDiff, reduceCtorEq, ↓reduceIte, findV, slH]
    refine callO.pc h13b ?_
    refine vms0 ?_
    refine callO.pc h13 ?_
    refine vms1 hnl ?_
    refine T.lp tok mixed cfg0 (fun ((i : Nat)) => dd 2 (kp 1 (dd 4 (kp 1 (dd 1 (sv (.int .i64 (i : Int)) (dd 94 (nl)))))))) (fun H0 ((i : Nat)) => H0) (fun ((i : Nat)) => i ≤ l.length ∧ (best.length = l.length → lexO ((outs best).drop i) ((outs l).drop i))) (fun ((i : Nat)) => l.length - i) (0) ?_ ?_ ?_
    ·exact ⟨Nat.zero_le _, hlx⟩
    ·exact Gn.canon (J := _) (by first | rfl | (simp [List.append_nil, Top.encT, Top.slI, Top.slP, Top.slL, encQ]; done) | (simp [List.append_nil, Top.encT, Top.slI, Top.slP, Top.slL, encQ]; rfl)) (by simp [wk, putT, kp, dd, sv, nl]) (by simp [List.length_append]) (by simp [kp, dd, sv, nl]) (by simp)
    intro i hi
    obtain ⟨hi, hli⟩ := hi
    by_cases heq : best.length = l.length
    ·have heq2 : (l.length : Int) = (best.length : Int) := by omega
     by_cases hlt : i < l.length
     ·have hlb : i < best.length := by omega
      rcases lex_at hlb hlt (hli heq) with h1 | ⟨h1, h2⟩
      ·have h3 : ¬ l[i].out = best[i].out := by omega
       refine vms4 hlt hlb heq2 h3 ?_
       refine callG.pc1 pc9 ?_
       refine vms1 h1 ?_
       refine endK.retA ?_; simp [evRes, getT, retV, Try.f5]
      ·refine vms4 hlt hlb heq2 h1 ?_
       refine ⟨(i + 1), ⟨by omega, by first | exact h2 | exact fun _ => h2⟩, by (try simp only); omega, ?_⟩; exact Gn.canon (by first | rfl | (simp [List.append_nil, Top.encT, Top.slI, Top.slP, Top.slL, encQ]; rfl)) (by simp [wk]) (by simp [List.length_append]) (by simp) (by simp)
     ·refine vms2 hlt heq2 ?_
      refine callO.pc pc9 ?_
      refine vms0 ?_
      refine endK.retA ?_; simp [evRes, getT, retV, Try.f5]
    ·have heq2 : ¬ (l.length : Int) = (best.length : Int) := by omega
     by_cases hlt : i < l.length
     ·refine vms2 hlt heq2 ?_
      refine callO.pc pc9 ?_
      refine vms0 ?_
      refine endK.retA ?_; simp [evRes, getT, retV, Try.f5]
     ·refine vms2 hlt heq2 ?_
      refine callO.pc pc9 ?_
      refine vms0 ?_
      refine endK.retA ?_; simp [evRes, getT, retV, Try.f5]
theorem law5 (xs : List V) (h : TypA tt 8 [26, 29, 32] xs) : PC Try.prog 5 xs (.bool true) := by
 obtain ⟨v1, vs, cs, rfl, rfl, h1, h⟩ := typA_cons h
 obtain ⟨v2, vs, cs2, rfl, rfl, h2, h⟩ := typA_cons h
 obtain ⟨v3, vs, cs3, rfl, rfl, h3, h⟩ := typA_cons h
 obtain rfl := typA_nil h
 obtain ⟨a, ha⟩ := typ_T (m := 3) h1
 obtain ⟨x, hx⟩ := typ_Q (m := 4) h2
 obtain ⟨l, hl⟩ := typ_slH (m := 5) h3
 refine PC.lax ?_
 rw [laxs, laxs, laxs, laxs, ha, hx, hl]
 exact pc5 a x l
end Go.Proofs.Yticeakkgoafiaaa


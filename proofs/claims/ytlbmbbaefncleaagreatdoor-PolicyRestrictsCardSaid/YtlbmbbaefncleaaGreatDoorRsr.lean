/-
  Chapter 45: Restrict of the reference; the law of Restrict.
-/
import Derived.Test.YtlbmbbaefncleaaGreatDoorRst
import Derived.Test.YtlbmbbaefncleaaGreatDoorEql
import Derived.Test.YtlbmbbaefncleaaGreatDoorAwf
import Derived.Test.YtlbmbbaefncleaaGreatDoorLaw
set_option maxRecDepth 100000
set_option maxHeartbeats 4000000
set_option linter.all false
namespace Go.Proofs.YtlbmbbaefncleaaGreatDoor
open Go.Vm
def cfgB : Cfg := { lv := [40], ef := [], ord := [], em := [] }
attribute [local push_cast] cfgB encR slR cfg0 gfp_lenR gfd_lenR lfl_lenR Nat.mul_one Pd.slN Px.slN
theorem pc27n (l : List Ru) (n : List Pd.Nd) (hl : l.length ≤ 1000) (hn : n.length ≤ 100000) (h0 : ¬ Pd.checkP n = 0) : PC Tryz.prog 27 [slR l, Pd.slN n] (.sl true [] 0) := by
 refine PC.walk tok mixed cfgB Tryz.func27 rfl Tryz.call27 (by simp [Pd.bel_slN, Px.bel_slN, Pd.bel_Ns, Px.bel_Ns, belAll_append]) (by first | rfl | simp [Pd.bel_slN, Px.bel_slN, Pd.bel_Ns, Px.bel_Ns, belAll_append]) ?_; refine vms2 (len_flat Pd.lenN) Tryz.ntmps27 ?_
 refine T.lp tok mixed cfgB (fun (i : Nat) => kp 2 (dd 3 (sv (.sl true [] 0) (sv (.int .i64 i) (dd 65 (nl)))))) (fun H0 (i : Nat) => []) (fun (i : Nat) => i ≤ l.length) (fun (i : Nat) => l.length - i) (0) ?_ ?_ ?_
 ·exact Nat.zero_le _
 ·exact Gn.canon (J := []) (by first | rfl | (simp [List.append_nil]; done) | (simp [List.append_nil]; rfl)) (by simp [wk, slR, sum0, Pd.slN, Px.slN, first0, putT, kp, dd, sv, nl]) (by simp [List.length_append]) (by simp [Pd.bel_slN, Px.bel_slN, Pd.bel_Ns, Px.bel_Ns, belAll_append, kp, dd, sv, nl]) (by simp [Pd.bel_slN, Px.bel_slN, Pd.bel_Ns, Px.bel_Ns, belAll_append])
 rintro i hi
 by_cases hlt : i < l.length
 case neg =>
  refine vms2 (len_flat Pd.lenN) hlt ?_
  refine endK.ret ?_ (by first | rfl | simp [Pd.bel_slN, Px.bel_slN, Pd.bel_Ns, Px.bel_Ns, belAll_append]); simp [evRes, getT, retV, Tryz.f27]
 refine vms2 (len_flat Pd.lenN) hlt ?_
 refine callO.pc (Pd.pc58 n (by omega)) ?_
 refine vms3 (len_flat Pd.lenN) hlt h0 ?_
 refine ⟨i + 1, hlt, by (try simp only); omega, ?_⟩; exact Gn.canon (by first | rfl | (simp [List.append_nil]; rfl)) (by simp [wk, slR, sum0, Pd.slN, Px.slN, first0]) (by simp [List.length_append]) (by simp [Pd.bel_slN, Px.bel_slN, Pd.bel_Ns, Px.bel_Ns, belAll_append]) (by simp [Pd.bel_slN, Px.bel_slN, Pd.bel_Ns, Px.bel_Ns, belAll_append])
theorem and_more {n : List Pd.Nd} {r : Ru} : [V.int .i64 5, .int .i64 0, .int .u8 0, .int .u8 0] ++ r.p.flatMap Pd.encN ++ n.flatMap Pd.encN = (andN :: (r.p ++ n)).flatMap Pd.encN := by
 rw [List.flatMap_cons, List.flatMap_append, ← List.append_assoc]
 rfl
theorem fzs_app {id ver : Nat} {l : List V} : ∀ {xs ys : List V}, fzs id ver l (xs ++ ys) = fzs id ver l xs ++ fzs id ver l ys
 | [], _ => rfl
 | x :: xs, ys => by simp only [List.cons_append, fzs, fzs_app]
theorem fz_rule {n : List Pd.Nd} {r : Ru} {L : List Ru} : fzs 1 2 (V.int .i64 5 :: V.int .i64 0 :: V.int .u8 0 :: V.int .u8 0 :: (r.p.flatMap Pd.encN ++ n.flatMap Pd.encN))
  (L.flatMap encR ++ [V.int .i64 r.f, V.int .i64 r.t, V.buf 1 2 0 (1 + r.p.length + n.length) 4, V.sl false (r.q.flatMap Px.encN) r.q.length]) = L.flatMap encR ++ encR (andR n r) := by
 rw [fzs_app, fzs_ok (bel_Rs L)]
 congr 1
 have e := take_Pd (l := andN :: (r.p ++ n))
 rw [← and_more] at e
 have hl : (andN :: (r.p ++ n)).length = 1 + r.p.length + n.length := by simp; omega
 rw [hl] at e
 simp only [fzs, fz, Nat.beq, List.drop_zero]
 simp only [List.cons_append, List.nil_append] at e
 rw [e, encR, andR, Pd.slN, Px.slN, hl, ← and_more]
 rfl
theorem pc27 (l : List Ru) (n : List Pd.Nd) (hl : l.length ≤ 1000) (hs : smR l) (hn : n.length ≤ 100000) : PC Tryz.prog 27 [slR l, Pd.slN n] (slR (rstR n l)) := by
 by_cases h0 : Pd.checkP n = 0
 case neg =>
  rw [rstR, if_neg h0]
  exact PC.laxr (pc27n l n hl hn h0)
 rw [rstR, if_pos h0]
 refine PC.walk tok mixed cfgB Tryz.func27 rfl Tryz.call27 (by simp [Pd.bel_slN, Px.bel_slN, Pd.bel_Ns, Px.bel_Ns, belAll_append]) (by first | rfl | simp [Pd.bel_slN, Px.bel_slN, Pd.bel_Ns, Px.bel_Ns, belAll_append]) ?_; refine vms2 (len_flat Pd.lenN) Tryz.ntmps27 ?_
 refine T.lp tok mixed cfgB (fun ((i, v) : Nat × Nat) => kp 2 (dd 3 (sv (.buf 0 v 0 (firstR n l i).length 4) (sv (.int .i64 i) (dd 65 (nl)))))) (fun H0 ((i, v) : Nat × Nat) => [.cells v ((firstR n l i).flatMap encR)]) (fun ((i, v) : Nat × Nat) => i ≤ l.length) (fun ((i, v) : Nat × Nat) => l.length - i) ((0, 0)) ?_ ?_ ?_
 ·exact Nat.zero_le _
 ·refine (Gn.ownNil (t := 5) (sz := 4) rfl).trans ?_
  exact Gn.canon (J := []) (by first | rfl | (simp [List.append_nil]; done) | (simp [List.append_nil]; rfl)) (by simp [wk, slR, sum0, Pd.slN, Px.slN, first0, putT, kp, dd, sv, nl]) (by simp [List.length_append]) (by simp [Pd.bel_slN, Px.bel_slN, Pd.bel_Ns, Px.bel_Ns, belAll_append, kp, dd, sv, nl]) (by simp [Pd.bel_slN, Px.bel_slN, Pd.bel_Ns, Px.bel_Ns, belAll_append])
 rintro ⟨i, v⟩ hi
 by_cases hlt : i < l.length
 case neg =>
  have hi' : i = l.length := by simp only at hi hlt; omega
  subst hi'
  have e : firstR n l l.length = (l.filter (keepR n)).map (andR n) := by rw [firstR, List.take_length]
  simp (maxSteps := 2000000) -implicitDefEqProofs +contextual (disch := first | assumption | omega | decide +kernel) only [push_cast, ↓capI, seval, Nat.reduceLeDiff, Nat.reduceEqDiff, reduceCtorEq, ↓reduceIte, len_flat Pd.lenN, e]
  refine endK.gn (Gn.freeze (id := 0) rfl) ?_; refine endK.ret ?_ (by first | rfl | simp [Pd.bel_slN, Px.bel_slN, Pd.bel_Ns, Px.bel_Ns, belAll_append]); simp [Pd.bel_slN, Px.bel_slN, Pd.bel_Ns, Px.bel_Ns, belAll_append, fzs_ok, imp, lenOK_iff, List.take_of_length_le, evRes, getT, getO, setO, fzs, fz, fzH, Nat.beq, retV, Res.then, ldT, ldR, mkV, getV, cfgB, tt_3, tt_4, tt_5, tt_9, tt_22, tt_25, tt_54, tt_58, tt_60, tt_104, tt_176, encR, slR, cfg0, get_flat_part lenR, get_flat_drop lenR, len_flat lenR, len_flat Pd.lenN, Nat.mul_one, Pd.slN, Px.slN, Tryz.f27,  take_R, e]
 have hm := hs _ (List.getElem_mem hlt)
 have hfl := first_len (n := n) (l := l) (i := i)
 have hlen := len_flat lenR (firstR n l i)
 refine vms2 (len_flat Pd.lenN) hlt ?_
 refine callO.pc (Pd.pc58 n (by omega)) ?_
 refine vms3 (len_flat Pd.lenN) hlt h0 ?_
 refine callO.pc (Pd.pc58 l[i].p (by omega)) ?_
 by_cases hc : Pd.checkP l[i].p = 0
 case neg =>
  have hk : ¬ keepR n l[i] = true := by simp [keepR, hc]
  refine vms3 (len_flat Pd.lenN) hlt hc ?_
  refine ⟨(i + 1, v), by simp only; omega, by (try simp only); omega, ?_⟩; exact Gn.canon (by first | rfl | (simp [List.append_nil, first_no hlt hk]; rfl)) (by simp [wk, slR, sum0, Pd.slN, Px.slN, first0, first_no hlt hk]) (by simp [List.length_append]) (by simp [Pd.bel_slN, Px.bel_slN, Pd.bel_Ns, Px.bel_Ns, belAll_append]) (by simp [Pd.bel_slN, Px.bel_slN, Pd.bel_Ns, Px.bel_Ns, belAll_append])
 by_cases hz : 1 + l[i].p.length + n.length ≤ 24
 case neg =>
  have hk : ¬ keepR n l[i] = true := by simp [keepR, hz]
  have hz' : 24 < 1 + l[i].p.length + n.length := by omega
  refine vms4 (len_flat Pd.lenN) hlt hc hz' ?_
  refine ⟨(i + 1, v), by simp only; omega, by (try simp only); omega, ?_⟩; exact Gn.canon (by first | rfl | (simp [List.append_nil, first_no hlt hk]; rfl)) (by simp [wk, slR, sum0, Pd.slN, Px.slN, first0, first_no hlt hk]) (by simp [List.length_append]) (by simp [Pd.bel_slN, Px.bel_slN, Pd.bel_Ns, Px.bel_Ns, belAll_append]) (by simp [Pd.bel_slN, Px.bel_slN, Pd.bel_Ns, Px.bel_Ns, belAll_append])
 have hk : keepR n l[i] = true := by simp [keepR, hc, hz]
 have e1 := first_yes hlt hk
 simp (maxSteps := 2000000) -implicitDefEqProofs +contextual (disch := first | assumption | omega | decide +kernel) only [push_cast, ↓capI, seval, Nat.reduceLeDiff, Nat.reduceEqDiff, reduceCtorEq, ↓reduceIte, len_flat Pd.lenN, hlt, hc, hz, hlen, ones_Pd, take_Pd]
 refine ⟨(i + 1, v + 1), by simp only; omega, by (try simp only); omega, ?_⟩; refine (Gn.freeze (id := 1) rfl).trans ?_; exact Gn.canon (by first | rfl | (simp [List.append_nil, fzs, fz, fzs_ok, fzH, setO, getO, Nat.beq, List.take_of_length_le, Pd.bel_slN, Px.bel_slN, Pd.bel_Ns, Px.bel_Ns, belAll_append, e1, encR, andR, Pd.slN, Px.slN, fz_rule]; done) | (simp [List.append_nil, fzs, fz, fzs_ok, fzH, setO, getO, Nat.beq, List.take_of_length_le, Pd.bel_slN, Px.bel_slN, Pd.bel_Ns, Px.bel_Ns, belAll_append, e1, encR, andR, Pd.slN, Px.slN, fz_rule]; rfl)) (by simp [wk, slR, sum0, Pd.slN, Px.slN, first0, fzs, fz, fzs_ok, fzH, setO, getO, Nat.beq, List.take_of_length_le, Pd.bel_slN, Px.bel_slN, Pd.bel_Ns, Px.bel_Ns, belAll_append, e1, encR, andR, Pd.slN, Px.slN, fz_rule, cfgB, tt_3, tt_4, tt_5, tt_9, tt_22, tt_25, tt_54, tt_58, tt_60, tt_104, tt_176, encR, slR, cfg0, get_flat_part lenR, get_flat_drop lenR, len_flat lenR, len_flat Pd.lenN, Nat.mul_one, Pd.slN, Px.slN]) (by simp [List.length_append]) (by simp [Pd.bel_slN, Px.bel_slN, Pd.bel_Ns, Px.bel_Ns, belAll_append]) (by simp [Pd.bel_slN, Px.bel_slN, Pd.bel_Ns, Px.bel_Ns, belAll_append])
end Go.Proofs.YtlbmbbaefncleaaGreatDoor

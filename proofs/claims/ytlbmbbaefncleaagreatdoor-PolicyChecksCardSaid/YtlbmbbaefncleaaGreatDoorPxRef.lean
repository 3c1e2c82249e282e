/-
  Chapter 41: the reference's check of a list of nodes.
-/
import Derived.Test.YtlbmbbaefncleaaGreatDoorPxChk
set_option maxRecDepth 100000
set_option maxHeartbeats 4000000
set_option linter.all false
namespace Go.Proofs.YtlbmbbaefncleaaGreatDoor.Px
open Go.Vm
attribute [local push_cast] fmN fm0 take_N toN1 slN_nil encN slN cfg0 gfp_lenN gfd_lenN lfl_lenN
theorem pc144 (o : Int) : PC Tryz.prog 144 [.int .i64 o] (.int .i64 (arity o)) := by
 refine PC.walk tok mixed cfg0 Tryz.func144 rfl Tryz.call144 (by simp) (by first | rfl | simp) ?_; refine vms1 Tryz.ntmps144 ?_
 refine ⟨fun h => ?_, fun h1 => ⟨fun h => ?_, fun h2 => ⟨fun h => ?_, fun h3 => ⟨fun h => ?_, fun h4 => ⟨fun h => ?_, fun h5 => ⟨fun h => ?_, fun h6 => ?_⟩⟩⟩⟩⟩⟩
 ·refine endK.retA ?_; simp [evRes, getT, retV, Tryz.f144]
  rfl
 ·refine endK.retA ?_; simp [evRes, getT, retV, Tryz.f144]
  rfl
 ·refine endK.retA ?_; simp [evRes, getT, retV, Tryz.f144]
  rfl
 ·refine endK.retA ?_; simp [evRes, getT, retV, Tryz.f144]
  rfl
 ·refine endK.retA ?_; simp [evRes, getT, retV, Tryz.f144]
  rfl
 ·refine endK.retA ?_; simp [evRes, getT, retV, Tryz.f144]
  rfl
 ·refine endK.retA ?_; simp [evRes, getT, retV, Tryz.f144,  arity, h1, h2, h3, h4, h5, h6, or_self, if_false]
def repS (f : Nat → Nat × Int) : Nat → Nat → Nat × Int
 | 0, a => (a, 0)
 | n + 1, a => if (f a).2 ≠ 0 then f a else repS f n (f a).1
def scan (sw : Int) : Nat → List Nd → Nat → Nat × Int
 | 0, _, a => (a, 3)
 | k + 1, l, a => match l[a]? with
  | none => (a, 3)
  | some x => if chk1 sw x ≠ 0 then (a, chk1 sw x) else repS (scan sw k l) (arity x.op).toNat (a + 1)
theorem repS_le {f : Nat → Nat × Int} {m : Nat} (h : ∀ a, a ≤ m → (f a).1 ≤ m) : ∀ n a, a ≤ m → (repS f n a).1 ≤ m
 | 0, a, ha => ha
 | n + 1, a, ha => by
  rw [repS]
  split
  ·exact h a ha
  ·exact repS_le h n _ (h a ha)
theorem scan_le (sw : Int) : ∀ k l a, a ≤ l.length → (scan sw k l a).1 ≤ l.length
 | 0, l, a, h => h
 | k + 1, l, a, h => by
  rw [scan]
  split
  ·exact h
  ·rename_i x hx
   split
   ·exact h
   ·exact repS_le (scan_le sw k l) _ _ (List.getElem?_eq_some_iff.1 hx).1
theorem repS_ge {f : Nat → Nat × Int} (h : ∀ a, a ≤ (f a).1) : ∀ n a, a ≤ (repS f n a).1
 | 0, a => Nat.le_refl _
 | n + 1, a => by
  rw [repS]
  split
  ·exact h a
  ·exact Nat.le_trans (h a) (repS_ge h n _)
theorem scan_ge (sw : Int) : ∀ k l a, a ≤ (scan sw k l a).1
 | 0, l, a => Nat.le_refl _
 | k + 1, l, a => by
  rw [scan]
  split
  ·exact Nat.le_refl _
  ·split
   ·exact Nat.le_refl _
   ·exact Nat.le_trans (Nat.le_succ _) (repS_ge (scan_ge sw k l) _ _)
theorem repS_rep {l : List Nd} {f : Nat → Nat × Int} {g : List Nd → List Nd × Int} (h : ∀ a, a ≤ l.length → (f a).1 ≤ l.length ∧ (f a).2 = (g (l.drop a)).2 ∧ ((f a).2 = 0 → l.drop (f a).1 = (g (l.drop a)).1)) :
  ∀ n a, a ≤ l.length → (repS f n a).2 = (rep g n (l.drop a)).2 ∧ ((repS f n a).2 = 0 → l.drop (repS f n a).1 = (rep g n (l.drop a)).1)
 | 0, a, ha => ⟨rfl, fun _ => rfl⟩
 | n + 1, a, ha => by
  obtain ⟨h1, h2, h3⟩ := h a ha
  rw [repS, rep, ← h2]
  by_cases he : (f a).2 = 0
  ·rw [if_neg (fun h => h he), if_neg (fun h => h he), ← h3 he]
   exact repS_rep h n _ h1
  ·rw [if_pos he, if_pos he]
   exact ⟨rfl, fun h => absurd h he⟩
theorem scan_chk (sw : Int) : ∀ k l a, a ≤ l.length → (scan sw k l a).2 = (chk sw k (l.drop a)).2 ∧ ((scan sw k l a).2 = 0 → l.drop (scan sw k l a).1 = (chk sw k (l.drop a)).1)
 | 0, l, a, ha => by
  have : (chk sw 0 (l.drop a)).2 = 3 := by cases l.drop a <;> rfl
  rw [this]
  exact ⟨rfl, fun h => by simp [scan] at h⟩
 | k + 1, l, a, ha => by
  by_cases h : a < l.length
  ·rw [List.drop_eq_getElem_cons h, scan, List.getElem?_eq_getElem h, chk]
   simp only
   by_cases hc : chk1 sw l[a] = 0
   ·rw [if_neg (fun h => h hc), if_neg (fun h => h hc)]
    exact repS_rep (fun b hb => ⟨scan_le sw k l b hb, scan_chk sw k l b hb⟩) _ _ h
   ·rw [if_pos hc, if_pos hc]
    exact ⟨rfl, fun h => absurd h hc⟩
  ·rw [List.drop_of_length_le (by omega), scan, List.getElem?_eq_none (by omega)]
   exact ⟨rfl, fun h => by simp at h⟩
def encIE (r : Nat × Int) : V := .tup [.int .i64 r.1, .int .i64 r.2]
theorem encIE_d (r : Nat × Int) : encIE r = .tup [.int .i64 r.1, .int .i64 r.2] := rfl
theorem encIE_ok {r : Nat × Int} (h : r.2 = 0) : encIE r = .tup [.int .i64 r.1, .int .i64 0] := by
 rw [encIE, h]
theorem arity_le (o : Int) : arity o ≤ 2 := by
 unfold arity
 split
 ·decide
 split
 ·decide
 split <;> decide
theorem pc96 (sw : Int) : ∀ (k : Nat) (l : List Nd) (a : Nat), a ≤ l.length → l.length - a ≤ k → l.length ≤ 4000000 → PC Tryz.prog 96 [slN l, .int .i64 a, .int .i64 sw] (encIE (scan sw k l a)) := by
 intro k
 induction k with
 | zero =>
  intro l a ha hl _
  have hla : (l.length : Int) ≤ a := by omega
  refine PC.walk tok mixed cfg0 Tryz.func96 rfl Tryz.call96 (by simp) (by first | rfl | simp) ?_; refine vms1 Tryz.ntmps96 ?_
  refine endK.retA ?_; simp [evRes, getT, retV, Tryz.f96,  scan, encIE]
 | succ k ih =>
  intro l a ha hl hm
  by_cases hlt : a < l.length
  case neg =>
   have hla : (l.length : Int) ≤ a := by omega
   have hn : l[a]? = none := List.getElem?_eq_none (by omega)
   refine PC.walk tok mixed cfg0 Tryz.func96 rfl Tryz.call96 (by simp) (by first | rfl | simp) ?_; refine vms1 Tryz.ntmps96 ?_
   refine endK.retA ?_; simp [evRes, getT, retV, Tryz.f96,  scan, encIE, hn]
  have hx : l[a]? = some l[a] := List.getElem?_eq_getElem hlt
  have hs : scan sw (k + 1) l a = if chk1 sw l[a] ≠ 0 then (a, chk1 sw l[a]) else repS (scan sw k l) (arity l[a].op).toNat (a + 1) := by
   rw [scan, hx]
  rw [hs]
  generalize hX : l[a] = x at hs hx ⊢
  obtain ⟨op, n⟩ := x
  simp only at hs hx
  have h39 := pc144 op
  by_cases ha1 : arity op < 0
  ·have hc : chk1 sw ⟨op, n⟩ = 11 := by rw [chk1, if_pos ha1]
   rw [hc, if_pos (by decide)]
   refine PC.walk tok mixed cfg0 Tryz.func96 rfl Tryz.call96 (by simp) (by first | rfl | simp) ?_; refine vms1 Tryz.ntmps96 ?_
   refine vms1 hX ?_
   refine callO.pc h39 ?_
   refine vms1 ha1 ?_
   refine endK.retA ?_; simp [evRes, getT, retV, Tryz.f96,  encIE]
  obtain ⟨m, hA⟩ : ∃ m : Nat, arity op = (m : Int) := ⟨(arity op).toNat, by omega⟩
  by_cases hb : op = 3 ∧ badN sw ⟨op, n⟩
  ·have hc : chk1 sw ⟨op, n⟩ = 9 := by rw [chk1, if_neg ha1, if_pos hb]
   rw [hc, if_pos (by decide)]
   obtain ⟨h3, hb⟩ := hb
   by_cases b1 : n < 0
   ·refine PC.walk tok mixed cfg0 Tryz.func96 rfl Tryz.call96 (by simp) (by first | rfl | simp) ?_; refine vms1 Tryz.ntmps96 ?_
    refine vms1 hX ?_
    refine callO.pc h39 ?_
    simp (maxSteps := 2000000) -implicitDefEqProofs +contextual (disch := first | assumption | omega | decide +kernel) only [push_cast, ↓capI, seval, Nat.reduceLeDiff, Nat.reduceEqDiff, reduceCtorEq, ↓reduceIte, ha1, hX, h3, b1]
    refine endK.retA ?_; simp [evRes, getT, retV, Tryz.f96,  encIE]
   by_cases b2 : sw ≤ n
   ·refine PC.walk tok mixed cfg0 Tryz.func96 rfl Tryz.call96 (by simp) (by first | rfl | simp) ?_; refine vms1 Tryz.ntmps96 ?_
    refine vms1 hX ?_
    refine callO.pc h39 ?_
    simp (maxSteps := 2000000) -implicitDefEqProofs +contextual (disch := first | assumption | omega | decide +kernel) only [push_cast, ↓capI, seval, Nat.reduceLeDiff, Nat.reduceEqDiff, reduceCtorEq, ↓reduceIte, ha1, hX, h3, b1, b2]
    refine endK.retA ?_; simp [evRes, getT, retV, Tryz.f96,  encIE]
   have b3 : 999999999 < n := by rcases hb with h | h | h <;> simp only at h <;> omega
   refine PC.walk tok mixed cfg0 Tryz.func96 rfl Tryz.call96 (by simp) (by first | rfl | simp) ?_; refine vms1 Tryz.ntmps96 ?_
   refine vms1 hX ?_
   refine callO.pc h39 ?_
   simp (maxSteps := 2000000) -implicitDefEqProofs +contextual (disch := first | assumption | omega | decide +kernel) only [push_cast, ↓capI, seval, Nat.reduceLeDiff, Nat.reduceEqDiff, reduceCtorEq, ↓reduceIte, ha1, hX, h3, b1, b2, b3]
   refine endK.retA ?_; simp [evRes, getT, retV, Tryz.f96,  encIE]
  have hc : chk1 sw ⟨op, n⟩ = 0 := by rw [chk1, if_neg ha1, if_neg hb]
  rw [hc, if_neg (fun h => h rfl), hA, Int.toNat_natCast]
  have hle := arity_le op
  rw [hA] at h39
  have ha2 : ¬ (m : Int) < 0 := by omega
  by_cases h3 : op = 3
  ·subst h3
   have b0 : ¬ badN sw ⟨3, n⟩ := fun h => hb ⟨rfl, h⟩
   have b1 : ¬ n < 0 := fun h => b0 (.inl h)
   have b2 : ¬ sw ≤ n := fun h => b0 (.inr (.inl h))
   have b3 : ¬ 999999999 < n := fun h => b0 (.inr (.inr h))
   refine PC.walk tok mixed cfg0 Tryz.func96 rfl Tryz.call96 (by simp) (by first | rfl | simp) ?_; refine vms1 Tryz.ntmps96 ?_
   refine vms1 hX ?_
   refine callO.pc h39 ?_
   simp (maxSteps := 2000000) -implicitDefEqProofs +contextual (disch := first | assumption | omega | decide +kernel) only [push_cast, ↓capI, seval, Nat.reduceLeDiff, Nat.reduceEqDiff, reduceCtorEq, ↓reduceIte, ha2, hX, b1, b2, b3]
   refine T.lp tok mixed cfg0 (fun ((i, b) : Nat × Nat) => kp 1 (dd 1 (kp 1 (dd 5 (kp 1 (sv (.int .i64 b) (sv (.int .i64 i) (dd 68 (nl))))))))) (fun H0 ((i, b) : Nat × Nat) => []) (fun ((i, b) : Nat × Nat) => i ≤ m ∧ b ≤ l.length ∧ a < b ∧ repS (scan sw k l) (m - i) b = repS (scan sw k l) m (a + 1)) (fun ((i, b) : Nat × Nat) => m - i) ((0, a + 1)) ?_ ?_ ?_
   ·exact ⟨Nat.zero_le _, hlt, Nat.lt_succ_self _, rfl⟩
   ·exact Gn.canon (J := []) (by first | rfl | (simp [List.append_nil]; done) | (simp [List.append_nil]; rfl)) (by simp [wk, slN, putT, kp, dd, sv, nl]) (by simp [List.length_append]) (by simp [kp, dd, sv, nl]) (by simp)
   rintro ⟨i, b⟩ ⟨hi, hb', hab, hr⟩
   by_cases hin : i < m
   ·rw [show m - i = (m - (i + 1)) + 1 by omega, repS] at hr
    have hge := scan_ge sw k l b
    have hle := scan_le sw k l b hb'
    refine vms0 ?_
    refine callO.pc (ih l b hb' (by omega) hm) ?_
    by_cases he : (scan sw k l b).2 = 0
    ·rw [if_neg (fun h => h he)] at hr
     rw [encIE_ok he]
     refine vms1 he ?_
     refine ⟨(i + 1, (scan sw k l b).1), ⟨by (try simp only); omega, by (try simp only); omega, by (try simp only); omega, hr⟩, by (try simp only); omega, ?_⟩; exact Gn.canon (by first | rfl | (simp [List.append_nil]; rfl)) (by simp [wk, slN]) (by simp [List.length_append]) (by simp) (by simp)
    ·rw [if_pos he] at hr
     rw [encIE_d (scan sw k l b)]
     refine vms1 he ?_
     rw [← hr, encIE]
     refine endK.retA ?_; simp [evRes, getT, retV, Tryz.f96]
   ·rw [show m - i = 0 by omega, repS] at hr
    refine vms0 ?_
    rw [← hr, encIE]
    refine endK.retA ?_; simp [evRes, getT, retV, Tryz.f96]
  ·refine PC.walk tok mixed cfg0 Tryz.func96 rfl Tryz.call96 (by simp) (by first | rfl | simp) ?_; refine vms1 Tryz.ntmps96 ?_
   refine vms1 hX ?_
   refine callO.pc h39 ?_
   refine vms3 ha2 hX h3 ?_
   refine T.lp tok mixed cfg0 (fun ((i, b) : Nat × Nat) => kp 1 (dd 1 (kp 1 (dd 5 (kp 1 (sv (.int .i64 b) (sv (.int .i64 i) (dd 68 (nl))))))))) (fun H0 ((i, b) : Nat × Nat) => []) (fun ((i, b) : Nat × Nat) => i ≤ m ∧ b ≤ l.length ∧ a < b ∧ repS (scan sw k l) (m - i) b = repS (scan sw k l) m (a + 1)) (fun ((i, b) : Nat × Nat) => m - i) ((0, a + 1)) ?_ ?_ ?_
   ·exact ⟨Nat.zero_le _, hlt, Nat.lt_succ_self _, rfl⟩
   ·exact Gn.canon (J := []) (by first | rfl | (simp [List.append_nil]; done) | (simp [List.append_nil]; rfl)) (by simp [wk, slN, putT, kp, dd, sv, nl]) (by simp [List.length_append]) (by simp [kp, dd, sv, nl]) (by simp)
   rintro ⟨i, b⟩ ⟨hi, hb', hab, hr⟩
   by_cases hin : i < m
   ·rw [show m - i = (m - (i + 1)) + 1 by omega, repS] at hr
    have hge := scan_ge sw k l b
    have hle := scan_le sw k l b hb'
    refine vms0 ?_
    refine callO.pc (ih l b hb' (by omega) hm) ?_
    by_cases he : (scan sw k l b).2 = 0
    ·rw [if_neg (fun h => h he)] at hr
     rw [encIE_ok he]
     refine vms1 he ?_
     refine ⟨(i + 1, (scan sw k l b).1), ⟨by (try simp only); omega, by (try simp only); omega, by (try simp only); omega, hr⟩, by (try simp only); omega, ?_⟩; exact Gn.canon (by first | rfl | (simp [List.append_nil]; rfl)) (by simp [wk, slN]) (by simp [List.length_append]) (by simp) (by simp)
    ·rw [if_pos he] at hr
     rw [encIE_d (scan sw k l b)]
     refine vms1 he ?_
     rw [← hr, encIE]
     refine endK.retA ?_; simp [evRes, getT, retV, Tryz.f96]
   ·rw [show m - i = 0 by omega, repS] at hr
    refine vms0 ?_
    rw [← hr, encIE]
    refine endK.retA ?_; simp [evRes, getT, retV, Tryz.f96]
theorem pc124 (p : Pr) (l : List Nd) (a : Nat) (r : List Nd) (hp : scan 1000000000 (l.length - a) l a = (a + (flat p).length, 0)) (ha : a ≤ l.length) (hn : a + (flat p).length ≤ l.length) (hl : l.length ≤ 4000000) :
  PC Tryz.prog 124 [slN l, .int .i64 a] (.int .i64 ((a : Int) + (flat p).length)) := by
 have hs := pc96 1000000000 (l.length - a) l a ha (Nat.le_refl _) hl
 rw [hp, encIE] at hs
 refine PC.walk tok mixed cfg0 Tryz.func124 rfl Tryz.call124 (by simp) (by first | rfl | simp) ?_; refine vms1 Tryz.ntmps124 ?_
 refine callO.pc hs ?_
 refine vms0 ?_
 refine endK.retA ?_; simp [evRes, getT, retV, Tryz.f124,  Int.natCast_add]
theorem pc59 (sw : Int) (l : List Nd) (hl : l.length ≤ 4000000) : PC Tryz.prog 59 [slN l, .int .i64 sw] (.int .i64 (checkP sw l)) := by
 by_cases h : 24 < l.length
 ·refine PC.walk tok mixed cfg0 Tryz.func59 rfl Tryz.call59 (by simp) (by first | rfl | simp) ?_; refine vms1 Tryz.ntmps59 ?_
  refine endK.retA ?_; simp [evRes, getT, retV, Tryz.f59,  checkP, h]
 refine PC.walk tok mixed cfg0 Tryz.func59 rfl Tryz.call59 (by simp) (by first | rfl | simp) ?_; refine vms1 Tryz.ntmps59 ?_
 have hs := scan_chk sw l.length l 0 (Nat.zero_le _)
 rw [List.drop_zero] at hs
 refine callO.pc (pc96 sw l.length l 0 (Nat.zero_le _) (Nat.sub_le _ _) hl) ?_
 have hle := scan_le sw l.length l 0 (Nat.zero_le _)
 rw [checkP, if_neg h, ← hs.1]
 by_cases he : (scan sw l.length l 0).2 = 0
 ·rw [encIE_ok he]
  have h2 := hs.2 he
  by_cases hn : (scan sw l.length l 0).1 < l.length
  ·rw [if_pos ⟨he, fun e => by rw [e] at h2; have := List.drop_eq_nil_iff.1 h2; omega⟩]
   refine vms1 hn ?_
   refine endK.retA ?_; simp [evRes, getT, retV, Tryz.f59]
  ·rw [if_neg (fun g => g.2 (by rw [← h2]; exact List.drop_eq_nil_iff.2 (by omega))), he]
   refine vms1 hn ?_
   refine endK.retA ?_; simp [evRes, getT, retV, Tryz.f59]
 ·rw [if_neg (fun g => he g.1), encIE]
  refine vms1 he ?_
  refine endK.retA ?_; simp [evRes, getT, retV, Tryz.f59]
end Go.Proofs.YtlbmbbaefncleaaGreatDoor.Px

/-
  Chapter 44: the reference's check of a predicate.
-/
import Derived.Test.YtlbmbbaefncleaaGreatDoorPdChk
set_option maxRecDepth 100000
set_option maxHeartbeats 4000000
set_option linter.all false
namespace Go.Proofs.YtlbmbbaefncleaaGreatDoor.Pd
open Go.Vm
def repS (f : Nat → Nat × Int) : Nat → Nat → Nat × Int
 | 0, a => (a, 0)
 | n + 1, a => if (f a).2 ≠ 0 then f a else repS f n (f a).1
def scan : Nat → List Nd → Nat → Nat × Int
 | 0, _, a => (a, 3)
 | k + 1, l, a => match l[a]? with
  | none => (a, 3)
  | some x => if chk1 x ≠ 0 then (a, chk1 x) else repS (scan k l) (arity x.op).toNat (a + 1)
theorem repS_le {f : Nat → Nat × Int} {m : Nat} (h : ∀ a, a ≤ m → (f a).1 ≤ m) : ∀ n a, a ≤ m → (repS f n a).1 ≤ m
 | 0, a, ha => ha
 | n + 1, a, ha => by
  rw [repS]
  split
  ·exact h a ha
  ·exact repS_le h n _ (h a ha)
theorem scan_le : ∀ k l a, a ≤ l.length → (scan k l a).1 ≤ l.length
 | 0, l, a, h => h
 | k + 1, l, a, h => by
  rw [scan]
  split
  ·exact h
  ·rename_i x hx
   split
   ·exact h
   ·exact repS_le (scan_le k l) _ _ (List.getElem?_eq_some_iff.1 hx).1
theorem repS_ge {f : Nat → Nat × Int} (h : ∀ a, a ≤ (f a).1) : ∀ n a, a ≤ (repS f n a).1
 | 0, a => Nat.le_refl _
 | n + 1, a => by
  rw [repS]
  split
  ·exact h a
  ·exact Nat.le_trans (h a) (repS_ge h n _)
theorem scan_ge : ∀ k l a, a ≤ (scan k l a).1
 | 0, l, a => Nat.le_refl _
 | k + 1, l, a => by
  rw [scan]
  split
  ·exact Nat.le_refl _
  ·split
   ·exact Nat.le_refl _
   ·exact Nat.le_trans (Nat.le_succ _) (repS_ge (scan_ge k l) _ _)
theorem arity_mid {o : Int} {n : Nat} (h : 1 ≤ o ∧ o ≤ 6) (hn : arity o = n) (i : Nat) : i < n ↔ i < 2 ∧ (4 < o ∨ o = 4 ∧ i = 0) := by
 unfold arity at hn
 split at hn
 ·omega
 split at hn
 ·omega
 split at hn <;> omega
theorem repS_rep {l : List Nd} {f : Nat → Nat × Int} {g : List Nd → List Nd × Int} (h : ∀ a, a ≤ l.length → (f a).1 ≤ l.length ∧ (f a).2 = (g (l.drop a)).2 ∧ ((f a).2 = 0 → l.drop (f a).1 = (g (l.drop a)).1)) :
  ∀ n a, a ≤ l.length → (repS f n a).2 = (rep g n (l.drop a)).2 ∧ ((repS f n a).2 = 0 → l.drop (repS f n a).1 = (rep g n (l.drop a)).1)
 | 0, a, ha => ⟨rfl, fun _ => rfl⟩
 | n + 1, a, ha => by
  obtain ⟨h1, h2, h3⟩ := h a ha
  rw [repS, rep, ← h2]
  by_cases he : (f a).2 = 0
  ·rw [if_neg (fun h => h he), if_neg (fun h => h he), ← h3 he]
   exact repS_rep h n _ h1
  ·rw [if_pos he, if_pos he]
   exact ⟨rfl, fun h => absurd h he⟩
theorem scan_chk : ∀ k l a, a ≤ l.length → (scan k l a).2 = (chk k (l.drop a)).2 ∧ ((scan k l a).2 = 0 → l.drop (scan k l a).1 = (chk k (l.drop a)).1)
 | 0, l, a, ha => by
  have : (chk 0 (l.drop a)).2 = 3 := by cases l.drop a <;> rfl
  rw [this]
  exact ⟨rfl, fun h => by simp [scan] at h⟩
 | k + 1, l, a, ha => by
  by_cases h : a < l.length
  ·rw [List.drop_eq_getElem_cons h, scan, List.getElem?_eq_getElem h, chk]
   simp only
   by_cases hc : chk1 l[a] = 0
   ·rw [if_neg (fun h => h hc), if_neg (fun h => h hc)]
    exact repS_rep (fun b hb => ⟨scan_le k l b hb, scan_chk k l b hb⟩) _ _ h
   ·rw [if_pos hc, if_pos hc]
    exact ⟨rfl, fun h => absurd h hc⟩
  ·rw [List.drop_of_length_le (by omega), scan, List.getElem?_eq_none (by omega)]
   exact ⟨rfl, fun h => by simp at h⟩
def encIE (r : Nat × Int) : V := .tup [.int .i64 r.1, .int .i64 r.2]
theorem encIE_d (r : Nat × Int) : encIE r = .tup [.int .i64 r.1, .int .i64 r.2] := rfl
theorem encIE_ok {r : Nat × Int} (h : r.2 = 0) : encIE r = .tup [.int .i64 r.1, .int .i64 0] := by
 rw [encIE, h]
theorem and_self_iff8 (v m : UInt8) : (v &&& m = v) ↔ (v &&& ~~~ m = 0) := by
 constructor
 ·intro h
  apply UInt8.toBitVec_inj.1
  have h' := UInt8.toBitVec_inj.2 h
  simp only [UInt8.toBitVec_and, UInt8.toBitVec_not] at h' ⊢
  apply BitVec.eq_of_getLsbD_eq
  intro i hi
  have hb := congrArg (fun x => x.getLsbD i) h'
  simp only [BitVec.getLsbD_and, BitVec.getLsbD_not] at hb ⊢
  simp only [hi, decide_true, Bool.true_and]
  revert hb
  cases v.toBitVec.getLsbD i <;> cases m.toBitVec.getLsbD i <;> simp
 ·intro h
  apply UInt8.toBitVec_inj.1
  have h' := UInt8.toBitVec_inj.2 h
  simp only [UInt8.toBitVec_and, UInt8.toBitVec_not] at h' ⊢
  apply BitVec.eq_of_getLsbD_eq
  intro i hi
  have hb := congrArg (fun x => x.getLsbD i) h'
  simp only [BitVec.getLsbD_and, BitVec.getLsbD_not] at hb ⊢
  simp only [hi, decide_true, Bool.true_and] at hb
  revert hb
  cases v.toBitVec.getLsbD i <;> cases m.toBitVec.getLsbD i <;> simp
attribute [local push_cast] encF encN slN cfg0 gfp_lenN gfd_lenN lfl_lenN
theorem pc95 : ∀ (k : Nat) (l : List Nd) (a : Nat), a ≤ l.length → l.length - a ≤ k → l.length ≤ 4000000 → PC Tryz.prog 95 [slN l, .int .i64 a] (encIE (scan k l a)) := by
 intro k
 induction k with
 | zero =>
  intro l a ha hl _
  have hla : (l.length : Int) ≤ a := by omega
  refine PC.walk tok mixed cfg0 Tryz.func95 rfl Tryz.call95 (by simp) (by first | rfl | simp) ?_; refine vms1 Tryz.ntmps95 ?_
  refine endK.retA ?_; simp [evRes, getT, retV, Tryz.f95,  scan, encIE]
 | succ k ih =>
  intro l a ha hl hm
  by_cases hlt : a < l.length
  case neg =>
   have hla : (l.length : Int) ≤ a := by omega
   have hn : l[a]? = none := List.getElem?_eq_none (by omega)
   refine PC.walk tok mixed cfg0 Tryz.func95 rfl Tryz.call95 (by simp) (by first | rfl | simp) ?_; refine vms1 Tryz.ntmps95 ?_
   refine endK.retA ?_; simp [evRes, getT, retV, Tryz.f95,  scan, encIE, hn]
  have hx : l[a]? = some l[a] := List.getElem?_eq_getElem hlt
  have hs : scan (k + 1) l a = if chk1 l[a] ≠ 0 then (a, chk1 l[a]) else repS (scan k l) (arity l[a].op).toNat (a + 1) := by
   rw [scan, hx]
  rw [hs]
  have har : ¬ arity l[a].op < 0 ↔ 1 ≤ l[a].op ∧ l[a].op ≤ 6 := by
   unfold arity
   split
   ·omega
   split
   ·omega
   split <;> omega
  generalize hX : l[a] = x at hs har hx ⊢
  obtain ⟨op, fd, v, m⟩ := x
  simp only at hs har hx
  by_cases ha1 : arity op < 0
  ·have hc : chk1 ⟨op, fd, v, m⟩ = 11 := by rw [chk1, if_pos ha1]
   rw [hc, if_pos (by decide)]
   by_cases h1 : op < 1
   ·refine PC.walk tok mixed cfg0 Tryz.func95 rfl Tryz.call95 (by simp) (by first | rfl | simp) ?_; refine vms1 Tryz.ntmps95 ?_
    refine vms2 hX h1 ?_
    refine endK.retA ?_; simp [evRes, getT, retV, Tryz.f95,  encIE]
   ·have h6 : 6 < op := by omega
    refine PC.walk tok mixed cfg0 Tryz.func95 rfl Tryz.call95 (by simp) (by first | rfl | simp) ?_; refine vms1 Tryz.ntmps95 ?_
    refine vms3 hX h1 h6 ?_
    refine endK.retA ?_; simp [evRes, getT, retV, Tryz.f95,  encIE]
  have h16 := har.1 ha1
  have h1 : ¬ op < 1 := by omega
  have h6 : ¬ 6 < op := by omega
  obtain ⟨n, hA⟩ : ∃ n : Nat, arity op = (n : Int) := ⟨(arity op).toNat, by omega⟩
  have hz : (ibits BinOp.and IntKind.u8 v.toNat m.toNat = v.toNat) = (badN ⟨op, fd, v, m⟩ = false) := by
   rw [badN, and8]
   apply propext
   simp only [decide_eq_false_iff_not, Ne, Decidable.not_not]
   rw [← and_self_iff8]
   constructor
   ·intro h
    exact UInt8.toNat_inj.1 (by omega)
   ·intro h
    rw [h]
  by_cases h3 : op = 3
  case neg =>
   have hc : chk1 ⟨op, fd, v, m⟩ = 0 := by rw [chk1, if_neg ha1, if_neg (fun h => h3 h.1), if_neg (fun h => h3 h.1)]
   rw [hc, if_neg (fun h => h rfl), hA, Int.toNat_natCast]
   refine PC.walk tok mixed cfg0 Tryz.func95 rfl Tryz.call95 (by simp) (by first | rfl | simp) ?_; refine vms1 Tryz.ntmps95 ?_
   refine vms4 hX h1 h6 h3 ?_
   refine T.lp tok mixed cfg0 (fun ((i, b) : Nat × Nat) => kp 1 (dd 5 (kp 1 (sv (.int .i64 b) (sv (.int .i64 i) (dd 80 (nl))))))) (fun H0 ((i, b) : Nat × Nat) => [.cells 0 [.int .i64 op, .int .i64 fd, .int .u8 v.toNat, .int .u8 m.toNat]]) (fun ((i, b) : Nat × Nat) => i ≤ n ∧ b ≤ l.length ∧ a < b ∧ repS (scan k l) (n - i) b = repS (scan k l) n (a + 1)) (fun ((i, b) : Nat × Nat) => n - i) ((0, a + 1)) ?_ ?_ ?_
   ·exact ⟨Nat.zero_le _, hlt, Nat.lt_succ_self _, rfl⟩
   ·exact Gn.canon (J := []) (by first | rfl | (simp [List.append_nil]; done) | (simp [List.append_nil]; rfl)) (by simp [wk, slN, putT, kp, dd, sv, nl]) (by simp [List.length_append]) (by simp [kp, dd, sv, nl]) (by simp)
   rintro ⟨i, b⟩ ⟨hi, hb, hab, hr⟩
   have hmid := arity_mid h16 hA i
   by_cases hin : i < n
   ·obtain ⟨hi2, hop⟩ := hmid.1 hin
    rw [show n - i = (n - (i + 1)) + 1 by omega, repS] at hr
    have hge := scan_ge k l b
    have hle := scan_le k l b hb
    by_cases h4 : 4 < op
    ·refine vms2 hi2 h4 ?_
     refine callO.pc (ih l b hb (by omega) hm) ?_
     by_cases he : (scan k l b).2 = 0
     ·rw [if_neg (fun h => h he)] at hr
      rw [encIE_ok he]
      refine vms1 he ?_
      refine ⟨(i + 1, (scan k l b).1), ⟨by (try simp only); omega, by (try simp only); omega, by (try simp only); omega, hr⟩, by (try simp only); omega, ?_⟩; exact Gn.canon (by first | rfl | (simp [List.append_nil]; rfl)) (by simp [wk, slN]) (by simp [List.length_append]) (by simp) (by simp)
     ·rw [if_pos he] at hr
      rw [encIE_d (scan k l b)]
      refine vms1 he ?_
      rw [← hr, encIE]
      refine endK.retA ?_; simp [evRes, getT, retV, Tryz.f95]
    ·have h4' : op = 4 := by omega
     have hi0 : i = 0 := by omega
     subst hi0
     refine vms3 hi2 h4 h4' ?_
     refine callO.pc (ih l b hb (by omega) hm) ?_
     by_cases he : (scan k l b).2 = 0
     ·rw [if_neg (fun h => h he)] at hr
      rw [encIE_ok he]
      refine vms1 he ?_
      subst h4'
      refine ⟨(0 + 1, (scan k l b).1), ⟨by (try simp only); omega, by (try simp only); omega, by (try simp only); omega, hr⟩, by (try simp only); omega, ?_⟩; exact Gn.canon (by first | rfl | (simp [List.append_nil]; rfl)) (by simp [wk, slN]) (by simp [List.length_append]) (by simp) (by simp)
     ·rw [if_pos he] at hr
      rw [encIE_d (scan k l b)]
      refine vms1 he ?_
      rw [← hr, encIE]
      refine endK.retA ?_; simp [evRes, getT, retV, Tryz.f95]
   ·rw [show n - i = 0 by omega, repS] at hr
    have hno : ¬ (i < 2 ∧ (4 < op ∨ op = 4 ∧ i = 0)) := fun h => hin (hmid.2 h)
    by_cases hi2 : i < 2
    ·have h4 : ¬ 4 < op := by omega
     by_cases h4' : op = 4
     ·have hi0 : ¬ i = 0 := by omega
      refine vms4 hi2 h4 h4' hi0 ?_
      rw [← hr, encIE]
      refine endK.retA ?_; simp [evRes, getT, retV, Tryz.f95]
     ·refine vms3 hi2 h4 h4' ?_
      rw [← hr, encIE]
      refine endK.retA ?_; simp [evRes, getT, retV, Tryz.f95]
    ·refine vms1 hi2 ?_
     rw [← hr]
     refine endK.retA ?_; simp [evRes, getT, retV, Tryz.f95,  encIE]
  by_cases hf : fd < 0
  ·have hc : chk1 ⟨op, fd, v, m⟩ = 9 := by rw [chk1, if_neg ha1, if_pos ⟨h3, Or.inl hf⟩]
   rw [hc, if_pos (by decide)]
   refine PC.walk tok mixed cfg0 Tryz.func95 rfl Tryz.call95 (by simp) (by first | rfl | simp) ?_; refine vms1 Tryz.ntmps95 ?_
   refine vms5 hX h1 h6 h3 hf ?_
   refine endK.retA ?_; simp [evRes, getT, retV, Tryz.f95,  encIE]
  by_cases hf2 : 2 < fd
  ·have hc : chk1 ⟨op, fd, v, m⟩ = 9 := by rw [chk1, if_neg ha1, if_pos ⟨h3, Or.inr hf2⟩]
   rw [hc, if_pos (by decide)]
   refine PC.walk tok mixed cfg0 Tryz.func95 rfl Tryz.call95 (by simp) (by first | rfl | simp) ?_; refine vms1 Tryz.ntmps95 ?_
   refine vms6 hX h1 h6 h3 hf hf2 ?_
   refine endK.retA ?_; simp [evRes, getT, retV, Tryz.f95,  encIE]
  by_cases hbd : ibits BinOp.and IntKind.u8 v.toNat m.toNat = v.toNat
  case neg =>
   have hc : chk1 ⟨op, fd, v, m⟩ = 5 := by
    rw [hz] at hbd
    have hb1 : badN ⟨op, fd, v, m⟩ = true := by simpa using hbd
    rw [chk1, if_neg ha1, if_neg (fun h => h.2.elim hf hf2), if_pos ⟨h3, hb1⟩]
   rw [hc, if_pos (by decide)]
   refine PC.walk tok mixed cfg0 Tryz.func95 rfl Tryz.call95 (by simp) (by first | rfl | simp) ?_; refine vms1 Tryz.ntmps95 ?_
   refine vms7 hX h1 h6 h3 hf hf2 hbd ?_
   refine endK.retA ?_; simp [evRes, getT, retV, Tryz.f95,  encIE]
  have hc : chk1 ⟨op, fd, v, m⟩ = 0 := by
   rw [hz] at hbd
   rw [chk1, if_neg ha1, if_neg (fun h => h.2.elim hf hf2), if_neg (fun h => by rw [hbd] at h; cases h.2)]
  rw [hc, if_neg (fun h => h rfl), hA, Int.toNat_natCast]
  refine PC.walk tok mixed cfg0 Tryz.func95 rfl Tryz.call95 (by simp) (by first | rfl | simp) ?_; refine vms1 Tryz.ntmps95 ?_
  refine vms7 hX h1 h6 h3 hf hf2 hbd ?_
  have hn0 : n = 0 := by
   rw [h3] at hA
   have : arity 3 = 0 := rfl
   omega
  subst hn0
  refine T.lp tok mixed cfg0 (fun (i : Nat) => kp 1 (dd 5 (kp 1 (sv (.int .i64 (a + 1)) (sv (.int .i64 i) (dd 80 (nl))))))) (fun H0 (i : Nat) => [.cells 0 [.int .i64 3, .int .i64 fd, .int .u8 v.toNat, .int .u8 m.toNat]]) (fun (i : Nat) => i = 0) (fun (i : Nat) => 0) (0) ?_ ?_ ?_
  ·rfl
  ·exact Gn.canon (J := []) (by first | rfl | (simp [List.append_nil]; done) | (simp [List.append_nil]; rfl)) (by simp [wk, slN, putT, kp, dd, sv, nl]) (by simp [List.length_append]) (by simp [kp, dd, sv, nl]) (by simp)
  intro i hi
  subst hi
  refine vms0 ?_
  refine endK.retA ?_; simp [evRes, getT, retV, Tryz.f95,  encIE, repS]
end Go.Proofs.YtlbmbbaefncleaaGreatDoor.Pd

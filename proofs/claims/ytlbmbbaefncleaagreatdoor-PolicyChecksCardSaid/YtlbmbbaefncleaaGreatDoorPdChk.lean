/-
  Chapter 44: the check of a predicate, program and reference.
-/
import Derived.Test.YtlbmbbaefncleaaGreatDoorPdNode
set_option maxRecDepth 100000
set_option maxHeartbeats 4000000
set_option linter.all false
namespace Go.Proofs.YtlbmbbaefncleaaGreatDoor.Pd
open Go.Vm
theorem fmN (x : Nd) (l : List Nd) : List.flatMap encN (x :: l) = .int .i64 x.op :: .int .i64 x.fd :: .int .u8 x.v.toNat :: .int .u8 x.m.toNat :: l.flatMap encN := rfl
theorem fm0 : List.flatMap encN [] = [] := rfl
theorem slN_nil : slN [] = .sl false [] 0 := rfl
theorem take_N {xs : List Nd} : (xs.flatMap encN).take (xs.length * 4) = xs.flatMap encN := by
 rw [List.take_of_length_le (by rw [len_flat lenN]; exact Nat.le_refl _)]
theorem toN1 (n : Nat) : ((n : Int) + 1).toNat - 1 = n := by omega
theorem b8 (v : UInt8) : BitVec.ofInt 8 (v.toNat : Int) = v.toBitVec := by
 rw [BitVec.ofInt_natCast]
 exact BitVec.eq_of_toNat_eq (by rw [BitVec.toNat_ofNat, Nat.mod_eq_of_lt v.toNat_lt]; rfl)
theorem w8 (b : BitVec 8) : IntKind.u8.wrap (b.toNat : Int) = b.toNat := u8_id (by have := b.isLt; omega)
theorem and8 (v m : UInt8) : ibits .and .u8 v.toNat m.toNat = ((v &&& m).toNat : Int) := by
 have h : ibits .and .u8 v.toNat m.toNat = IntKind.u8.wrap ((BitVec.ofInt 8 v.toNat &&& BitVec.ofInt 8 m.toNat).toNat : Int) := rfl
 rw [h, b8, b8, w8]
 rfl
theorem xor8 (v m : UInt8) : ibits .xor .u8 v.toNat m.toNat = ((v ^^^ m).toNat : Int) := by
 have h : ibits .xor .u8 v.toNat m.toNat = IntKind.u8.wrap ((BitVec.ofInt 8 v.toNat ^^^ BitVec.ofInt 8 m.toNat).toNat : Int) := rfl
 rw [h, b8, b8, w8]
 rfl
theorem andNot8 (v m : UInt8) : ibits .andNot .u8 v.toNat m.toNat = ((v &&& ~~~ m).toNat : Int) := by
 have h : ibits .andNot .u8 v.toNat m.toNat = IntKind.u8.wrap ((BitVec.ofInt 8 v.toNat &&& ~~~ BitVec.ofInt 8 m.toNat).toNat : Int) := rfl
 rw [h, b8, b8, w8]
 rfl
theorem zero8 (v : UInt8) : ((v.toNat : Int) = 0) = (v = 0) := by
 apply propext
 constructor
 ·intro h
  exact UInt8.toNat_inj.1 (by simpa using h)
 ·rintro rfl
  rfl
def rep (f : List Nd → List Nd × Int) : Nat → List Nd → List Nd × Int
 | 0, l => (l, 0)
 | n + 1, l => if (f l).2 ≠ 0 then ([], (f l).2) else rep f n (f l).1
def badN (x : Nd) : Bool := decide (x.v &&& ~~~ x.m ≠ 0)
def chk1 (x : Nd) : Int := if arity x.op < 0 then 11 else if x.op = 3 ∧ (x.fd < 0 ∨ 2 < x.fd) then 9 else if x.op = 3 ∧ badN x = true then 5 else 0
def chk : Nat → List Nd → List Nd × Int
 | _, [] => ([], 3)
 | 0, _ :: _ => ([], 3)
 | k + 1, x :: l => if chk1 x ≠ 0 then ([], chk1 x) else rep (chk k) (arity x.op).toNat l
theorem rep_len {f : List Nd → List Nd × Int} (h : ∀ l, (f l).1.length ≤ l.length) : ∀ n l, (rep f n l).1.length ≤ l.length
 | 0, l => Nat.le_refl _
 | n + 1, l => by
  rw [rep]
  split
  ·exact Nat.zero_le _
  ·exact Nat.le_trans (rep_len h n _) (h l)
theorem chk_len : ∀ k l, (chk k l).1.length ≤ l.length
 | 0, [] => Nat.le_refl _
 | 0, _ :: _ => Nat.zero_le _
 | k + 1, [] => Nat.le_refl _
 | k + 1, x :: l => by
  rw [chk]
  split
  ·exact Nat.zero_le _
  ·exact Nat.le_trans (rep_len (chk_len k) _ _) (Nat.le_succ _)
def encLN (r : List Nd × Int) : V := .tup [if r.2 ≠ 0 then .sl true [] 0 else slN r.1, .int .i64 r.2]
theorem encLN_ok {r : List Nd × Int} (h : r.2 = 0) : encLN r = .tup [slN r.1, .int .i64 0] := by
 rw [encLN, if_neg (fun e => e h), h]
theorem encLN_err {r : List Nd × Int} (h : ¬ r.2 = 0) : encLN r = .tup [.sl true [] 0, .int .i64 r.2] := by
 rw [encLN, if_pos h]
theorem arity_le (o : Int) : arity o ≤ 2 := by
 unfold arity
 split
 ·decide
 split
 ·decide
 split <;> decide
@[simp] theorem bel_LN {n : Nat} (r : List Nd × Int) : (encLN r).bel n = true := by
 unfold encLN
 by_cases h : r.2 ≠ 0
 ·rw [if_pos h]
  rfl
 ·rw [if_neg h, bel_tup, belAll_cons, bel_slN]
  rfl
attribute [local push_cast] fmN fm0 take_N toN1 slN_nil encF encN slN cfg0 gfp_lenN gfd_lenN lfl_lenN
theorem pc91 : ∀ (k : Nat) (l : List Nd), l.length ≤ k → l.length ≤ 4000000 → PC Tryz.prog 91 [slN l] (encLN (chk k l)) := by
 intro k
 induction k with
 | zero =>
  intro l hl _
  have hl0 : l = [] := List.length_eq_zero_iff.1 (by omega)
  subst hl0
  refine PC.walk tok mixed cfg0 Tryz.func91 rfl Tryz.call91 (by simp [fmN, fm0]) (by first | rfl | simp [fmN, fm0]) ?_; refine vms1 Tryz.ntmps91 ?_
  refine endK.ret ?_ (by first | rfl | simp [fmN, fm0]); simp [evRes, getT, retV, Tryz.f91,  chk, encLN, fm0]
 | succ k ih =>
  intro l hl hm
  cases l with
  | nil =>
   refine PC.walk tok mixed cfg0 Tryz.func91 rfl Tryz.call91 (by simp [fmN, fm0]) (by first | rfl | simp [fmN, fm0]) ?_; refine vms1 Tryz.ntmps91 ?_
   refine endK.ret ?_ (by first | rfl | simp [fmN, fm0]); simp [evRes, getT, retV, Tryz.f91,  chk, encLN]
  | cons x l =>
   refine PC.walk tok mixed cfg0 Tryz.func91 rfl Tryz.call91 (by simp [fmN, fm0]) (by first | rfl | simp [fmN, fm0]) ?_; refine vms1 Tryz.ntmps91 ?_
   have hm2 : l.length ≤ 4000000 := by simp only [List.length_cons] at hm; omega
   have hk2 : l.length ≤ k := by simp only [List.length_cons] at hl; omega
   refine callO.pc (pc142 x.op) ?_
   by_cases ha : arity x.op < 0
   ·have hc : chk1 x = 11 := by rw [chk1, if_pos ha]
    refine vms1 ha ?_
    refine endK.ret ?_ (by first | rfl | simp [fmN, fm0]); simp [evRes, getT, retV, Tryz.f91,  chk, hc, encLN]
   by_cases h3 : x.op = 3
   case neg =>
    have hc : chk1 x = 0 := by rw [chk1, if_neg ha, if_neg (fun h => h3 h.1), if_neg (fun h => h3 h.1)]
    refine vms2 ha h3 ?_
    refine callO.pc (pc142 x.op) ?_
    refine vms0 ?_
    have hle := arity_le x.op
    obtain ⟨a, hA⟩ : ∃ a : Nat, arity x.op = (a : Int) := ⟨(arity x.op).toNat, by omega⟩
    have hr0 : chk (k + 1) (x :: l) = rep (chk k) a l := by
     rw [chk, hc, if_neg (by decide), hA, Int.toNat_natCast]
    rw [hr0]
    refine T.lp tok mixed cfg0 (fun ((i, r) : Nat × List Nd) => dd 5 (sv (slN r) (dd 42 (sv (.int .i64 a) (sv (.int .i64 i) (dd 11 (nl))))))) (fun H0 ((i, r) : Nat × List Nd) => [.cells 0 [.int .i64 x.op, .int .i64 x.fd, .int .u8 x.v.toNat, .int .u8 x.m.toNat]]) (fun ((i, r) : Nat × List Nd) => i ≤ a ∧ r.length ≤ l.length ∧ rep (chk k) (a - i) r = rep (chk k) a l) (fun ((i, r) : Nat × List Nd) => a - i) ((0, l)) ?_ ?_ ?_
    ·exact ⟨Nat.zero_le _, Nat.le_refl _, rfl⟩
    ·rw [hA]
     exact Gn.canon (J := []) (by first | rfl | (simp [List.append_nil]; done) | (simp [List.append_nil]; rfl)) (by simp [wk, slN, putT, kp, dd, sv, nl]) (by simp [List.length_append]) (by simp [fmN, fm0, kp, dd, sv, nl]) (by simp [fmN, fm0])
    rintro ⟨i, r⟩ ⟨hi, hrl, hr⟩
    refine vms0 ?_
    refine ⟨fun hlt => ?_, fun hge => ?_⟩
    ·rw [show a - i = (a - (i + 1)) + 1 by omega, rep] at hr
     refine callO.pc (ih r (by omega) (by omega)) ?_
     by_cases he : (chk k r).2 = 0
     ·rw [if_neg (fun h => h he)] at hr
      rw [encLN_ok he]
      have hcl := chk_len k r
      refine vms1 he ?_
      refine ⟨(i + 1, (chk k r).1), ⟨by simp only; omega, by simp only; omega, hr⟩, by (try simp only); omega, ?_⟩; exact Gn.canon (by first | rfl | (simp [List.append_nil]; rfl)) (by simp [wk, slN]) (by simp [List.length_append]) (by simp [fmN, fm0]) (by simp [fmN, fm0])
     ·rw [if_pos he] at hr
      rw [encLN_err he]
      refine vms1 he ?_
      rw [← hr, encLN_err (r := ([], (chk k r).2)) he]
      refine endK.ret ?_ (by first | rfl | simp [fmN, fm0]); simp [evRes, getT, retV, Tryz.f91]
    ·rw [show a - i = 0 by omega, rep] at hr
     rw [← hr, encLN_ok rfl]
     refine endK.ret ?_ (by first | rfl | simp [fmN, fm0]); simp [evRes, getT, retV, Tryz.f91,  slN]
   by_cases hf : x.fd < 0
   ·have hc : chk1 x = 9 := by rw [chk1, if_neg ha, if_pos ⟨h3, Or.inl hf⟩]
    refine vms3 ha h3 hf ?_
    refine endK.ret ?_ (by first | rfl | simp [fmN, fm0]); simp [evRes, getT, retV, Tryz.f91,  chk, hc, encLN]
   by_cases hf2 : 2 < x.fd
   ·have hc : chk1 x = 9 := by rw [chk1, if_neg ha, if_pos ⟨h3, Or.inr hf2⟩]
    refine vms4 ha h3 hf hf2 ?_
    refine endK.ret ?_ (by first | rfl | simp [fmN, fm0]); simp [evRes, getT, retV, Tryz.f91,  chk, hc, encLN]
   have hb : ∀ h : badN x = true, chk1 x = 5 := fun h => by rw [chk1, if_neg ha, if_neg (fun h => h.2.elim hf hf2), if_pos ⟨h3, h⟩]
   have hn : badN x = decide (ibits BinOp.andNot IntKind.u8 x.v.toNat x.m.toNat ≠ 0) := by
    rw [badN, andNot8]
    congr 1
    rw [Ne, Ne, zero8]
   by_cases hbd : ibits BinOp.andNot IntKind.u8 x.v.toNat x.m.toNat = 0
   case neg =>
    have hc := hb (by rw [hn]; simpa using hbd)
    refine vms5 ha h3 hf hf2 hbd ?_
    refine endK.ret ?_ (by first | rfl | simp [fmN, fm0]); simp [evRes, getT, retV, Tryz.f91,  chk, hc, encLN]
   have hc : chk1 x = 0 := by
    rw [chk1, if_neg ha, if_neg (fun h => h.2.elim hf hf2), if_neg]
    rintro ⟨_, h⟩
    rw [hn] at h
    simp [hbd] at h
   refine vms5 ha h3 hf hf2 hbd ?_
   rw [← h3]
   refine callO.pc (pc142 x.op) ?_
   refine vms0 ?_
   have hle := arity_le x.op
   obtain ⟨a, hA⟩ : ∃ a : Nat, arity x.op = (a : Int) := ⟨(arity x.op).toNat, by omega⟩
   have hr0 : chk (k + 1) (x :: l) = rep (chk k) a l := by
    rw [chk, hc, if_neg (by decide), hA, Int.toNat_natCast]
   rw [hr0]
   refine T.lp tok mixed cfg0 (fun ((i, r) : Nat × List Nd) => dd 5 (sv (slN r) (dd 42 (sv (.int .i64 a) (sv (.int .i64 i) (dd 11 (nl))))))) (fun H0 ((i, r) : Nat × List Nd) => [.cells 0 [.int .i64 x.op, .int .i64 x.fd, .int .u8 x.v.toNat, .int .u8 x.m.toNat]]) (fun ((i, r) : Nat × List Nd) => i ≤ a ∧ r.length ≤ l.length ∧ rep (chk k) (a - i) r = rep (chk k) a l) (fun ((i, r) : Nat × List Nd) => a - i) ((0, l)) ?_ ?_ ?_
   ·exact ⟨Nat.zero_le _, Nat.le_refl _, rfl⟩
   ·rw [hA]
    exact Gn.canon (J := []) (by first | rfl | (simp [List.append_nil]; done) | (simp [List.append_nil]; rfl)) (by simp [wk, slN, putT, kp, dd, sv, nl]) (by simp [List.length_append]) (by simp [fmN, fm0, kp, dd, sv, nl]) (by simp [fmN, fm0])
   rintro ⟨i, r⟩ ⟨hi, hrl, hr⟩
   refine vms0 ?_
   refine ⟨fun hlt => ?_, fun hge => ?_⟩
   ·rw [show a - i = (a - (i + 1)) + 1 by omega, rep] at hr
    refine callO.pc (ih r (by omega) (by omega)) ?_
    by_cases he : (chk k r).2 = 0
    ·rw [if_neg (fun h => h he)] at hr
     rw [encLN_ok he]
     have hcl := chk_len k r
     refine vms1 he ?_
     refine ⟨(i + 1, (chk k r).1), ⟨by simp only; omega, by simp only; omega, hr⟩, by (try simp only); omega, ?_⟩; exact Gn.canon (by first | rfl | (simp [List.append_nil]; rfl)) (by simp [wk, slN]) (by simp [List.length_append]) (by simp [fmN, fm0]) (by simp [fmN, fm0])
    ·rw [if_pos he] at hr
     rw [encLN_err he]
     refine vms1 he ?_
     rw [← hr, encLN_err (r := ([], (chk k r).2)) he]
     refine endK.ret ?_ (by first | rfl | simp [fmN, fm0]); simp [evRes, getT, retV, Tryz.f91]
   ·rw [show a - i = 0 by omega, rep] at hr
    rw [← hr, encLN_ok rfl]
    refine endK.ret ?_ (by first | rfl | simp [fmN, fm0]); simp [evRes, getT, retV, Tryz.f91,  slN]
def checkP (l : List Nd) : Int := if 24 < l.length then 12 else if (chk l.length l).2 = 0 ∧ (chk l.length l).1 ≠ [] then 4 else (chk l.length l).2
theorem pc55 (l : List Nd) (hl : l.length ≤ 4000000) : PC Tryz.prog 55 [slN l] (.int .i64 (checkP l)) := by
 by_cases h : 24 < l.length
 ·refine PC.walk tok mixed cfg0 Tryz.func55 rfl Tryz.call55 (by simp [fmN, fm0]) (by first | rfl | simp [fmN, fm0]) ?_; refine vms1 Tryz.ntmps55 ?_
  refine endK.ret ?_ (by first | rfl | simp [fmN, fm0]); simp [evRes, getT, retV, Tryz.f55,  checkP, h]
 refine PC.walk tok mixed cfg0 Tryz.func55 rfl Tryz.call55 (by simp [fmN, fm0]) (by first | rfl | simp [fmN, fm0]) ?_; refine vms1 Tryz.ntmps55 ?_
 refine callO.pc (pc91 l.length l (Nat.le_refl _) hl) ?_
 by_cases he : (chk l.length l).2 = 0
 ·rw [encLN_ok he]
  by_cases hn : (chk l.length l).1 = []
  ·rw [hn]
   refine vms0 ?_
   refine endK.ret ?_ (by first | rfl | simp [fmN, fm0]); simp [evRes, getT, retV, Tryz.f55,  checkP, h, he, hn]
  ·have hp : 0 < (chk l.length l).1.length := List.length_pos_iff.2 hn
   refine vms1 hp ?_
   refine endK.ret ?_ (by first | rfl | simp [fmN, fm0]); simp [evRes, getT, retV, Tryz.f55,  checkP, h, he, hn]
 ·rw [encLN_err he]
  refine vms1 he ?_
  refine endK.ret ?_ (by first | rfl | simp [fmN, fm0]); simp [evRes, getT, retV, Tryz.f55,  checkP, h, he]
end Go.Proofs.YtlbmbbaefncleaaGreatDoor.Pd

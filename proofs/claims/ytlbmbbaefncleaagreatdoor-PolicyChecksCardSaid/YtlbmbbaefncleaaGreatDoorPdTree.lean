/-
  Chapter 44: a valid list of nodes is the list of a tree; the reference's check and the end of a subexpression.
-/
import Derived.Test.YtlbmbbaefncleaaGreatDoorPdRef
set_option maxRecDepth 100000
set_option maxHeartbeats 4000000
set_option linter.all false
namespace Go.Proofs.YtlbmbbaefncleaaGreatDoor.Pd
open Go.Vm
inductive Pr where
 | leaf (x : Nd)
 | un (x : Nd) (p : Pr)
 | bin (x : Nd) (p q : Pr)
def flat : Pr → List Nd
 | .leaf x => [x]
 | .un x p => x :: flat p
 | .bin x p q => x :: (flat p ++ flat q)
def okP : Pr → Prop
 | .leaf x => (x.op = 1 ∨ x.op = 2 ∨ x.op = 3) ∧ chk1 x = 0
 | .un x p => x.op = 4 ∧ okP p
 | .bin x p q => (x.op = 5 ∨ x.op = 6) ∧ okP p ∧ okP q
def top : Pr → Nd
 | .leaf x => x
 | .un x _ => x
 | .bin x _ _ => x
theorem flat_top : ∀ p, ∃ t, flat p = top p :: t
 | .leaf x => ⟨[], rfl⟩
 | .un x p => ⟨flat p, rfl⟩
 | .bin x p q => ⟨flat p ++ flat q, rfl⟩
theorem flat_pos (p : Pr) : 0 < (flat p).length := by
 obtain ⟨t, ht⟩ := flat_top p
 rw [ht]
 exact Nat.succ_pos _
theorem chk1_op {x : Nd} (h : x.op = 4 ∨ x.op = 5 ∨ x.op = 6) : chk1 x = 0 := by
 rcases h with h | h | h
 ·rw [chk1, h]
  rfl
 ·rw [chk1, h]
  rfl
 ·rw [chk1, h]
  rfl
theorem chk_tree : ∀ k l, (chk k l).2 = 0 → ∃ p, okP p ∧ l = flat p ++ (chk k l).1
 | 0, [], h => by simp [chk] at h
 | 0, _ :: _, h => by simp [chk] at h
 | _ + 1, [], h => by simp [chk] at h
 | k + 1, x :: l, h => by
  rw [chk] at h ⊢
  by_cases hc : chk1 x = 0
  case neg =>
   rw [if_pos hc] at h
   exact absurd h hc
  rw [if_neg (fun g => g hc)] at h ⊢
  by_cases h0 : x.op = 1 ∨ x.op = 2 ∨ x.op = 3
  ·have ha : arity x.op = 0 := by rw [arity, if_pos h0]
   rw [ha] at h ⊢
   exact ⟨.leaf x, ⟨h0, hc⟩, rfl⟩
  by_cases h4 : x.op = 4
  ·have ha : arity x.op = 1 := by rw [arity, if_neg h0, if_pos h4]
   rw [ha, show (1 : Int).toNat = 0 + 1 from rfl, rep] at h ⊢
   by_cases he : (chk k l).2 = 0
   ·rw [if_neg (fun g => g he)] at h ⊢
    obtain ⟨p, hp, hl⟩ := chk_tree k l he
    refine ⟨.un x p, ⟨h4, hp⟩, ?_⟩
    rw [flat, List.cons_append]
    exact congrArg (x :: ·) hl
   ·rw [if_pos he] at h
    exact absurd h he
  by_cases h56 : x.op = 5 ∨ x.op = 6
  ·have ha : arity x.op = 2 := by rw [arity, if_neg h0, if_neg h4, if_pos h56]
   rw [ha, show (2 : Int).toNat = 0 + 1 + 1 from rfl, rep] at h ⊢
   by_cases he : (chk k l).2 = 0
   ·rw [if_neg (fun g => g he)] at h ⊢
    rw [rep] at h ⊢
    by_cases he2 : (chk k (chk k l).1).2 = 0
    ·rw [if_neg (fun g => g he2)] at h ⊢
     obtain ⟨p, hp, hl⟩ := chk_tree k l he
     obtain ⟨q, hq, hl2⟩ := chk_tree k _ he2
     refine ⟨.bin x p q, ⟨h56, hp, hq⟩, ?_⟩
     rw [flat, List.cons_append, List.append_assoc]
     refine congrArg (x :: ·) ?_
     rw [rep, ← hl2]
     exact hl
    ·rw [if_pos he2] at h
     exact absurd h he2
   ·rw [if_pos he] at h
    exact absurd h he
  ·exfalso
   have ha : arity x.op = -1 := by rw [arity, if_neg h0, if_neg h4, if_neg h56]
   rw [chk1, ha, if_pos (by decide)] at hc
   exact absurd hc (by decide)
theorem drop_cons {α : Type} {l r : List α} {a : Nat} {x : α} (h : l.drop a = x :: r) : ∃ ha : a < l.length, l[a] = x ∧ l.drop (a + 1) = r := by
 have ha : a < l.length := by
  have := congrArg List.length h
  rw [List.length_drop, List.length_cons] at this
  omega
 rw [List.drop_eq_getElem_cons ha] at h
 injection h with h1 h2
 exact ⟨ha, h1, h2⟩
theorem drop_app {α : Type} {l p r : List α} {a : Nat} (h : l.drop a = p ++ r) : l.drop (a + p.length) = r := by
 rw [← List.drop_drop, h, List.drop_left]
theorem drop_len {α : Type} {l p r : List α} {a : Nat} (ha : a ≤ l.length) (h : l.drop a = p ++ r) : a + p.length + r.length = l.length := by
 have := congrArg List.length h
 rw [List.length_drop, List.length_append] at this
 omega
theorem scan_tree : ∀ (p : Pr) (k : Nat) (l : List Nd) (a : Nat) (r : List Nd), okP p → l.drop a = flat p ++ r → (flat p).length ≤ k → scan k l a = (a + (flat p).length, 0)
 | p, 0, l, a, r, _, _, hk => by
  have := flat_pos p
  omega
 | .leaf x, k + 1, l, a, r, hp, hl, hk => by
  obtain ⟨ha, hx, _⟩ := drop_cons (x := x) (r := r) hl
  obtain ⟨h0, hc⟩ := hp
  have har : arity x.op = 0 := by rw [arity, if_pos h0]
  rw [scan, List.getElem?_eq_getElem ha]
  simp only [hx]
  rw [if_neg (fun g => g hc), har]
  rfl
 | .un x p, k + 1, l, a, r, hp, hl, hk => by
  obtain ⟨ha, hx, h2⟩ := drop_cons (x := x) (r := flat p ++ r) hl
  obtain ⟨h4, hp⟩ := hp
  have har : arity x.op = 1 := by rw [h4]; rfl
  have i1 := scan_tree p k l (a + 1) r hp h2 (by rw [flat, List.length_cons] at hk; omega)
  rw [scan, List.getElem?_eq_getElem ha]
  simp only [hx]
  rw [if_neg (fun g => g (chk1_op (.inl h4))), har, show (1 : Int).toNat = 0 + 1 from rfl, repS, i1, if_neg (fun g => g rfl), repS, flat, List.length_cons]
  congr 1
  omega
 | .bin x p q, k + 1, l, a, r, hp, hl, hk => by
  obtain ⟨ha, hx, h2⟩ := drop_cons (x := x) (r := flat p ++ (flat q ++ r)) (by rw [hl, flat, List.cons_append, List.append_assoc])
  obtain ⟨h4, hp, hq⟩ := hp
  have har : arity x.op = 2 := by rcases h4 with h4 | h4 <;> rw [h4] <;> rfl
  rw [flat, List.length_cons, List.length_append] at hk
  have i1 := scan_tree p k l (a + 1) _ hp h2 (by omega)
  have i2 := scan_tree q k l (a + 1 + (flat p).length) r hq (drop_app h2) (by omega)
  rw [scan, List.getElem?_eq_getElem ha]
  simp only [hx]
  rw [if_neg (fun g => g (chk1_op (.inr h4))), har, show (2 : Int).toNat = 0 + 1 + 1 from rfl, repS, i1, if_neg (fun g => g rfl), repS, i2, if_neg (fun g => g rfl), repS, flat, List.length_cons, List.length_append]
  congr 1
  omega
attribute [local push_cast] fmN fm0 take_N toN1 slN_nil encF encN slN cfg0 gfp_lenN gfd_lenN lfl_lenN
theorem pc110 (p : Pr) (l : List Nd) (a : Nat) (r : List Nd) (hp : okP p) (h : l.drop a = flat p ++ r) (ha : a ≤ l.length) (hl : l.length ≤ 4000000) :
  PC Tryz.prog 110 [slN l, .int .i64 a] (.int .i64 ((a : Int) + (flat p).length)) := by
 have hn := drop_len ha h
 have hs := pc95 (l.length - a) l a ha (Nat.le_refl _) hl
 rw [scan_tree p _ l a r hp h (by omega), encIE] at hs
 refine PC.walk tok mixed cfg0 Tryz.func110 rfl Tryz.call110 (by simp [fmN, fm0]) (by first | rfl | simp [fmN, fm0]) ?_; refine vms1 Tryz.ntmps110 ?_
 refine callO.pc hs ?_
 refine vms0 ?_
 refine endK.ret ?_ (by first | rfl | simp [fmN, fm0]); simp [evRes, getT, retV, Tryz.f110,  Int.natCast_add]
theorem pc58 (l : List Nd) (hl : l.length ≤ 4000000) : PC Tryz.prog 58 [slN l] (.int .i64 (checkP l)) := by
 by_cases h : 24 < l.length
 ·refine PC.walk tok mixed cfg0 Tryz.func58 rfl Tryz.call58 (by simp [fmN, fm0]) (by first | rfl | simp [fmN, fm0]) ?_; refine vms1 Tryz.ntmps58 ?_
  refine endK.ret ?_ (by first | rfl | simp [fmN, fm0]); simp [evRes, getT, retV, Tryz.f58,  checkP, h]
 refine PC.walk tok mixed cfg0 Tryz.func58 rfl Tryz.call58 (by simp [fmN, fm0]) (by first | rfl | simp [fmN, fm0]) ?_; refine vms1 Tryz.ntmps58 ?_
 have hs := scan_chk l.length l 0 (Nat.zero_le _)
 rw [List.drop_zero] at hs
 refine callO.pc (pc95 l.length l 0 (Nat.zero_le _) (Nat.sub_le _ _) hl) ?_
 have hle := scan_le l.length l 0 (Nat.zero_le _)
 rw [checkP, if_neg h, ← hs.1]
 by_cases he : (scan l.length l 0).2 = 0
 ·rw [encIE_ok he]
  have h2 := hs.2 he
  by_cases hn : (scan l.length l 0).1 < l.length
  ·rw [if_pos ⟨he, fun e => by rw [e] at h2; have := List.drop_eq_nil_iff.1 h2; omega⟩]
   refine vms1 hn ?_
   refine endK.ret ?_ (by first | rfl | simp [fmN, fm0]); simp [evRes, getT, retV, Tryz.f58]
  ·rw [if_neg (fun g => g.2 (by rw [← h2]; exact List.drop_eq_nil_iff.2 (by omega))), he]
   refine vms1 hn ?_
   refine endK.ret ?_ (by first | rfl | simp [fmN, fm0]); simp [evRes, getT, retV, Tryz.f58]
 ·rw [if_neg (fun g => he g.1), encIE]
  refine vms1 he ?_
  refine endK.ret ?_ (by first | rfl | simp [fmN, fm0]); simp [evRes, getT, retV, Tryz.f58]
theorem checkP_tree {l : List Nd} (h : checkP l = 0) : l.length ≤ 24 ∧ ∃ p, okP p ∧ l = flat p := by
 unfold checkP at h
 split at h
 ·omega
 split at h
 ·omega
 rename_i h1 h2
 refine ⟨by omega, ?_⟩
 obtain ⟨p, hp, hl⟩ := chk_tree l.length l h
 refine ⟨p, hp, ?_⟩
 have : (chk l.length l).1 = [] := Decidable.not_not.1 (fun g => h2 ⟨h, g⟩)
 rw [this, List.append_nil] at hl
 exact hl
theorem tree_checkP : ∀ {p : Pr}, okP p → (flat p).length ≤ 24 → checkP (flat p) = 0 := by
 intro p hp hl
 have hs := scan_chk (flat p).length (flat p) 0 (Nat.zero_le _)
 rw [List.drop_zero, scan_tree p _ (flat p) 0 [] hp (by rw [List.drop_zero, List.append_nil]) (Nat.le_refl _)] at hs
 rw [checkP, if_neg (by omega), ← hs.1, if_neg]
 rintro ⟨_, h⟩
 apply h
 rw [← hs.2 rfl]
 exact List.drop_eq_nil_iff.2 (by simp)
end Go.Proofs.YtlbmbbaefncleaaGreatDoor.Pd

/-
  Chapter 41: the nodes of a path expression, its tree, and the tree as the program holds it.
-/
import Derived.Test.YtlbmbbaefncleaaGreatDoorPxScan
import Derived.Test.YtlbmbbaefncleaaGreatDoorVm7
set_option maxRecDepth 100000
set_option maxHeartbeats 4000000
set_option linter.all false
namespace Go.Proofs.YtlbmbbaefncleaaGreatDoor.Px
open Go.Vm
structure Nd where
 op : Int
 n : Int
 deriving DecidableEq
instance : Inhabited Nd := ⟨⟨0, 0⟩⟩
def encN (x : Nd) : List V := [.int .i64 x.op, .int .i64 x.n]
def slN (l : List Nd) : V := .sl false (l.flatMap encN) l.length
theorem lenN (x : Nd) : (encN x).length = 2 := rfl
theorem gfp_lenN (xs : List (Nd)) (i : Nat) (h : i < xs.length) (m : Nat) (hm : m ≤ 2) : getV ((xs.flatMap encN).drop (i * 2)) 0 m = getV (encN xs[i]) 0 m := get_flat_part lenN xs i h m hm
theorem gfd_lenN (xs : List (Nd)) (i : Nat) (h : i < xs.length) (o m : Nat) (hm : o + m ≤ 2) : getV (((xs.flatMap encN).drop (i * 2)).drop o) 0 m = getV (encN xs[i]) o m := get_flat_drop lenN xs i h o m hm
theorem lfl_lenN (xs : List (Nd)) : (xs.flatMap encN).length = xs.length * 2 := len_flat lenN xs
@[simp] theorem belN {n : Nat} (x : Nd) : belAll n (encN x) = true := rfl
@[simp] theorem bel_Ns {n : Nat} (xs : List Nd) : belAll n (xs.flatMap encN) = true := belAll_flat belN xs
@[simp] theorem bel_slN {n : Nat} (l : List Nd) : (slN l).bel n = true := by unfold slN; rw [bel_sl]; exact bel_Ns l
theorem fmN (x : Nd) (l : List Nd) : List.flatMap encN (x :: l) = .int .i64 x.op :: .int .i64 x.n :: l.flatMap encN := rfl
theorem fm0 : List.flatMap encN [] = [] := rfl
theorem slN_nil : slN [] = .sl false [] 0 := rfl
theorem take_N {xs : List Nd} : (xs.flatMap encN).take (xs.length * 2) = xs.flatMap encN := by
 rw [List.take_of_length_le (by rw [len_flat lenN]; exact Nat.le_refl _)]
theorem toN1 (n : Nat) : ((n : Int) + 1).toNat - 1 = n := by omega
def op0 (o : Int) : Nd := ⟨o, 0⟩
def nN (x : Nd) : Int := if x.op = 3 then x.n else 0
inductive Pr where
 | leaf (x : Nd)
 | un (x : Nd) (p : Pr)
 | bin (x : Nd) (p q : Pr)
def flat : Pr → List Nd
 | .leaf x => [x]
 | .un x p => x :: flat p
 | .bin x p q => x :: (flat p ++ flat q)
def top : Pr → Nd
 | .leaf x => x
 | .un x _ => x
 | .bin x _ _ => x
theorem flat_top : ∀ p, ∃ t, flat p = top p :: t
 | .leaf x => ⟨[], rfl⟩
 | .un x p => ⟨flat p, rfl⟩
 | .bin x p q => ⟨flat p ++ flat q, rfl⟩
theorem flat_pos (p : Pr) : 0 < (flat p).length := by
 obtain ⟨t, ht⟩ := flat_top p
 rw [ht]
 exact Nat.succ_pos _
def arity (o : Int) : Int := if o = 1 ∨ o = 2 ∨ o = 3 then 0 else if o = 6 then 1 else if o = 4 ∨ o = 5 then 2 else -1
def badN (sw : Int) (x : Nd) : Prop := x.n < 0 ∨ sw ≤ x.n ∨ 999999999 < x.n
instance (sw : Int) (x : Nd) : Decidable (badN sw x) := by unfold badN; infer_instance
def chk1 (sw : Int) (x : Nd) : Int := if arity x.op < 0 then 11 else if x.op = 3 ∧ badN sw x then 9 else 0
def okP (sw : Int) : Pr → Prop
 | .leaf x => (x.op = 1 ∨ x.op = 2 ∨ x.op = 3) ∧ chk1 sw x = 0
 | .un x p => x.op = 6 ∧ okP sw p
 | .bin x p q => (x.op = 4 ∨ x.op = 5) ∧ okP sw p ∧ okP sw q
def tgX : Pr → Nat
 | .leaf _ => 192
 | .un _ _ => 187
 | .bin _ _ _ => 190
def clX : Pr → List V
 | .leaf x => [.int .i64 x.op, .int .i64 (nN x)]
 | .un _ p => [.ifc (tgX p) (.agg (clX p))]
 | .bin x p q => [.int .i64 x.op, .ifc (tgX p) (.agg (clX p)), .ifc (tgX q) (.agg (clX q))]
def encX (p : Pr) : V := .ifc (tgX p) (.agg (clX p))
theorem bel_clX {n : Nat} : ∀ p, belAll n (clX p) = true
 | .leaf x => rfl
 | .un _ p => by rw [clX, belAll_cons, bel_ifc, bel_agg, bel_clX p]; rfl
 | .bin _ p q => by rw [clX, belAll_cons, belAll_cons, belAll_cons, bel_ifc, bel_agg, bel_ifc, bel_agg, bel_clX p, bel_clX q]; rfl
@[simp] theorem bel_encX {n : Nat} (p : Pr) : (encX p).bel n = true := by rw [encX, bel_ifc, bel_agg, bel_clX]
inductive Er where
 | no
 | un (e : Er)
 | bin (o : Int) (p : Pr) (e : Er)
def errX : Er → V
 | .no => .nili
 | .un e => .ifc 187 (.agg [errX e])
 | .bin o p e => .ifc 190 (.agg [.int .i64 o, encX p, errX e])
theorem bel_errX {n : Nat} : ∀ m, (errX m).bel n = true
 | .no => rfl
 | .un m => by rw [errX, bel_ifc, bel_agg, belAll_cons, bel_errX m]; rfl
 | .bin o p m => by rw [errX, bel_ifc, bel_agg, belAll_cons, belAll_cons, belAll_cons, bel_encX, bel_errX m]; rfl
theorem st_errX : ∀ m, (errX m).st = errX m
 | .no => rfl
 | .un _ => rfl
 | .bin _ _ _ => rfl
theorem os_errX {g : Bool} {xs : List V} {p : Prop} : ∀ m, optSide g (errX m :: xs) p = optSide g xs p
 | .no => rfl
 | .un _ => rfl
 | .bin _ _ _ => rfl
def rep (f : List Nd → List Nd × Int) : Nat → List Nd → List Nd × Int
 | 0, l => (l, 0)
 | n + 1, l => if (f l).2 ≠ 0 then ([], (f l).2) else rep f n (f l).1
def chk (sw : Int) : Nat → List Nd → List Nd × Int
 | _, [] => ([], 3)
 | 0, _ :: _ => ([], 3)
 | k + 1, x :: l => if chk1 sw x ≠ 0 then ([], chk1 sw x) else rep (chk sw k) (arity x.op).toNat l
theorem rep_len {f : List Nd → List Nd × Int} (h : ∀ l, (f l).1.length ≤ l.length) : ∀ n l, (rep f n l).1.length ≤ l.length
 | 0, l => Nat.le_refl _
 | n + 1, l => by
  rw [rep]
  split
  ·exact Nat.zero_le _
  ·exact Nat.le_trans (rep_len h n _) (h l)
theorem chk_len (sw : Int) : ∀ k l, (chk sw k l).1.length ≤ l.length
 | 0, [] => Nat.le_refl _
 | 0, _ :: _ => Nat.zero_le _
 | k + 1, [] => Nat.le_refl _
 | k + 1, x :: l => by
  rw [chk]
  split
  ·exact Nat.zero_le _
  ·exact Nat.le_trans (rep_len (chk_len sw k) _ _) (Nat.le_succ _)
theorem chk1_op {sw : Int} {x : Nd} (h : x.op = 6 ∨ x.op = 4 ∨ x.op = 5) : chk1 sw x = 0 := by
 have ha : ¬ arity x.op < 0 := by rcases h with h | h | h <;> rw [h] <;> decide
 rw [chk1, if_neg ha, if_neg]
 rintro ⟨h3, _⟩
 omega
theorem chk_tree (sw : Int) : ∀ k l, (chk sw k l).2 = 0 → ∃ p, okP sw p ∧ l = flat p ++ (chk sw k l).1
 | 0, [], h => by simp [chk] at h
 | 0, _ :: _, h => by simp [chk] at h
 | _ + 1, [], h => by simp [chk] at h
 | k + 1, x :: l, h => by
  rw [chk] at h ⊢
  by_cases hc : chk1 sw x = 0
  case neg =>
   rw [if_pos hc] at h
   exact absurd h hc
  rw [if_neg (fun g => g hc)] at h ⊢
  by_cases h0 : x.op = 1 ∨ x.op = 2 ∨ x.op = 3
  ·have ha : arity x.op = 0 := by rw [arity, if_pos h0]
   rw [ha] at h ⊢
   exact ⟨.leaf x, ⟨h0, hc⟩, rfl⟩
  by_cases h4 : x.op = 6
  ·have ha : arity x.op = 1 := by rw [arity, if_neg h0, if_pos h4]
   rw [ha, show (1 : Int).toNat = 0 + 1 from rfl, rep] at h ⊢
   by_cases he : (chk sw k l).2 = 0
   ·rw [if_neg (fun g => g he)] at h ⊢
    obtain ⟨p, hp, hl⟩ := chk_tree sw k l he
    refine ⟨.un x p, ⟨h4, hp⟩, ?_⟩
    rw [flat, List.cons_append]
    exact congrArg (x :: ·) hl
   ·rw [if_pos he] at h
    exact absurd h he
  by_cases h56 : x.op = 4 ∨ x.op = 5
  ·have ha : arity x.op = 2 := by rw [arity, if_neg h0, if_neg h4, if_pos h56]
   rw [ha, show (2 : Int).toNat = 0 + 1 + 1 from rfl, rep] at h ⊢
   by_cases he : (chk sw k l).2 = 0
   ·rw [if_neg (fun g => g he)] at h ⊢
    rw [rep] at h ⊢
    by_cases he2 : (chk sw k (chk sw k l).1).2 = 0
    ·rw [if_neg (fun g => g he2)] at h ⊢
     obtain ⟨p, hp, hl⟩ := chk_tree sw k l he
     obtain ⟨q, hq, hl2⟩ := chk_tree sw k _ he2
     refine ⟨.bin x p q, ⟨h56, hp, hq⟩, ?_⟩
     rw [flat, List.cons_append, List.append_assoc]
     refine congrArg (x :: ·) ?_
     rw [rep, ← hl2]
     exact hl
    ·rw [if_pos he2] at h
     exact absurd h he2
   ·rw [if_pos he] at h
    exact absurd h he
  ·exfalso
   have ha : arity x.op = -1 := by rw [arity, if_neg h0, if_neg h4, if_neg h56]
   rw [chk1, ha, if_pos (by decide)] at hc
   exact absurd hc (by decide)
end Go.Proofs.YtlbmbbaefncleaaGreatDoor.Px

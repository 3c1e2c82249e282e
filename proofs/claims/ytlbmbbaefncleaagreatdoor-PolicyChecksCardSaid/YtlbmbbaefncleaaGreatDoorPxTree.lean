/-
  Chapter 41: where the subexpressions of a tree end in its list.
-/
import Derived.Test.YtlbmbbaefncleaaGreatDoorPxRef
set_option maxRecDepth 100000
set_option maxHeartbeats 4000000
set_option linter.all false
namespace Go.Proofs.YtlbmbbaefncleaaGreatDoor.Px
open Go.Vm
theorem drop_cons {α : Type} {l r : List α} {a : Nat} {x : α} (h : l.drop a = x :: r) : ∃ ha : a < l.length, l[a] = x ∧ l.drop (a + 1) = r := by
 have ha : a < l.length := by
  have := congrArg List.length h
  rw [List.length_drop, List.length_cons] at this
  omega
 rw [List.drop_eq_getElem_cons ha] at h
 injection h with h1 h2
 exact ⟨ha, h1, h2⟩
theorem drop_app {α : Type} {l p r : List α} {a : Nat} (h : l.drop a = p ++ r) : l.drop (a + p.length) = r := by
 rw [← List.drop_drop, h, List.drop_left]
theorem drop_len {α : Type} {l p r : List α} {a : Nat} (ha : a ≤ l.length) (h : l.drop a = p ++ r) : a + p.length + r.length = l.length := by
 have := congrArg List.length h
 rw [List.length_drop, List.length_append] at this
 omega
theorem scan_tree (sw : Int) : ∀ (p : Pr) (k : Nat) (l : List Nd) (a : Nat) (r : List Nd), okP sw p → l.drop a = flat p ++ r → (flat p).length ≤ k → scan sw k l a = (a + (flat p).length, 0)
 | p, 0, l, a, r, _, _, hk => by
  have := flat_pos p
  omega
 | .leaf x, k + 1, l, a, r, hp, hl, hk => by
  obtain ⟨ha, hx, _⟩ := drop_cons (x := x) (r := r) hl
  obtain ⟨h0, hc⟩ := hp
  have har : arity x.op = 0 := by rw [arity, if_pos h0]
  rw [scan, List.getElem?_eq_getElem ha]
  simp only [hx]
  rw [if_neg (fun g => g hc), har]
  rfl
 | .un x p, k + 1, l, a, r, hp, hl, hk => by
  obtain ⟨ha, hx, h2⟩ := drop_cons (x := x) (r := flat p ++ r) hl
  obtain ⟨h4, hp⟩ := hp
  have har : arity x.op = 1 := by rw [h4]; rfl
  have i1 := scan_tree sw p k l (a + 1) r hp h2 (by rw [flat, List.length_cons] at hk; omega)
  rw [scan, List.getElem?_eq_getElem ha]
  simp only [hx]
  rw [if_neg (fun g => g (chk1_op (.inl h4))), har, show (1 : Int).toNat = 0 + 1 from rfl, repS, i1, if_neg (fun g => g rfl), repS, flat, List.length_cons]
  congr 1
  omega
 | .bin x p q, k + 1, l, a, r, hp, hl, hk => by
  obtain ⟨ha, hx, h2⟩ := drop_cons (x := x) (r := flat p ++ (flat q ++ r)) (by rw [hl, flat, List.cons_append, List.append_assoc])
  obtain ⟨h4, hp, hq⟩ := hp
  have har : arity x.op = 2 := by rcases h4 with h4 | h4 <;> rw [h4] <;> rfl
  rw [flat, List.length_cons, List.length_append] at hk
  have i1 := scan_tree sw p k l (a + 1) _ hp h2 (by omega)
  have i2 := scan_tree sw q k l (a + 1 + (flat p).length) r hq (drop_app h2) (by omega)
  rw [scan, List.getElem?_eq_getElem ha]
  simp only [hx]
  rw [if_neg (fun g => g (chk1_op (.inr h4))), har, show (2 : Int).toNat = 0 + 1 + 1 from rfl, repS, i1, if_neg (fun g => g rfl), repS, i2, if_neg (fun g => g rfl), repS, flat, List.length_cons, List.length_append]
  congr 1
  omega
theorem end40 (p : Pr) (l : List Nd) (a : Nat) (r : List Nd) (hp : okP 1000000000 p) (h : l.drop a = flat p ++ r) (ha : a ≤ l.length) (hl : l.length ≤ 4000000) :
  PC Tryz.prog 124 [slN l, .int .i64 a] (.int .i64 ((a : Int) + (flat p).length)) := by
 have hn := drop_len ha h
 exact pc124 p l a r (scan_tree 1000000000 p _ l a r hp h (by omega)) ha (by omega) hl
theorem checkP_tree {sw : Int} {l : List Nd} (h : checkP sw l = 0) : l.length ≤ 24 ∧ ∃ p, okP sw p ∧ l = flat p := by
 unfold checkP at h
 split at h
 ·omega
 split at h
 ·omega
 rename_i h1 h2
 refine ⟨by omega, ?_⟩
 obtain ⟨p, hp, hl⟩ := chk_tree sw l.length l h
 refine ⟨p, hp, ?_⟩
 have : (chk sw l.length l).1 = [] := Decidable.not_not.1 (fun g => h2 ⟨h, g⟩)
 rw [this, List.append_nil] at hl
 exact hl
theorem tree_checkP {sw : Int} : ∀ {p : Pr}, okP sw p → (flat p).length ≤ 24 → checkP sw (flat p) = 0 := by
 intro p hp hl
 have hs := scan_chk sw (flat p).length (flat p) 0 (Nat.zero_le _)
 rw [List.drop_zero, scan_tree sw p _ (flat p) 0 [] hp (by rw [List.drop_zero, List.append_nil]) (Nat.le_refl _)] at hs
 rw [checkP, if_neg (by omega), ← hs.1, if_neg]
 rintro ⟨_, h⟩
 apply h
 rw [← hs.2 rfl]
 exact List.drop_eq_nil_iff.2 (by simp)
end Go.Proofs.YtlbmbbaefncleaaGreatDoor.Px

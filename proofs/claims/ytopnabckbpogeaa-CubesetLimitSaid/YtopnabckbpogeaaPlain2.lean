/-
  Chapter 8: members of simplified lists, differences, intersections, in plain words.
-/
import Derived.Test.YtopnabckbpogeaaPlain
import Derived.Test.YtopnabckbpogeaaSub8
set_option maxRecDepth 100000
set_option maxHeartbeats 4000000
set_option linter.all false
namespace Go.Proofs.Ytopnabckbpogeaa
open Go.Vm

theorem mem_canon1 {c : Cu} {n : W64} : mem (canon c) n = mem c n := mem_canon
theorem makes_iff {l : List Cu} {i k : Nat} : makes l i k = true ↔ k ≠ i ∧ sub (cat l i) (cat l k) = true ∧ (k < i ∨ sub (cat l k) (cat l i) = false) := by
  simp only [makes, Bool.and_eq_true, Bool.or_eq_true, decide_eq_true_eq, Bool.not_eq_true']
theorem redund_iff {l : List Cu} {i : Nat} : redund l i = true ↔ ∃ k, k < l.length ∧ makes l i k = true := by
  simp only [redund, List.any_eq_true, List.mem_range'_1, Nat.zero_le, true_and, Nat.sub_zero, Nat.zero_add]
theorem mask_le {a b : Cu} (h : sub a b = true) : b.m.toNat ≤ a.m.toNat := by
  simp only [sub, Bool.and_eq_true, decide_eq_true_eq] at h
  have e : b.m &&& a.m = b.m := and_not_zero.1 h.1
  rw [← e, BitVec.toNat_and]
  exact Nat.and_le_right
theorem mask_eq {a b : Cu} (h : sub a b = true) (e : b.m.toNat = a.m.toNat) : sub b a = true := by
  have e : b.m = a.m := BitVec.eq_of_toNat_eq e
  refine sub_iff.2 fun j hj hb => ?_
  rw [← e] at hb
  exact ⟨hb, (sub_iff.1 h j hj hb).2.symm⟩
theorem nonred {l : List Cu} {n : W64} : ∀ (q i : Nat), i < l.length → (cat l i).m.toNat * l.length + i < q → mem (cat l i) n = true → ∃ j, j < l.length ∧ redund l j = false ∧ mem (cat l j) n = true
  | 0, _, _, h, _ => absurd h (Nat.not_lt_zero _)
  | q + 1, i, hi, hq, hm => by
    cases hr : redund l i with
    | false => exact ⟨i, hi, hr, hm⟩
    | true =>
      obtain ⟨k, hk, hmk⟩ := redund_iff.1 hr
      obtain ⟨h1, h2, h3⟩ := makes_iff.1 hmk
      refine nonred q k hk ?_ (sub_mem h2 hm)
      have h4 := mask_le h2
      rcases Nat.lt_or_ge (cat l k).m.toNat (cat l i).m.toNat with h5 | h5
      · have h6 : ((cat l k).m.toNat + 1) * l.length ≤ (cat l i).m.toNat * l.length := Nat.mul_le_mul_right _ h5
        rw [Nat.add_mul, Nat.one_mul] at h6
        omega
      · have h6 : (cat l k).m.toNat = (cat l i).m.toNat := by omega
        rcases h3 with h3 | h3
        · rw [h6]; omega
        · rw [mask_eq h2 h6] at h3; cases h3
theorem mem_simpTo {l : List Cu} {c : Cu} : ∀ {j : Nat}, c ∈ simpTo l j ↔ ∃ i, i < j ∧ redund l i = false ∧ c = canon (cat l i)
  | 0 => by simp [simpTo]
  | j + 1 => by
    rw [simpTo, List.mem_append, mem_simpTo]
    constructor
    · rintro (⟨i, h1, h2⟩ | h)
      · exact ⟨i, by omega, h2⟩
      · cases hr : redund l j with
        | true => rw [hr] at h; simp at h
        | false =>
          rw [hr] at h
          simp at h
          exact ⟨j, by omega, hr, h⟩
    · rintro ⟨i, h1, h2, h3⟩
      rcases Nat.lt_or_ge i j with h4 | h4
      · exact .inl ⟨i, h4, h2, h3⟩
      · obtain rfl : i = j := by omega
        rw [h2]
        exact .inr (by simp [h3])
theorem cat_mem {l : List Cu} {i : Nat} (h : i < l.length) : cat l i ∈ l := by rw [cat_at h]; exact List.getElem_mem h
theorem mem_cat {l : List Cu} {c : Cu} (h : c ∈ l) : ∃ i, i < l.length ∧ cat l i = c := by
  obtain ⟨i, hi, e⟩ := List.getElem_of_mem h
  exact ⟨i, hi, by rw [cat_at hi, e]⟩
theorem any_iff {l : List Cu} {n : W64} : anyMem l n = true ↔ ∃ c, c ∈ l ∧ mem c n = true := by simp only [anyMem, List.any_eq_true]
theorem simp8_any {l : List Cu} {n : W64} : anyMem (simp8 l) n = anyMem l n := by
  rw [Bool.eq_iff_iff, any_iff, any_iff]
  constructor
  · rintro ⟨c, hc, hm⟩
    obtain ⟨i, hi, _, rfl⟩ := mem_simpTo.1 hc
    exact ⟨_, cat_mem hi, by rw [← hm, mem_canon1]⟩
  · rintro ⟨c, hc, hm⟩
    obtain ⟨i, hi, rfl⟩ := mem_cat hc
    obtain ⟨j, h1, h2, h3⟩ := nonred _ i hi (Nat.lt_succ_self _) hm
    exact ⟨_, mem_simpTo.2 ⟨j, h1, h2, rfl⟩, by rw [mem_canon1, h3]⟩
theorem simp8_of {l : List Cu} {c : Cu} (h : c ∈ simp8 l) : ∃ d, d ∈ l ∧ c = canon d := by
  obtain ⟨i, hi, _, rfl⟩ := mem_simpTo.1 h
  exact ⟨_, cat_mem hi, rfl⟩
theorem simpTo_sub {l : List Cu} : ∀ {j : Nat}, j ≤ l.length → (simpTo l j).Sublist ((l.take j).map canon)
  | 0, _ => by simp [simpTo]
  | j + 1, h => by
    rw [simpTo, List.take_succ_eq_append_getElem h, List.map_append]
    refine (simpTo_sub (by omega)).append ?_
    split
    · exact List.nil_sublist _
    · rw [cat_at h]; exact List.Sublist.refl _
theorem simp8_sub {l : List Cu} : (simp8 l).Sublist (l.map canon) := by
  have := simpTo_sub (Nat.le_refl l.length)
  rwa [List.take_length] at this
theorem nonred_apart {l : List Cu} {i j : Nat} (hi : i < l.length) (hj : j < l.length) (h : i ≠ j) (h1 : redund l i = false) (h2 : redund l j = false) : sub (cat l i) (cat l j) = false := by
  cases hs : sub (cat l i) (cat l j) with
  | false => rfl
  | true =>
    have n1 : ¬ makes l i j = true := fun hm => by rw [redund_iff.2 ⟨j, hj, hm⟩] at h1; cases h1
    have n2 : ¬ makes l j i = true := fun hm => by rw [redund_iff.2 ⟨i, hi, hm⟩] at h2; cases h2
    rw [makes_iff] at n1 n2
    cases hs2 : sub (cat l j) (cat l i) with
    | false => exact absurd ⟨fun e => h e.symm, hs, .inr hs2⟩ n1
    | true =>
      rcases Nat.lt_or_ge j i with h3 | h3
      · exact absurd ⟨fun e => h e.symm, hs, .inl h3⟩ n1
      · exact absurd ⟨h, hs2, .inl (by omega)⟩ n2
theorem simpTo_apart {l : List Cu} : ∀ {j : Nat}, j ≤ l.length → (simpTo l j).Pairwise fun p q => sub p q = false ∧ sub q p = false
  | 0, _ => List.Pairwise.nil
  | j + 1, h => by
    rw [simpTo, List.pairwise_append]
    refine ⟨simpTo_apart (by omega), ?_, ?_⟩
    · split
      · exact List.Pairwise.nil
      · exact List.pairwise_singleton _ _
    · intro p hp q hq
      obtain ⟨i, h1, h2, rfl⟩ := mem_simpTo.1 hp
      cases hr : redund l j with
      | true => rw [hr] at hq; simp at hq
      | false =>
        rw [hr] at hq
        simp at hq
        subst hq
        rw [sub_canon, sub_canon]
        exact ⟨nonred_apart (by omega) h (by omega) h2 hr, nonred_apart h (by omega) (by omega) hr h2⟩
theorem simp8_apart {l : List Cu} : (simp8 l).Pairwise fun p q => sub p q = false ∧ sub q p = false := simpTo_apart (Nat.le_refl _)
theorem apart_at {l : List Cu} (h : l.Pairwise fun p q => sub p q = false ∧ sub q p = false) {i j : Nat} (hi : i < l.length) (hj : j < l.length) (hij : i ≠ j) : sub l[i] l[j] = false := by
  rcases Nat.lt_or_ge i j with h1 | h1
  · exact (List.pairwise_iff_getElem.1 h i j hi hj h1).1
  · exact (List.pairwise_iff_getElem.1 h j i hj hi (by omega)).2
theorem simp8_self {l : List Cu} (h : l.Pairwise fun p q => sub p q = false ∧ sub q p = false) (hc : ∀ c, c ∈ l → canon c = c) : simp8 l = l := by
  have key : ∀ j, j ≤ l.length → simpTo l j = l.take j := by
    intro j
    induction j with
    | zero => intro _; simp [simpTo]
    | succ j ih =>
      intro hj
      have hr : redund l j = false := by
        cases hr : redund l j with
        | false => rfl
        | true =>
          obtain ⟨k, hk, hm⟩ := redund_iff.1 hr
          obtain ⟨h1, h2, _⟩ := makes_iff.1 hm
          rw [cat_at hk, cat_at hj, apart_at h hj hk (fun e => h1 e.symm)] at h2
          cases h2
      rw [simpTo_no hr hj, ih (by omega), hc _ (List.getElem_mem hj), List.take_succ_eq_append_getElem hj]
  rw [simp8, key _ (Nat.le_refl _), List.take_length]
theorem simp8_can {l : List Cu} {c : Cu} (h : c ∈ simp8 l) : canon c = c := by
  obtain ⟨d, _, rfl⟩ := simp8_of h
  exact canon_canon
theorem simp8_idem {l : List Cu} : simp8 (simp8 l) = simp8 l := simp8_self simp8_apart fun _ h => simp8_can h
theorem none_nil {l : List Cu} (h : ∀ n, anyMem l n = false) : l = [] := by
  cases l with
  | nil => rfl
  | cons c l => have := h (least c); simp [anyMem, mem_least] at this
theorem simp8_nil {l : List Cu} (h : simp8 l = []) : l = [] := none_nil fun n => by rw [← simp8_any, h]; rfl
/-- no stray value bits, within the k lowest bits -/
def Ok (k : Nat) (c : Cu) : Prop := can c ∧ inW c k
theorem can_canon {c : Cu} (h : can c) : canon c = c := by
  have := can_and h
  cases c with
  | mk v m => simp only [canon] at this ⊢; rw [this]
theorem cut_ok {k : Nat} {c : Cu} (h2 : k ≤ 64) (h : Ok k c) : cutC c k = c := by
  have e1 : c.m &&& low k = c.m := and_not_zero.1 ((inW_iff h2).2 h.2)
  have e2 := can_and h.1
  cases c with
  | mk v m => simp only [cutC] at e1 e2 ⊢; rw [e1, e2]
theorem ok_cut {k : Nat} {c : Cu} (h2 : k ≤ 64) : Ok k (cutC c k) := ⟨cut_can, cut_inW h2⟩
theorem ok_simp8 {k : Nat} {l : List Cu} (h : ∀ c, c ∈ l → Ok k c) : ∀ c, c ∈ simp8 l → Ok k c := by
  intro c hc
  obtain ⟨d, hd, rfl⟩ := simp8_of hc
  rw [can_canon (h d hd).1]
  exact h d hd
theorem ok_outs {k : Nat} {l : List Cu} {y : Cu} (h1 : 1 ≤ k) (h2 : k ≤ 64) : ∀ c, c ∈ outs l y k → Ok k c := by
  intro c hc
  obtain ⟨x, _, hx⟩ := List.mem_flatMap.1 hc
  exact (chk_iff h1 h2).1 (sub_all h1 h2 c hx)
theorem cnt_any {l : List Cu} {n : W64} : anyMem l n = decide (0 < cnt n l) := by
  rw [Bool.eq_iff_iff, any_iff, decide_eq_true_eq, cnt, List.countP_pos_iff]
theorem cnt_outs {k : Nat} {y : Cu} {n : W64} (h1 : 1 ≤ k) (h2 : k ≤ 64) : ∀ {l : List Cu}, (∀ c, c ∈ l → Ok k c) → cnt n (outs l y k) = if mem (cutC y k) n = true then 0 else cnt n l
  | [], _ => by simp [outs, cnt]
  | x :: l, h => by
    have ih := cnt_outs (n := n) (y := y) h1 h2 (l := l) fun c hc => h c (List.mem_cons_of_mem _ hc)
    have e := sub_cnt (a := x) (b := y) (n := n) h1 h2
    rw [cut_ok h2 (h x (List.mem_cons_self ..))] at e
    rw [outs, List.flatMap_cons, cnt, List.countP_append, ← outs, ← cnt, ← cnt, e, ih, cnt, cnt, List.countP_cons]
    cases mem (cutC y k) n <;> cases mem x n <;> simp <;> omega
theorem any_outs {k : Nat} {y : Cu} {n : W64} (h1 : 1 ≤ k) (h2 : k ≤ 64) {l : List Cu} (h : ∀ c, c ∈ l → Ok k c) : anyMem (outs l y k) n = (anyMem l n && !mem (cutC y k) n) := by
  rw [cnt_any, cnt_any, cnt_outs h1 h2 h]
  cases mem (cutC y k) n <;> simp
theorem cnt_simp8 {l : List Cu} {n : W64} : cnt n (simp8 l) ≤ cnt n l := by
  have := (simp8_sub (l := l)).countP_le (p := fun c => mem c n)
  rw [List.countP_map] at this
  have e : (fun c => mem c n) ∘ canon = fun c => mem c n := by funext c; exact mem_canon1
  rw [e] at this
  exact this
theorem subt8Go_spec {k : Nat} (h1 : 1 ≤ k) (h2 : k ≤ 64) : ∀ {ys l r : List Cu}, (∀ c, c ∈ l → Ok k c) → subt8Go k ys l = (r, 0) →
    (∀ c, c ∈ r → Ok k c) ∧ (∀ n, anyMem r n = (anyMem l n && !anyMem (ys.map fun c => cutC c k) n)) ∧ ((∀ n, cnt n l ≤ 1) → ∀ n, cnt n r ≤ 1)
  | [], l, r, h, e => by
    rw [subt8Go] at e
    cases e
    exact ⟨h, fun n => by simp [anyMem], fun hc => hc⟩
  | y :: ys, l, r, h, e => by
    rw [subt8Go] at e
    split at e
    · cases e
    · obtain ⟨g1, g2, g3⟩ := subt8Go_spec h1 h2 (ok_simp8 (ok_outs (y := y) h1 h2)) e
      refine ⟨g1, fun n => ?_, fun hc => g3 fun n => ?_⟩
      · rw [g2, simp8_any, any_outs h1 h2 h]
        simp only [anyMem, List.map_cons, List.any_cons, Bool.not_or, Bool.and_assoc]
      · refine Nat.le_trans cnt_simp8 ?_
        rw [cnt_outs h1 h2 h]
        split
        · exact Nat.zero_le _
        · exact hc n
theorem ok_map {k : Nat} {a : List Cu} (h2 : k ≤ 64) : ∀ c, c ∈ a.map (fun c => cutC c k) → Ok k c := by
  intro c hc
  obtain ⟨d, _, rfl⟩ := List.mem_map.1 hc
  exact ok_cut h2
theorem subt8_spec {k : Nat} (h1 : 1 ≤ k) (h2 : k ≤ 64) {a b r : List Cu} (e : subt8 a b k = (r, 0)) :
    (∀ c, c ∈ r → Ok k c) ∧ (∀ n, anyMem r n = (anyMem (a.map fun c => cutC c k) n && !anyMem (b.map fun c => cutC c k) n)) ∧ ((∀ n, cnt n (a.map fun c => cutC c k) ≤ 1) → ∀ n, cnt n r ≤ 1) := by
  have hw : okW (k : Int) = true := by simp only [okW, Bool.and_eq_true, decide_eq_true_eq]; omega
  rw [subt8, if_pos hw, Int.toNat_natCast] at e
  split at e
  · cases e
  · obtain ⟨g1, g2, g3⟩ := subt8Go_spec h1 h2 (ok_simp8 (ok_map h2)) e
    exact ⟨g1, fun n => by rw [g2, simp8_any], fun hc => g3 fun n => Nat.le_trans cnt_simp8 (hc n)⟩
theorem any_append {a b : List Cu} {n : W64} : anyMem (a ++ b) n = (anyMem a n || anyMem b n) := by simp [anyMem]
theorem any_meets {x : Cu} {n : W64} : ∀ {b : List Cu}, anyMem (meets x b) n = (mem x n && anyMem b n)
  | [] => by simp [meets, anyMem]
  | y :: b => by
    rw [meets, List.flatMap_cons, any_append, ← meets, any_meets]
    cases hm : (meet x y).2 with
    | true => simp [anyMem, meet_mem hm, Bool.and_or_distrib_left]
    | false =>
      have h := fun h1 => not_meet (n := n) hm h1
      cases hx : mem x n with
      | false => simp [anyMem]
      | true => simp [anyMem, h hx]
theorem ok_meet {k : Nat} {x y : Cu} (hx : Ok k x) (hy : Ok k y) (hm : (meet x y).2 = true) : Ok k (meet x y).1 := by
  refine ⟨meet_can, fun j hj h => ?_⟩
  rw [meet_some hm] at h
  simp only [BitVec.getLsbD_and, BitVec.getLsbD_or, BitVec.getLsbD_not, BitVec.getLsbD_zero, BitVec.getLsbD_xor, decide_true, Bool.true_and, Bool.or_eq_true] at h
  rcases h with h | h
  · exact hx.2 j hj h
  · exact hy.2 j hj h
theorem ok_meets {k : Nat} {x : Cu} {b : List Cu} (hx : Ok k x) (hb : ∀ c, c ∈ b → Ok k c) : ∀ c, c ∈ meets x b → Ok k c := by
  intro c hc
  obtain ⟨y, hy, h⟩ := List.mem_flatMap.1 hc
  split at h
  · rename_i hm
    obtain rfl := List.mem_singleton.1 h
    exact ok_meet hx (hb y hy) hm
  · cases h
theorem interGo_spec {b : List Cu} : ∀ {xs out r : List Cu}, interGo b xs out = (r, 0) →
    (∀ n, anyMem r n = (anyMem out n || (anyMem xs n && anyMem b n))) ∧ (∀ k, (∀ c, c ∈ b → Ok k c) → (∀ c, c ∈ xs → Ok k c) → (∀ c, c ∈ out → Ok k c) → ∀ c, c ∈ r → Ok k c)
  | [], out, r, e => by
    rw [interGo] at e
    cases e
    exact ⟨fun n => by simp [anyMem], fun _ _ _ h => h⟩
  | x :: xs, out, r, e => by
    rw [interGo] at e
    split at e
    · cases e
    · obtain ⟨g1, g2⟩ := interGo_spec e
      refine ⟨fun n => ?_, fun k hb hx ho => g2 k hb (fun c hc => hx c (List.mem_cons_of_mem _ hc)) (ok_simp8 fun c hc => ?_)⟩
      · rw [g1, simp8_any, any_append, any_meets]
        have e2 : anyMem (x :: xs) n = (mem x n || anyMem xs n) := rfl
        rw [e2, Bool.and_or_distrib_right, Bool.or_assoc]
      · rcases List.mem_append.1 hc with hc | hc
        · exact ho c hc
        · exact ok_meets (hx x (List.mem_cons_self ..)) hb c hc
theorem inter8_spec {a b r : List Cu} (e : inter8 a b = (r, 0)) :
    (∀ n, anyMem r n = (anyMem a n && anyMem b n)) ∧ (∀ k, (∀ c, c ∈ a → Ok k c) → (∀ c, c ∈ b → Ok k c) → ∀ c, c ∈ r → Ok k c) := by
  obtain ⟨g1, g2⟩ := interGo_spec e
  exact ⟨fun n => by rw [g1]; simp [anyMem], fun k ha hb => g2 k hb ha (by simp)⟩
theorem fin8_spec {l r : List Cu} (e : fin8 l = (r, 0)) : r = simp8 l := by
  rw [fin8] at e
  split at e
  · cases e
  · cases e; rfl
end Go.Proofs.Ytopnabckbpogeaa

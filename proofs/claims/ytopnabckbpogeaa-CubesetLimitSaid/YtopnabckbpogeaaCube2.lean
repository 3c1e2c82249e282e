/-
  Chapter 7: plain laws of the difference of two cubes.
-/
import Derived.Test.YtopnabckbpogeaaCube
import Derived.Test.YtopnabckbpogeaaSub
set_option maxRecDepth 100000
set_option maxHeartbeats 4000000
set_option linter.all false
namespace Go.Proofs.Ytopnabckbpogeaa
open Go.Vm

theorem piece_v {b r : Cu} {i j : Nat} (hj : j < 64) : (piece b r i).v.getLsbD j = (r.v.getLsbD j || (!b.v.getLsbD j && decide (i = j))) := by
  simp only [piece, BitVec.getLsbD_and, BitVec.getLsbD_or, BitVec.getLsbD_not, BitVec.getLsbD_zero, BitVec.getLsbD_xor, decide_true, Bool.true_and, hj, bit_at hj]
theorem piece_m {b r : Cu} {i j : Nat} (hj : j < 64) : (piece b r i).m.getLsbD j = (r.m.getLsbD j || decide (i = j)) := by
  simp only [piece, BitVec.getLsbD_and, BitVec.getLsbD_or, BitVec.getLsbD_not, BitVec.getLsbD_zero, BitVec.getLsbD_xor, decide_true, Bool.true_and, hj, bit_at hj]
theorem next_v {b r : Cu} {i j : Nat} (hj : j < 64) : (nextR b r i).v.getLsbD j = (r.v.getLsbD j || (b.v.getLsbD j && decide (i = j))) := by
  simp only [nextR, BitVec.getLsbD_and, BitVec.getLsbD_or, BitVec.getLsbD_not, BitVec.getLsbD_zero, BitVec.getLsbD_xor, decide_true, Bool.true_and, hj, bit_at hj]
theorem next_m {b r : Cu} {i j : Nat} (hj : j < 64) : (nextR b r i).m.getLsbD j = (r.m.getLsbD j || decide (i = j)) := by
  simp only [nextR, BitVec.getLsbD_and, BitVec.getLsbD_or, BitVec.getLsbD_not, BitVec.getLsbD_zero, BitVec.getLsbD_xor, decide_true, Bool.true_and, hj, bit_at hj]
theorem piece_can {b r : Cu} {i : Nat} (h : can r) : can (piece b r i) := by
  intro j hj
  rw [piece_v hj, piece_m hj]
  have := h j hj
  revert this
  generalize r.v.getLsbD j = p; generalize r.m.getLsbD j = q; generalize b.v.getLsbD j = s; generalize decide (i = j) = t
  cases p <;> cases q <;> cases s <;> cases t <;> decide
theorem next_can {b r : Cu} {i : Nat} (h : can r) : can (nextR b r i) := by
  intro j hj
  rw [next_v hj, next_m hj]
  have := h j hj
  revert this
  generalize r.v.getLsbD j = p; generalize r.m.getLsbD j = q; generalize b.v.getLsbD j = s; generalize decide (i = j) = t
  cases p <;> cases q <;> cases s <;> cases t <;> decide
theorem piece_inW {b r : Cu} {i w : Nat} (h : inW r w) (hi : i < w) : inW (piece b r i) w := by
  intro j hj
  rw [piece_m hj, Bool.or_eq_true, decide_eq_true_eq]
  rintro (hm | rfl)
  · exact h j hj hm
  · exact hi
theorem next_inW {b r : Cu} {i w : Nat} (h : inW r w) (hi : i < w) : inW (nextR b r i) w := by
  intro j hj
  rw [next_m hj, Bool.or_eq_true, decide_eq_true_eq]
  rintro (hm | rfl)
  · exact h j hj hm
  · exact hi
theorem free_v {r : Cu} {i : Nat} (hr : can r) (hi : i < 64) (h : r.m.getLsbD i = false) : r.v.getLsbD i = false := by
  cases hv : r.v.getLsbD i with
  | false => rfl
  | true => rw [hr i hi hv] at h; cases h
theorem piece_sub {b r : Cu} {i : Nat} (hr : can r) (hi : i < 64) (h : r.m.getLsbD i = false) : sub (piece b r i) r = true := by
  refine sub_iff.2 fun j hj hm => ?_
  rw [piece_v hj, piece_m hj, hm]
  have e : decide (i = j) = false := decide_eq_false fun e => by subst e; rw [hm] at h; cases h
  rw [e]
  simp
theorem next_sub {b r : Cu} {i : Nat} (hr : can r) (hi : i < 64) (h : r.m.getLsbD i = false) : sub (nextR b r i) r = true := by
  refine sub_iff.2 fun j hj hm => ?_
  rw [next_v hj, next_m hj, hm]
  have e : decide (i = j) = false := decide_eq_false fun e => by subst e; rw [hm] at h; cases h
  rw [e]
  simp
theorem piece_mem {b r : Cu} {i : Nat} {n : W64} (hr : can r) (hi : i < 64) (h : r.m.getLsbD i = false) : mem (piece b r i) n = (mem r n && !decide (n.getLsbD i = b.v.getLsbD i)) := by
  rw [Bool.eq_iff_iff, Bool.and_eq_true]
  constructor
  · intro hm
    refine ⟨sub_mem (piece_sub hr hi h) hm, ?_⟩
    have := mem_iff.1 hm i hi
    rw [piece_v hi, piece_m hi, h, free_v hr hi h, decide_eq_true rfl] at this
    have := this rfl
    revert this
    cases b.v.getLsbD i <;> cases n.getLsbD i <;> decide
  · rintro ⟨h1, h2⟩
    refine mem_iff.2 fun j hj hm => ?_
    have e := mem_iff.1 h1 j hj
    rw [piece_v hj]
    rw [piece_m hj, Bool.or_eq_true, decide_eq_true_eq] at hm
    by_cases he : i = j
    · subst he
      rw [free_v hr hi h, decide_eq_true rfl]
      revert h2
      cases b.v.getLsbD i <;> cases n.getLsbD i <;> decide
    · rw [decide_eq_false he]
      simp
      exact e (hm.resolve_right he)
theorem next_mem {b r : Cu} {i : Nat} {n : W64} (hr : can r) (hi : i < 64) (h : r.m.getLsbD i = false) : mem (nextR b r i) n = (mem r n && decide (n.getLsbD i = b.v.getLsbD i)) := by
  rw [Bool.eq_iff_iff, Bool.and_eq_true]
  constructor
  · intro hm
    refine ⟨sub_mem (next_sub hr hi h) hm, ?_⟩
    have := mem_iff.1 hm i hi
    rw [next_v hi, next_m hi, h, free_v hr hi h, decide_eq_true rfl] at this
    have := this rfl
    revert this
    cases b.v.getLsbD i <;> cases n.getLsbD i <;> decide
  · rintro ⟨h1, h2⟩
    refine mem_iff.2 fun j hj hm => ?_
    have e := mem_iff.1 h1 j hj
    rw [next_v hj]
    rw [next_m hj, Bool.or_eq_true, decide_eq_true_eq] at hm
    by_cases he : i = j
    · subst he
      rw [free_v hr hi h, decide_eq_true rfl]
      revert h2
      cases b.v.getLsbD i <;> cases n.getLsbD i <;> decide
    · rw [decide_eq_false he]
      simp
      exact e (hm.resolve_right he)
/-- no bit below i parts n from b where r is free -/
def agree (b r : Cu) (n : W64) : Nat → Bool
  | 0 => true
  | i + 1 => (!(b.m.getLsbD i && !r.m.getLsbD i) || decide (n.getLsbD i = b.v.getLsbD i)) && agree b r n i
theorem agree_next {b r : Cu} {n : W64} {k : Nat} (hk : k < 64) : ∀ {i : Nat}, i ≤ k → agree b (nextR b r k) n i = agree b r n i
  | 0, _ => rfl
  | i + 1, h => by
    rw [agree, agree, agree_next hk (by omega), next_m (by omega), decide_eq_false (by omega), Bool.or_false]
theorem agree_iff {b r : Cu} {n : W64} : ∀ {i : Nat}, i ≤ 64 → (agree b r n i = true ↔ ∀ j, j < i → b.m.getLsbD j = true → r.m.getLsbD j = false → n.getLsbD j = b.v.getLsbD j)
  | 0, _ => by simp [agree]
  | i + 1, h => by
    rw [agree, Bool.and_eq_true, agree_iff (by omega)]
    constructor
    · rintro ⟨h1, h2⟩ j hj hb hr
      by_cases e : j = i
      · subst e; rw [hb, hr] at h1; simpa using h1
      · exact h2 j (by omega) hb hr
    · intro h2
      refine ⟨?_, fun j hj => h2 j (by omega)⟩
      have := h2 i (by omega)
      revert this
      generalize n.getLsbD i = p; generalize b.v.getLsbD i = q; generalize b.m.getLsbD i = s; generalize r.m.getLsbD i = t
      cases p <;> cases q <;> cases s <;> cases t <;> decide
def cnt (n : W64) (l : List Cu) : Nat := l.countP fun c => mem c n
theorem subGo_all {b : Cu} {w : Nat} (hw : w ≤ 64) : ∀ {i : Nat} {r : Cu}, i ≤ w → can r → inW r w → ∀ p ∈ subGo b i r, can p ∧ inW p w ∧ sub p r = true
  | 0, _, _, _, _, p, hp => by rw [subGo] at hp; cases hp
  | i + 1, r, hi, hc, hwr, p, hp => by
    rw [subGo] at hp
    split at hp
    · rename_i h
      simp only [Bool.and_eq_true, Bool.not_eq_true'] at h
      rcases List.mem_cons.1 hp with rfl | hp
      · exact ⟨piece_can hc, piece_inW hwr (by omega), piece_sub hc (by omega) h.2⟩
      · have e := subGo_all hw (by omega) (next_can hc) (next_inW hwr (by omega)) p hp
        exact ⟨e.1, e.2.1, sub_trans e.2.2 (next_sub hc (by omega) h.2)⟩
    · exact subGo_all hw (by omega) hc hwr p hp
theorem part_meet {b r p : Cu} {i : Nat} (hr : can r) (hi : i < 64) (h : r.m.getLsbD i = false) (hp : sub p (nextR b r i) = true) : (meet (piece b r i) p).2 = false := by
  cases hm : (meet (piece b r i) p).2 with
  | false => rfl
  | true =>
    have e := sub_iff.1 hp i hi (by rw [next_m hi, decide_eq_true rfl, Bool.or_true])
    have e2 := meet_iff.1 hm i hi (by rw [piece_m hi, decide_eq_true rfl, Bool.or_true]) e.1
    rw [e.2, piece_v hi, next_v hi, free_v hr hi h, decide_eq_true rfl] at e2
    revert e2
    cases b.v.getLsbD i <;> decide
theorem subGo_pairs {b : Cu} {w : Nat} (hw : w ≤ 64) : ∀ {i : Nat} {r : Cu}, i ≤ w → can r → inW r w → (subGo b i r).Pairwise fun p q => (meet p q).2 = false
  | 0, _, _, _, _ => by rw [subGo]; exact List.Pairwise.nil
  | i + 1, r, hi, hc, hwr => by
    rw [subGo]
    split
    · rename_i h
      simp only [Bool.and_eq_true, Bool.not_eq_true'] at h
      refine List.Pairwise.cons (fun q hq => ?_) (subGo_pairs hw (by omega) (next_can hc) (next_inW hwr (by omega)))
      exact part_meet hc (by omega) h.2 (subGo_all hw (by omega) (next_can hc) (next_inW hwr (by omega)) q hq).2.2
    · exact subGo_pairs hw (by omega) hc hwr
theorem subGo_cnt {b : Cu} {n : W64} : ∀ {i : Nat} {r : Cu}, i ≤ 64 → can r → cnt n (subGo b i r) = if mem r n = true ∧ agree b r n i = false then 1 else 0
  | 0, r, _, _ => by simp [subGo, agree, cnt]
  | i + 1, r, hi, hc => by
    rw [subGo, agree]
    split
    · rename_i h
      simp only [Bool.and_eq_true, Bool.not_eq_true'] at h
      have e := subGo_cnt (b := b) (n := n) (i := i) (r := nextR b r i) (by omega) (next_can hc)
      rw [agree_next (by omega) (Nat.le_refl _), next_mem hc (by omega) h.2] at e
      rw [cnt, List.countP_cons, ← cnt, e, piece_mem hc (by omega) h.2, h.1, h.2]
      generalize mem r n = p
      generalize n.getLsbD i = q
      generalize b.v.getLsbD i = s
      generalize agree b r n i = t
      cases p <;> cases q <;> cases s <;> cases t <;> decide
    · rename_i h
      have h' : (b.m.getLsbD i && !r.m.getLsbD i) = false := by simpa using h
      rw [h', subGo_cnt (by omega) hc]
      simp
theorem cut_can {c : Cu} {w : Nat} : can (cutC c w) := by
  intro j hj h
  simp only [cutC, BitVec.getLsbD_and, BitVec.getLsbD_or, BitVec.getLsbD_not, BitVec.getLsbD_zero, BitVec.getLsbD_xor, decide_true, Bool.true_and] at h ⊢
  rw [Bool.and_eq_true] at h
  exact h.2
theorem cut_inW {c : Cu} {w : Nat} (hw : w ≤ 64) : inW (cutC c w) w := by
  intro j hj h
  simp only [cutC, BitVec.getLsbD_and, BitVec.getLsbD_or, BitVec.getLsbD_not, BitVec.getLsbD_zero, BitVec.getLsbD_xor, decide_true, Bool.true_and, low_bit hw hj] at h
  simp only [Bool.and_eq_true, decide_eq_true_eq] at h
  exact h.2
theorem mem_canon {v m n : W64} : mem ⟨v &&& m, m⟩ n = mem ⟨v, m⟩ n := by
  rw [Bool.eq_iff_iff, mem_iff, mem_iff]
  refine forall_congr' fun j => forall_congr' fun hj => forall_congr' fun h => ?_
  simp only [BitVec.getLsbD_and, BitVec.getLsbD_or, BitVec.getLsbD_not, BitVec.getLsbD_zero, BitVec.getLsbD_xor, decide_true, Bool.true_and] at h ⊢
  rw [h, Bool.and_true]
theorem sub_all {a b : Cu} {k : Nat} (h1 : 1 ≤ k) (h2 : k ≤ 64) : ∀ p ∈ subL a b k, chkC p k = 0 := by
  have hok : okW (k : Int) = true := by simp only [okW, Bool.and_eq_true, decide_eq_true_eq]; omega
  intro p hp
  rw [subL, if_pos hok, Int.toNat_natCast] at hp
  split at hp
  · have e := subGo_all (b := cutC b k) h2 (Nat.le_refl _) (cut_can (c := a)) (cut_inW h2) p hp
    exact (chk_iff h1 h2).2 ⟨e.1, e.2.1⟩
  · obtain rfl := List.mem_singleton.1 hp
    exact (chk_iff h1 h2).2 ⟨cut_can, cut_inW h2⟩
theorem sub_pairs {a b : Cu} {k : Nat} (h1 : 1 ≤ k) (h2 : k ≤ 64) : (subL a b k).Pairwise fun p q => (meet p q).2 = false := by
  have hok : okW (k : Int) = true := by simp only [okW, Bool.and_eq_true, decide_eq_true_eq]; omega
  rw [subL, if_pos hok, Int.toNat_natCast]
  split
  · exact subGo_pairs h2 (Nat.le_refl _) cut_can (cut_inW h2)
  · exact List.pairwise_singleton _ _
theorem sub_cnt {a b : Cu} {k : Nat} {n : W64} (h1 : 1 ≤ k) (h2 : k ≤ 64) : cnt n (subL a b k) = if mem (cutC a k) n = true ∧ mem (cutC b k) n = false then 1 else 0 := by
  have hok : okW (k : Int) = true := by simp only [okW, Bool.and_eq_true, decide_eq_true_eq]; omega
  rw [subL, if_pos hok, Int.toNat_natCast]
  split
  · rename_i hm
    rw [subGo_cnt h2 cut_can]
    by_cases ha : mem (cutC a k) n = true
    · have e : agree (cutC b k) (cutC a k) n k = mem (cutC b k) n := by
        rw [Bool.eq_iff_iff, agree_iff h2, mem_iff]
        constructor
        · intro h j hj hb
          cases hma : (cutC a k).m.getLsbD j with
          | false => exact (h j (cut_inW h2 j hj hb) hb hma).symm
          | true => exact (meet_iff.1 hm j hj hma hb).symm.trans (mem_iff.1 ha j hj hma)
        · intro h j hj hb _
          exact (h j (by omega) hb).symm
      rw [e]
    · rw [if_neg (fun h => ha h.1), if_neg (fun h => ha h.1)]
  · rename_i hm
    have hm : (meet (cutC a k) (cutC b k)).2 = false := by simpa using hm
    by_cases ha : mem (cutC a k) n = true
    · rw [if_pos ⟨ha, not_meet hm ha⟩]
      simp [cnt, ha]
    · rw [if_neg (fun h => ha h.1)]
      simp [cnt, ha]
end Go.Proofs.Ytopnabckbpogeaa

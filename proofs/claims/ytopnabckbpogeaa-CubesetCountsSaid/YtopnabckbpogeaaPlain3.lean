/-
  Chapter 8: numbers of members, in plain words.
-/
import Derived.Test.YtopnabckbpogeaaPlain2
import Derived.Test.YtopnabckbpogeaaCount
set_option maxRecDepth 100000
set_option maxHeartbeats 4000000
set_option linter.all false
namespace Go.Proofs.Ytopnabckbpogeaa
open Go.Vm

/-- the sum of f over the numbers of k bits -/
def Sg (k : Nat) (f : W64 → Nat) : Nat := ((List.range (2 ^ k)).map fun i => f (BitVec.ofNat 64 i)).sum
theorem sum_add {α : Type} {f g : α → Nat} : ∀ {l : List α}, (l.map fun i => f i + g i).sum = (l.map f).sum + (l.map g).sum
  | [] => rfl
  | x :: l => by simp only [List.map_cons, List.sum_cons, sum_add (l := l)]; omega
theorem sum_le {α : Type} {f g : α → Nat} (h : ∀ i, f i ≤ g i) : ∀ {l : List α}, (l.map f).sum ≤ (l.map g).sum
  | [] => Nat.le_refl _
  | x :: l => by simp only [List.map_cons, List.sum_cons]; have := sum_le h (l := l); have := h x; omega
theorem Sg_add {k : Nat} {f g : W64 → Nat} : Sg k (fun n => f n + g n) = Sg k f + Sg k g := sum_add
theorem Sg_le {k : Nat} {f g : W64 → Nat} (h : ∀ n, f n ≤ g n) : Sg k f ≤ Sg k g := sum_le fun i => h _
theorem Sg_congr {k : Nat} {f g : W64 → Nat} (h : ∀ n, f n = g n) : Sg k f = Sg k g := by rw [show f = g from funext h]
theorem sum_const {c : Nat} : ∀ {l : List Nat}, (l.map fun _ => c).sum = l.length * c
  | [] => by simp
  | x :: l => by simp only [List.map_cons, List.sum_cons, sum_const (l := l), List.length_cons, Nat.add_mul]; omega
theorem Sg_const {k c : Nat} : Sg k (fun _ => c) = 2 ^ k * c := by
  rw [Sg, sum_const, List.length_range]
theorem Sg_zero {k : Nat} : Sg k (fun _ => 0) = 0 := by rw [Sg_const, Nat.mul_zero]
def one (b : Bool) : Nat := if b = true then 1 else 0
/-- how many numbers of k bits fulfil p -/
def N (k : Nat) (p : W64 → Bool) : Nat := Sg k fun n => one (p n)
def memK (c : Cu) (k i : Nat) : Bool := (List.range k).all fun j => !c.m.getLsbD j || decide (c.v.getLsbD j = i.testBit j)
theorem memK_succ {c : Cu} {k i : Nat} : memK c (k + 1) i = (memK c k i && (!c.m.getLsbD k || decide (c.v.getLsbD k = i.testBit k))) := by
  rw [memK, List.range_succ, List.all_append, ← memK]; simp
theorem memK_cong {c : Cu} {k i i' : Nat} (h : ∀ j, j < k → i.testBit j = i'.testBit j) : memK c k i = memK c k i' := by
  rw [Bool.eq_iff_iff, memK, memK, List.all_eq_true, List.all_eq_true]
  refine forall_congr' fun j => forall_congr' fun hj => ?_
  rw [h j (List.mem_range.1 hj)]
theorem pop_bit {x : W64} {k : Nat} : pop (k + 1) x.toNat = pop k x.toNat + if x.getLsbD k = true then 1 else 0 := by
  rw [pop_succ, BitVec.getLsbD, Nat.testBit_eq_decide_div_mod_eq]
  have : x.toNat / 2 ^ k % 2 = 0 ∨ x.toNat / 2 ^ k % 2 = 1 := by omega
  rcases this with h | h <;> simp [h]
theorem sum_memK {c : Cu} : ∀ {k : Nat}, ((List.range (2 ^ k)).map fun i => one (memK c k i)).sum = 2 ^ (k - pop k c.m.toNat)
  | 0 => by simp [memK, one, pop]
  | k + 1 => by
    have ih := @sum_memK c k
    have hp := pop_le k c.m.toNat
    rw [Nat.pow_succ, Nat.mul_two, List.range_add, List.map_append, List.sum_append, List.map_map, pop_bit]
    have e1 : ((List.range (2 ^ k)).map fun i => one (memK c (k + 1) i)) = (List.range (2 ^ k)).map fun i => one (memK c k i && (!c.m.getLsbD k || decide (c.v.getLsbD k = false))) := by
      refine List.map_congr_left fun i hi => ?_
      rw [memK_succ, Nat.testBit_lt_two_pow (List.mem_range.1 hi)]
    have e2 : ((List.range (2 ^ k)).map ((fun i => one (memK c (k + 1) i)) ∘ fun i => 2 ^ k + i)) = (List.range (2 ^ k)).map fun i => one (memK c k i && (!c.m.getLsbD k || decide (c.v.getLsbD k = true))) := by
      refine List.map_congr_left fun i hi => ?_
      rw [Function.comp, memK_succ, Nat.testBit_two_pow_add_eq, Nat.testBit_lt_two_pow (List.mem_range.1 hi), Bool.not_false,
        memK_cong (i' := i) fun j hj => Nat.testBit_two_pow_add_gt hj i]
    rw [e1, e2]
    cases hm : c.m.getLsbD k with
    | true =>
      rw [if_pos rfl, show k + 1 - (pop k c.m.toNat + 1) = k - pop k c.m.toNat by omega, ← ih]
      cases c.v.getLsbD k
      · simp [one, sum_const]
      · simp [one, sum_const]
    | false =>
      rw [if_neg (by simp), show k + 1 - (pop k c.m.toNat + 0) = k - pop k c.m.toNat + 1 by omega, Nat.pow_succ, Nat.mul_two, ← ih]
      simp
theorem mem_memK {c : Cu} {k i : Nat} (h2 : k ≤ 64) (h : inW c k) : mem c (BitVec.ofNat 64 i) = memK c k i := by
  rw [Bool.eq_iff_iff, mem_iff, memK, List.all_eq_true]
  constructor
  · intro g j hj
    have hj := List.mem_range.1 hj
    cases hm : c.m.getLsbD j with
    | false => rfl
    | true =>
      have := g j (by omega) hm
      rw [this, BitVec.getLsbD_ofNat]
      simp [show j < 64 by omega]
  · intro g j hj hm
    have := g j (List.mem_range.2 (h j hj hm))
    rw [hm] at this
    simp at this
    rw [this, BitVec.getLsbD_ofNat]
    simp [hj]
theorem N_mem {c : Cu} {k : Nat} (h2 : k ≤ 64) (h : inW c k) : N k (mem c) = 2 ^ frN c k := by
  rw [frN, ← sum_memK, N, Sg]
  congr 2
  funext i
  rw [mem_memK h2 h]
theorem one_le {b : Bool} : one b ≤ 1 := by cases b <;> decide
theorem cnt_cons1 {c : Cu} {l : List Cu} {n : W64} : cnt n (c :: l) = one (mem c n) + cnt n l := by
  rw [cnt, List.countP_cons, ← cnt, one]; omega
theorem sumF_nat {k : Nat} (h2 : k ≤ 64) : ∀ {l : List Cu}, (∀ c, c ∈ l → Ok k c) → sumF k l = BitVec.ofNat 64 (Sg k fun n => cnt n l)
  | [], _ => by
    have : (fun n : W64 => cnt n []) = fun _ => 0 := by funext n; rfl
    rw [this, Sg_zero]; rfl
  | c :: l, h => by
    have ih := sumF_nat h2 (l := l) fun d hd => h d (List.mem_cons_of_mem _ hd)
    rw [sumF, ih, show (fun n => cnt n (c :: l)) = fun n => one (mem c n) + cnt n l from funext fun n => cnt_cons1, Sg_add, ← N, N_mem h2 (h c (List.mem_cons_self ..)).2, BitVec.ofNat_add, bit]
    congr 1
    apply BitVec.eq_of_toNat_eq
    rw [BitVec.toNat_shiftLeft, Nat.shiftLeft_eq, BitVec.toNat_ofNat, BitVec.toNat_ofNat]
    simp
theorem cnt_one {l : List Cu} {n : W64} (h : cnt n l ≤ 1) : cnt n l = one (anyMem l n) := by
  rw [cnt_any, one]
  split <;> simp_all <;> omega
theorem sumF_apart {k : Nat} (h2 : k ≤ 64) {l : List Cu} (h : ∀ c, c ∈ l → Ok k c) (ha : ∀ n, cnt n l ≤ 1) : sumF k l = BitVec.ofNat 64 (N k (anyMem l)) := by
  rw [sumF_nat h2 h, N]
  congr 1
  exact Sg_congr fun n => cnt_one (ha n)
theorem N_congr {k : Nat} {p q : W64 → Bool} (h : ∀ n, p n = q n) : N k p = N k q := by rw [show p = q from funext h]
theorem N_split {k : Nat} {p q : W64 → Bool} : N k (fun n => p n || q n) = N k p + N k (fun n => q n && !p n) := by
  rw [N, N, N, ← Sg_add]
  exact Sg_congr fun n => by cases p n <;> cases q n <;> decide
theorem N_parts {k : Nat} {p q : W64 → Bool} : N k p = N k (fun n => p n && !q n) + N k (fun n => p n && q n) := by
  rw [N, N, N, ← Sg_add]
  exact Sg_congr fun n => by cases p n <;> cases q n <;> decide
theorem N_not {k : Nat} {p : W64 → Bool} : N k (fun n => !p n) + N k p = 2 ^ k := by
  rw [N, N, ← Sg_add, ← Nat.mul_one (2 ^ k), ← Sg_const]
  exact Sg_congr fun n => by cases p n <;> decide
/-- what Count answers -/
theorem cnt8To_spec {s : List Cu} {k : Nat} (h1 : 1 ≤ k) (h2 : k ≤ 64) : ∀ {i : Nat} {x : W64}, i ≤ s.length → cnt8To s k i = (x, 0) → x = BitVec.ofNat 64 (N k (anyMem ((s.take i).map fun c => cutC c k)))
  | 0, x, _, h => by
    rw [cnt8To] at h
    cases h
    rw [List.take_zero, List.map_nil, show anyMem [] = fun _ => false from rfl, N, show (fun _ : W64 => one false) = fun _ => 0 from rfl, Sg_zero]
  | i + 1, x, hi, h => by
    rw [cnt8To] at h
    split at h
    · rename_i h3
      have ih := cnt8To_spec h1 h2 (i := i) (x := (cnt8To s k i).fst) (by omega) (Prod.ext rfl h3)
      split at h
      · rename_i h4
        cases h
        obtain ⟨g1, g2, g3⟩ := subt8_spec h1 h2 (Prod.ext rfl h4 : subt8 [cat s i] (s.take i) k = ((subt8 [cat s i] (s.take i) k).1, 0))
        rw [sumF_apart h2 g1 (g3 fun n => by simp [cnt]; split <;> omega), ih, ← BitVec.ofNat_add]
        congr 1
        rw [List.take_succ_eq_append_getElem hi, List.map_append, show anyMem ((s.take i).map (fun c => cutC c k) ++ [s[i]].map fun c => cutC c k) = fun n => anyMem ((s.take i).map fun c => cutC c k) n || anyMem ([s[i]].map fun c => cutC c k) n from funext fun n => any_append, N_split]
        congr 1
        refine N_congr fun n => ?_
        rw [g2, cat_at hi]
      · rename_i h4
        exact absurd (congrArg Prod.snd h) h4
    · rename_i h4
      exact absurd (congrArg Prod.snd h) h4
theorem count8_spec {s : List Cu} {k : Nat} {x : W64} (h1 : 1 ≤ k) (h2 : k ≤ 62) (h : count8 s k = (x, 0)) : x = BitVec.ofNat 64 (N k (anyMem (s.map fun c => cutC c k))) := by
  rw [count8, if_pos (by omega), Int.toNat_natCast] at h
  have := cnt8To_spec h1 (by omega) (Nat.le_refl _) h
  rwa [List.take_length] at this
end Go.Proofs.Ytopnabckbpogeaa

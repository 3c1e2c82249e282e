/-
  Chapter 8: few bits never come to the limit; counting down; the smallest member.
-/
import Derived.Test.YtopnabckbpogeaaPlain4
import Derived.Test.YtopnabckbpogeaaMin
set_option maxRecDepth 100000
set_option maxHeartbeats 4000000
set_option linter.all false
namespace Go.Proofs.Ytopnabckbpogeaa
open Go.Vm

theorem len_Sg {k : Nat} (h2 : k ≤ 64) : ∀ {l : List Cu}, (∀ c, c ∈ l → Ok k c) → l.length ≤ Sg k fun n => cnt n l
  | [], _ => Nat.zero_le _
  | c :: l, h => by
    have ih := len_Sg h2 (l := l) fun d hd => h d (List.mem_cons_of_mem _ hd)
    rw [show (fun n => cnt n (c :: l)) = fun n => one (mem c n) + cnt n l from funext fun n => cnt_cons1, Sg_add, ← N, N_mem h2 (h c (List.mem_cons_self ..)).2, List.length_cons]
    have := Nat.one_le_two_pow (n := frN c k)
    omega
theorem len_pow {k : Nat} (h2 : k ≤ 64) {l : List Cu} (h : ∀ c, c ∈ l → Ok k c) (ha : ∀ n, cnt n l ≤ 1) : l.length ≤ 2 ^ k := by
  refine Nat.le_trans (len_Sg h2 h) (Nat.le_trans (Sg_le ha) ?_)
  rw [Sg_const, Nat.mul_one]
  exact Nat.le_refl _
theorem subt8Go_ok {k : Nat} (h1 : 1 ≤ k) (h2 : k ≤ 9) : ∀ {ys l : List Cu}, (∀ c, c ∈ l → Ok k c) → (∀ n, cnt n l ≤ 1) → (subt8Go k ys l).2 = 0
  | [], _, _, _ => rfl
  | y :: ys, l, h, ha => by
    have h64 : k ≤ 64 := by omega
    have o := ok_simp8 (ok_outs (l := l) (y := y) h1 h64)
    have c : ∀ n, cnt n (simp8 (outs l y k)) ≤ 1 := fun n => by
      refine Nat.le_trans cnt_simp8 ?_
      rw [cnt_outs h1 h64 h]
      split
      · exact Nat.zero_le _
      · exact ha n
    have hl := len_pow h64 o c
    have h9 : 2 ^ k ≤ 2 ^ 9 := Nat.pow_le_pow_right (by omega) h2
    rw [subt8Go, if_neg (by omega)]
    exact subt8Go_ok h1 h2 o c
theorem subt8_ok {k : Nat} (h1 : 1 ≤ k) (h2 : k ≤ 9) {x : Cu} {b : List Cu} : (subt8 [x] b k).2 = 0 := by
  have hw : okW (k : Int) = true := by simp only [okW, Bool.and_eq_true, decide_eq_true_eq]; omega
  have hl := simp8_len (l := [x].map fun c => cutC c k)
  rw [List.length_map, List.length_singleton] at hl
  rw [subt8, if_pos hw, Int.toNat_natCast, if_neg (by omega)]
  refine subt8Go_ok h1 h2 (ok_simp8 (ok_map (by omega))) fun n => Nat.le_trans cnt_simp8 ?_
  simp [cnt]
  split <;> omega
theorem count8_ok {s : List Cu} {k : Nat} (h1 : 1 ≤ k) (h2 : k ≤ 9) : (count8 s k).2 = 0 := by
  rw [count8, if_pos (by omega), Int.toNat_natCast]
  have key : ∀ i, (cnt8To s k i).2 = 0 := by
    intro i
    induction i with
    | zero => rfl
    | succ i ih => rw [cnt8To, if_pos ih, if_pos (subt8_ok h1 h2)]
  exact key _
/-- counting down -/
def stp (p : Nat → Bool) (M : Nat) : Nat → Nat × Nat
  | 0 => (0, 0)
  | d + 1 => if p (M - 1 - d) = true then ((stp p M d).1 + 1, M - 1 - d) else stp p M d
theorem stp_le {p : Nat → Bool} {M : Nat} : ∀ {d : Nat}, (stp p M d).1 ≤ d ∧ (stp p M d).2 ≤ M
  | 0 => ⟨Nat.le_refl _, Nat.zero_le _⟩
  | d + 1 => by
    have := stp_le (p := p) (M := M) (d := d)
    rw [stp]
    split
    · simp only; omega
    · omega
theorem stp_sum {p : Nat → Bool} {M : Nat} : ∀ {d : Nat}, d ≤ M → (stp p M d).1 = (((List.range M).drop (M - d)).map fun i => one (p i)).sum
  | 0, _ => by rw [List.drop_of_length_le (by simp)]; rfl
  | d + 1, h => by
    have ih := stp_sum (p := p) (M := M) (d := d) (by omega)
    have hi : M - (d + 1) < (List.range M).length := by rw [List.length_range]; omega
    rw [stp, List.drop_eq_getElem_cons hi, List.getElem_range, List.map_cons, List.sum_cons, show M - (d + 1) + 1 = M - d by omega, ← ih, show M - 1 - d = M - (d + 1) by omega]
    cases p (M - (d + 1)) <;> simp [one] <;> omega
theorem stp_min {p : Nat → Bool} {M : Nat} : ∀ {d : Nat}, d ≤ M → ∀ i, M - d ≤ i → i < M → p i = true → p (stp p M d).2 = true ∧ (stp p M d).2 ≤ i
  | 0, _, i, h1, h2, _ => by omega
  | d + 1, h, i, h1, h2, hp => by
    rw [stp]
    split
    · rename_i h3; exact ⟨h3, by simp only; omega⟩
    · rename_i h3
      have : i ≠ M - 1 - d := fun e => h3 (e ▸ hp)
      exact stp_min (by omega) i (by omega) h2 hp
theorem stp_N {q : W64 → Bool} {k : Nat} : (stp (fun i => q (BitVec.ofNat 64 i)) (2 ^ k) (2 ^ k)).1 = N k q := by
  rw [stp_sum (Nat.le_refl _), Nat.sub_self, List.drop_zero]
  rfl
def lowC (k : Nat) (c : Cu) : Cu := ⟨c.v &&& low k, c.m &&& low k⟩
theorem canon_lowC {k : Nat} {c : Cu} : canon (lowC k c) = cutC c k := by
  simp only [canon, lowC, cutC]
  congr 1
  rw [BitVec.and_assoc, ← BitVec.and_assoc (low k), BitVec.and_comm (low k) c.m, BitVec.and_assoc c.m, BitVec.and_self]
theorem any_lowC {k : Nat} {a : List Cu} {n : W64} : anyMem (a.map (lowC k)) n = anyMem (a.map fun c => cutC c k) n := by
  rw [anyMem, anyMem, List.any_map, List.any_map]
  congr 1
  funext c
  rw [Function.comp, Function.comp, ← canon_lowC, mem_canon1]
theorem least_le {c : Cu} {n : W64} (h : mem c n = true) : (least c).toNat ≤ n.toNat := by
  rw [mem_alt, decide_eq_true_eq] at h
  rw [least, ← h, BitVec.toNat_and]
  exact Nat.and_le_left
theorem minW_or {x y : W64} : (minW x y = x ∨ minW x y = y) ∧ (minW x y).toNat ≤ x.toNat ∧ (minW x y).toNat ≤ y.toNat := by
  rw [minW]
  split
  · exact ⟨.inr rfl, by omega, Nat.le_refl _⟩
  · exact ⟨.inl rfl, Nat.le_refl _, by omega⟩
theorem minGo_spec : ∀ {l : List Cu} {z : W64}, (minGo z l = z ∨ ∃ c, c ∈ l ∧ minGo z l = least c) ∧ (minGo z l).toNat ≤ z.toNat ∧ ∀ c, c ∈ l → (minGo z l).toNat ≤ (least c).toNat
  | [], z => ⟨.inl rfl, Nat.le_refl _, by simp⟩
  | c :: l, z => by
    obtain ⟨g1, g2, g3⟩ := minGo_spec (l := l) (z := minW z (c.v &&& c.m))
    obtain ⟨m1, m2, m3⟩ := minW_or (x := z) (y := c.v &&& c.m)
    rw [minGo]
    refine ⟨?_, by omega, fun d hd => ?_⟩
    · rcases g1 with g1 | ⟨d, hd, g1⟩
      · rcases m1 with m1 | m1
        · exact .inl (by rw [g1, m1])
        · exact .inr ⟨c, List.mem_cons_self .., by rw [g1, m1]; rfl⟩
      · exact .inr ⟨d, List.mem_cons_of_mem _ hd, g1⟩
    · rcases List.mem_cons.1 hd with rfl | hd
      · have : (least d).toNat = (d.v &&& d.m).toNat := rfl
        omega
      · exact g3 d hd
theorem min8_spec {l : List Cu} (h : l ≠ []) : (min8 l).2 = true ∧ anyMem l (min8 l).1 = true ∧ ∀ n, anyMem l n = true → (min8 l).1.toNat ≤ n.toNat := by
  cases l with
  | nil => exact absurd rfl h
  | cons c l =>
    obtain ⟨g1, g2, g3⟩ := minGo_spec (l := l) (z := c.v &&& c.m)
    refine ⟨rfl, ?_, fun n hn => ?_⟩
    · rw [min8, any_iff]
      rcases g1 with g1 | ⟨d, hd, g1⟩
      · exact ⟨c, List.mem_cons_self .., by simp only; rw [g1]; exact mem_least⟩
      · exact ⟨d, List.mem_cons_of_mem _ hd, by simp only; rw [g1]; exact mem_least⟩
    · obtain ⟨d, hd, hm⟩ := any_iff.1 hn
      have := least_le hm
      rw [min8]
      simp only
      rcases List.mem_cons.1 hd with rfl | hd
      · exact Nat.le_trans g2 this
      · exact Nat.le_trans (g3 d hd) this
theorem least_low {k : Nat} {c : Cu} (h2 : k ≤ 64) : (least (lowC k c)).toNat < 2 ^ k := by
  have e : least (lowC k c) = (c.v &&& (c.m &&& low k)) := congrArg Cu.v canon_lowC
  rw [e, ← BitVec.and_assoc, and_low h2]
  exact Nat.mod_lt _ (Nat.two_pow_pos _)
theorem min8_first {a : List Cu} {k : Nat} (h2 : k ≤ 63) (h : a ≠ []) : (stp (fun i => anyMem (a.map (lowC k)) (BitVec.ofNat 64 i)) (2 ^ k) (2 ^ k)).2 = (min8 (a.map (lowC k))).1.toNat := by
  obtain ⟨_, g1, g2⟩ := min8_spec (l := a.map (lowC k)) (by simpa using h)
  have hlt : (min8 (a.map (lowC k))).1.toNat < 2 ^ k := by
    obtain ⟨c, hc, hm⟩ := any_iff.1 g1
    obtain ⟨d, _, rfl⟩ := List.mem_map.1 hc
    have := g2 (least (lowC k d)) (any_iff.2 ⟨_, hc, mem_least⟩)
    have := least_low (k := k) (c := d) (by omega)
    omega
  obtain ⟨f1, f2⟩ := stp_min (p := fun i => anyMem (a.map (lowC k)) (BitVec.ofNat 64 i)) (Nat.le_refl (2 ^ k)) (min8 (a.map (lowC k))).1.toNat (by omega) hlt (by simp only [BitVec.ofNat_toNat, BitVec.setWidth_eq]; exact g1)
  have f3 := g2 _ f1
  have h64 : 2 ^ k < 2 ^ 64 := Nat.pow_lt_pow_right (by omega) (by omega)
  rw [BitVec.toNat_ofNat, Nat.mod_eq_of_lt (by omega)] at f3
  omega
end Go.Proofs.Ytopnabckbpogeaa

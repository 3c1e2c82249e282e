/-
  Chapter 8: differences, intersections, unions, counts as the laws use them.
-/
import Derived.Test.YtopnabckbpogeaaPlain3
import Derived.Test.YtopnabckbpogeaaL11
set_option maxRecDepth 100000
set_option maxHeartbeats 4000000
set_option linter.all false
namespace Go.Proofs.Ytopnabckbpogeaa
open Go.Vm

theorem pair_eq {α β : Type} {p : α × β} {x : β} (h : p.2 = x) : p = (p.1, x) := by rw [← h]
theorem laxs_Cs : ∀ {a : List Cu}, laxs (a.flatMap encC) = a.flatMap encC
  | [] => rfl
  | x :: a => by rw [List.flatMap_cons, laxs_append, laxs_Cs]; rfl
theorem lax_slC {a : List Cu} : lax (slC a) = slC a := by rw [slC, lax, laxs_Cs]
theorem pc49n (a : List Cu) (w : Int) (ha : a.length ≤ 1000000) : PC Try.prog 49 [slC a, .sl true [] 0, .int .i64 w] (encLE (subt8 a [] w)) := by
  refine PC.lax ?_
  have := pc49 a [] w ha (by simp)
  rw [laxs, laxs, laxs, laxs, lax_slC]
  exact this
theorem subt8_cases {a b : List Cu} {k : Nat} (h1 : 1 ≤ k) (h2 : k ≤ 64) : (∃ r, subt8 a b k = (r, 0)) ∨ subt8 a b k = ([], 12) := by
  by_cases h : (subt8 a b k).2 = 0
  · exact .inl ⟨_, pair_eq h⟩
  · exact .inr (subt8_bad h1 h2 h)
theorem inter8_cases {a b : List Cu} : (∃ r, inter8 a b = (r, 0)) ∨ inter8 a b = ([], 12) := by
  by_cases h : (inter8 a b).2 = 0
  · exact .inl ⟨_, pair_eq h⟩
  · exact .inr (inter8_bad h)
theorem fin8_cases {l : List Cu} : (∃ r, fin8 l = (r, 0)) ∨ fin8 l = ([], 12) := by
  rw [fin8]
  split
  · exact .inr rfl
  · exact .inl ⟨_, rfl⟩
theorem subset8_cases {a b : List Cu} {k : Nat} (h1 : 1 ≤ k) (h2 : k ≤ 64) : (∃ r, subset8 a b k = (r, 0)) ∨ subset8 a b k = (false, 12) := by
  rw [subset8]
  rcases subt8_cases (a := a) (b := b) h1 h2 with ⟨r, h⟩ | h
  · rw [h, if_pos rfl]; exact .inl ⟨_, rfl⟩
  · rw [h, if_neg (by decide)]; exact .inr rfl
theorem equal8_cases {a b : List Cu} {k : Nat} (h1 : 1 ≤ k) (h2 : k ≤ 64) : (∃ r, equal8 a b k = (r, 0)) ∨ equal8 a b k = (false, 12) := by
  rw [equal8]
  rcases subset8_cases (a := a) (b := b) h1 h2 with ⟨r, h⟩ | h
  · rw [h, if_pos rfl]
    rcases subset8_cases (a := b) (b := a) h1 h2 with ⟨r, h⟩ | h
    · rw [h, if_pos rfl]; exact .inl ⟨_, rfl⟩
    · rw [h, if_neg (by decide)]; exact .inr rfl
  · rw [h, if_neg (by decide)]; exact .inr rfl
theorem count8_cases {s : List Cu} {k : Nat} (h1 : 1 ≤ k) (h2 : k ≤ 62) : (∃ x, count8 s k = (x, 0)) ∨ count8 s k = (0#64, 12) := by
  rw [count8, if_pos (by omega), Int.toNat_natCast]
  have key : ∀ i, (∃ x, cnt8To s k i = (x, 0)) ∨ cnt8To s k i = (0#64, 12) := by
    intro i
    induction i with
    | zero => exact .inl ⟨_, rfl⟩
    | succ i ih =>
      rw [cnt8To]
      rcases ih with ⟨x, h⟩ | h
      · rw [h, if_pos rfl]
        rcases subt8_cases (a := [cat s i]) (b := s.take i) h1 (by omega : k ≤ 64) with ⟨r, h⟩ | h
        · rw [h, if_pos rfl]; exact .inl ⟨_, rfl⟩
        · rw [h, if_neg (by decide)]; exact .inr rfl
      · rw [h, if_neg (by decide)]; exact .inr rfl
  exact key _
theorem map_cut {k : Nat} {l : List Cu} (h2 : k ≤ 64) (h : ∀ c, c ∈ l → Ok k c) : (l.map fun c => cutC c k) = l := by
  have : l.map (fun c => cutC c k) = l.map id := List.map_congr_left fun c hc => cut_ok h2 (h c hc)
  rw [this, List.map_id]
theorem subset8_true {a b : List Cu} {k : Nat} {r : Bool} (h1 : 1 ≤ k) (h2 : k ≤ 64) (h : subset8 a b k = (r, 0)) (hs : ∀ n, anyMem (a.map fun c => cutC c k) n = true → anyMem (b.map fun c => cutC c k) n = true) : r = true := by
  rw [subset8] at h
  rcases subt8_cases (a := a) (b := b) h1 h2 with ⟨l, e⟩ | e
  · rw [e, if_pos rfl] at h
    have hl : l = [] := none_nil fun n => by
      rw [(subt8_spec h1 h2 e).2.1 n]
      have := hs n
      cases h3 : anyMem (a.map fun c => cutC c k) n
      · rfl
      · rw [this h3]; rfl
    subst hl
    exact (congrArg Prod.fst h).symm
  · rw [e, if_neg (by decide)] at h
    exact absurd (show (12 : Int) = 0 from congrArg Prod.snd h) (by decide)
theorem equal8_true {a b : List Cu} {k : Nat} {r : Bool} (h1 : 1 ≤ k) (h2 : k ≤ 64) (h : equal8 a b k = (r, 0)) (hs : ∀ n, anyMem (a.map fun c => cutC c k) n = anyMem (b.map fun c => cutC c k) n) : r = true := by
  rw [equal8] at h
  rcases subset8_cases (a := a) (b := b) h1 h2 with ⟨x, e⟩ | e
  · rcases subset8_cases (a := b) (b := a) h1 h2 with ⟨y, e2⟩ | e2
    · rw [e, e2, if_pos rfl, if_pos rfl] at h
      have hx := subset8_true h1 h2 e fun n hn => by rw [← hs]; exact hn
      have hy := subset8_true h1 h2 e2 fun n hn => by rw [hs]; exact hn
      rw [hx, hy] at h
      exact (congrArg Prod.fst h).symm
    · rw [e, e2, if_pos rfl, if_neg (by decide)] at h
      exact absurd (show (12 : Int) = 0 from congrArg Prod.snd h) (by decide)
  · rw [e, if_neg (by decide)] at h
    exact absurd (show (12 : Int) = 0 from congrArg Prod.snd h) (by decide)
theorem subt8_nil {a : List Cu} {k : Nat} (h1 : 1 ≤ k) (h2 : k ≤ 64) (ha : a.length ≤ 1024) : subt8 a [] k = (simp8 (a.map fun c => cutC c k), 0) := by
  have hw : okW (k : Int) = true := by simp only [okW, Bool.and_eq_true, decide_eq_true_eq]; omega
  have hl := simp8_len (l := a.map fun c => cutC c k)
  rw [List.length_map] at hl
  rw [subt8, if_pos hw, Int.toNat_natCast, if_neg (by omega), subt8Go]
theorem count_parts {a b S I : List Cu} {k : Nat} {p c d : W64} (h1 : 1 ≤ k) (h2 : k ≤ 62) (hp : count8 S k = (p, 0)) (hc : count8 I k = (c, 0)) (hd : count8 a k = (d, 0))
    (hS : ∀ n, anyMem (S.map fun c => cutC c k) n = (anyMem (a.map fun c => cutC c k) n && !anyMem b n)) (hI : ∀ n, anyMem (I.map fun c => cutC c k) n = (anyMem (a.map fun c => cutC c k) n && anyMem b n)) : p + c = d := by
  rw [count8_spec h1 h2 hp, count8_spec h1 h2 hc, count8_spec h1 h2 hd, ← BitVec.ofNat_add, N_congr hS, N_congr hI, ← N_parts]
theorem count_not {a c : List Cu} {k : Nat} {n m : W64} (h1 : 1 ≤ k) (h2 : k ≤ 62) (hn : count8 c k = (n, 0)) (hm : count8 a k = (m, 0))
    (hc : ∀ n, anyMem (c.map fun c => cutC c k) n = !anyMem (a.map fun c => cutC c k) n) : n + m = bit k := by
  rw [count8_spec h1 h2 hn, count8_spec h1 h2 hm, ← BitVec.ofNat_add, N_congr hc, N_not, bit]
  apply BitVec.eq_of_toNat_eq
  rw [BitVec.toNat_shiftLeft, Nat.shiftLeft_eq, BitVec.toNat_ofNat]
  simp
end Go.Proofs.Ytopnabckbpogeaa

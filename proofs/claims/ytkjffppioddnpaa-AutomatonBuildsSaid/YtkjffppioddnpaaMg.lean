/-
  Joined by a program from the texts Sbs Glu Ptq Sbw L3.
-/
import Derived.Test.YtkjffppioddnpaaMe
import Derived.Test.YtkjffppioddnpaaMf
import Derived.Test.YtkjffppioddnpaaMc
import Derived.Test.YtkjffppioddnpaaMd
/- Chapter 42: a subset construction of any step (plain). -/
set_option maxRecDepth 100000
set_option maxHeartbeats 4000000
set_option linter.all false
namespace Go.Proofs.Ytkjffppioddnpaa
open Go.Vm
structure Gd where
  sets : List Gs
  rows : List (List Int)
  accs : List Bool
abbrev Stp := Gs → Int → Gs × Bool
def grI (st : Stp) (s : Gs) (j : Nat) (q : List Gs × List Int) : List Gs × List Int :=
  if (st s j).2 = false then (q.1, q.2 ++ [-1])
  else match idxG (st s j).1 q.1 with
    | some k => (q.1, q.2 ++ [(k : Int)])
    | none => (q.1 ++ [(st s j).1], q.2 ++ [(q.1.length : Int)])
def grN (st : Stp) (s : Gs) (sets : List Gs) : Nat → List Gs × List Int
  | 0 => (sets, [])
  | n + 1 => grI st s n (grN st s sets n)
def gdI (st : Stp) (m i : Nat) (d : Gd) : Gd :=
  match d.sets[i]? with
  | some s => ⟨(grN st s d.sets m).1, d.rows ++ [(grN st s d.sets m).2], d.accs ++ [s.ac]⟩
  | none => d
def gdN (st : Stp) (m : Nat) (s0 : Gs) : Nat → Gd
  | 0 => ⟨[s0], [], []⟩
  | i + 1 => gdI st m i (gdN st m s0 i)
def b24 (x : W32) : Prop := ∀ i, x.getLsbD i = true → i < 24
theorem idxG_some {x : Gs} : ∀ {l : List Gs} {k : Nat}, idxG x l = some k → l[k]? = some x
  | [], k, h => by simp [idxG] at h
  | y :: r, k, h => by
    simp only [idxG] at h
    split at h
    · rename_i e; cases h; simp [e]
    · rw [Option.map_eq_some_iff] at h
      obtain ⟨j, hj, rfl⟩ := h
      simpa using idxG_some hj
theorem idxG_none {x : Gs} : ∀ {l : List Gs}, idxG x l = none → x ∉ l
  | [], _ => by simp
  | y :: r, h => by
    simp only [idxG] at h
    split at h
    · cases h
    · rename_i e
      rw [Option.map_eq_none_iff] at h
      have := idxG_none h
      simp [e, this]
structure Gok (l : List Gs) : Prop where
  nodup : l.Nodup
  bits : ∀ x ∈ l, b24 x.nx
theorem b24_lt {x : W32} (h : b24 x) : x.toNat < 2 ^ 24 := by
  refine Nat.lt_pow_two_of_testBit _ fun i hi => ?_
  cases hb : x.toNat.testBit i
  · rfl
  · have := h i hb
    omega
theorem Gok.len {l : List Gs} (h : Gok l) : l.length ≤ 2 ^ 25 := by
  have h1 := nat_len (N := 2 ^ 25) (l := l.map fun x => x.nx.toNat * 2 + x.ac.toNat) (map_nodup (fun a b e => by
    have h1 : a.ac.toNat ≤ 1 := Bool.toNat_le a.ac
    have h2 : b.ac.toNat ≤ 1 := Bool.toNat_le b.ac
    obtain ⟨an, aa⟩ := a
    obtain ⟨bn, ba⟩ := b
    simp only at e h1 h2
    have e1 : an.toNat = bn.toNat := by omega
    have e2 : aa.toNat = ba.toNat := by omega
    rw [BitVec.eq_of_toNat_eq e1, show aa = ba from by cases aa <;> cases ba <;> first | rfl | cases e2]) h.nodup) (fun k hk => by
    obtain ⟨x, hx, rfl⟩ := List.mem_map.1 hk
    have h2 := b24_lt (h.bits x hx)
    have h3 : x.ac.toNat ≤ 1 := Bool.toNat_le x.ac
    omega)
  rwa [List.length_map] at h1
def EntG (st : Stp) (sets : List Gs) (y : Gs) (e : Int) (j : Nat) : Prop := ((st y j).2 = false ∧ e = -1) ∨ ((st y j).2 = true ∧ ∃ u : Nat, e = (u : Int) ∧ sets[u]? = some (st y j).1)
theorem EntG.mono {st : Stp} {sets r : List Gs} {y : Gs} {e : Int} {j : Nat} (h : EntG st sets y e j) : EntG st (sets ++ r) y e j := by
  rcases h with h | ⟨h, u, h1, h2⟩
  · exact .inl h
  · exact .inr ⟨h, u, h1, by rw [List.getElem?_append_left (List.getElem?_eq_some_iff.1 h2).1]; exact h2⟩
section
variable {st : Stp} (hb : ∀ s j, b24 (st s j).1.nx)
include hb
theorem grN_ok {s : Gs} {sets : List Gs} (h : Gok sets) : ∀ n, Gok (grN st s sets n).1 ∧ (∃ r, (grN st s sets n).1 = sets ++ r) ∧ (grN st s sets n).2.length = n ∧
    (∀ j, j < n → EntG st (grN st s sets n).1 s ((grN st s sets n).2.getD j 0) j) ∧
    (∀ k, sets.length ≤ k → k < (grN st s sets n).1.length → ∃ j, j < n ∧ (grN st s sets n).2.getD j 0 = (k : Int))
  | 0 => ⟨h, ⟨[], by simp [grN]⟩, rfl, fun j hj => by omega, fun k h1 h2 => by simp only [grN] at h2; omega⟩
  | n + 1 => by
    obtain ⟨h1, ⟨r, hr⟩, h3, h4, h5⟩ := grN_ok h (s := s) n
    rw [grN]
    generalize grN st s sets n = q at h1 hr h3 h4 h5
    obtain ⟨l, row⟩ := q
    simp only at h1 hr h3 h4 h5
    have hlt : ∀ (y : Int) (j : Nat), j < n → (row ++ [y]).getD j 0 = row.getD j 0 := fun y j h => by
      rw [List.getD_eq_getElem?_getD, List.getD_eq_getElem?_getD, List.getElem?_append_left (by omega)]
    have heq : ∀ y : Int, (row ++ [y]).getD n 0 = y := fun y => by
      rw [List.getD_eq_getElem?_getD, List.getElem?_append_right (by omega), show n - row.length = 0 from by omega]; rfl
    rw [grI]
    split
    · rename_i hf
      refine ⟨h1, ⟨r, hr⟩, by simp [h3], fun j hj => ?_, fun k k1 k2 => ?_⟩
      · simp only
        by_cases hjn : j < n
        · rw [hlt _ _ hjn]; exact h4 j hjn
        · rw [show j = n from by omega, heq]; exact .inl ⟨hf, rfl⟩
      · obtain ⟨j, hj, e⟩ := h5 k k1 k2
        exact ⟨j, by omega, by simp only; rw [hlt _ _ hj]; exact e⟩
    · rename_i hf
      rw [Bool.not_eq_false] at hf
      split
      · rename_i u hu
        simp only at hu
        refine ⟨h1, ⟨r, hr⟩, by simp [h3], fun j hj => ?_, fun k k1 k2 => ?_⟩
        · simp only
          by_cases hjn : j < n
          · rw [hlt _ _ hjn]; exact h4 j hjn
          · rw [show j = n from by omega, heq]; exact .inr ⟨hf, u, rfl, idxG_some hu⟩
        · obtain ⟨j, hj, e⟩ := h5 k k1 k2
          exact ⟨j, by omega, by simp only; rw [hlt _ _ hj]; exact e⟩
      · rename_i hu
        simp only at hu
        refine ⟨⟨List.nodup_append.2 ⟨h1.nodup, by simp, ?_⟩, fun x hx => ?_⟩, ⟨r ++ [(st s n).1], by rw [hr, List.append_assoc]⟩, by simp [h3], fun j hj => ?_, fun k k1 k2 => ?_⟩
        · intro a ha b hb2
          simp at hb2
          subst hb2
          exact fun e => idxG_none hu (e ▸ ha)
        · rcases List.mem_append.1 hx with hx | hx
          · exact h1.bits x hx
          · rw [List.mem_singleton] at hx; subst hx; exact hb s n
        · simp only
          by_cases hjn : j < n
          · rw [hlt _ _ hjn]; exact (h4 j hjn).mono
          · rw [show j = n from by omega, heq]
            exact .inr ⟨hf, l.length, rfl, by rw [List.getElem?_append_right (Nat.le_refl _), Nat.sub_self]; rfl⟩
        · simp only [List.length_append, List.length_singleton] at k2
          simp only
          by_cases hk : k < l.length
          · obtain ⟨j, hj, e⟩ := h5 k k1 hk
            exact ⟨j, by omega, by rw [hlt _ _ hj]; exact e⟩
          · exact ⟨n, by omega, by rw [heq]; omega⟩
structure Giv (st : Stp) (m : Nat) (s0 : Gs) (i : Nat) (d : Gd) : Prop where
  ok : Gok d.sets
  fst : d.sets[0]? = some s0
  rows : d.rows.length = min i d.sets.length
  accs : d.accs.length = min i d.sets.length
  row : ∀ k, k < d.rows.length → (d.rows.getD k []).length = m
  ent : ∀ k, k < d.rows.length → ∀ y, d.sets[k]? = some y → d.accs.getD k false = y.ac ∧ ∀ j, j < m → EntG st d.sets y (gI (d.rows.getD k []) j) j
  rch : ∀ k, 0 < k → k < d.sets.length → ∃ u j, u < k ∧ u < d.rows.length ∧ j < m ∧ gI (d.rows.getD u []) j = (k : Int)
theorem gdN_inv {m : Nat} {s0 : Gs} (h0 : b24 s0.nx) : ∀ i, Giv st m s0 i (gdN st m s0 i)
  | 0 => ⟨⟨by simp [gdN], fun x hx => by simp [gdN] at hx; subst hx; exact h0⟩, rfl, by simp [gdN], by simp [gdN], fun k h => by simp [gdN] at h, fun k h => by simp [gdN] at h, fun k h1 h2 => by simp [gdN] at h2; omega⟩
  | i + 1 => by
    have ih := gdN_inv h0 (m := m) i
    rw [gdN]
    generalize gdN st m s0 i = d at ih
    obtain ⟨sets, rows, accs⟩ := d
    have i1 := ih.ok
    have i2 := ih.fst
    have i3 := ih.rows
    have i4 := ih.accs
    have i5 := ih.row
    have i6 := ih.ent
    have i7 := ih.rch
    simp only at i1 i2 i3 i4 i5 i6 i7
    rw [gdI]
    simp only
    cases hs : sets[i]? with
    | none =>
      have := List.getElem?_eq_none_iff.1 hs
      exact ⟨i1, i2, by simp only; omega, by simp only; omega, i5, i6, i7⟩
    | some s =>
      have hlt := (List.getElem?_eq_some_iff.1 hs).1
      obtain ⟨g1, ⟨r, hr⟩, g3, g4, g5⟩ := grN_ok hb i1 (s := s) m
      simp only
      generalize grN st s sets m = q at g1 hr g3 g4 g5
      obtain ⟨l, row⟩ := q
      simp only at g1 hr g3 g4 g5 ⊢
      have hle : sets.length ≤ l.length := by rw [hr, List.length_append]; omega
      have hg : ∀ k, k < rows.length → (rows ++ [row]).getD k [] = rows.getD k [] := fun k hk => by
        rw [List.getD_eq_getElem?_getD, List.getElem?_append_left hk, ← List.getD_eq_getElem?_getD]
      have hg2 : (rows ++ [row]).getD i [] = row := by
        rw [List.getD_eq_getElem?_getD, List.getElem?_append_right (by omega), show i - rows.length = 0 from by omega]; rfl
      have ha : ∀ k, k < rows.length → (accs ++ [s.ac]).getD k false = accs.getD k false := fun k hk => by
        rw [List.getD_eq_getElem?_getD, List.getElem?_append_left (by omega), ← List.getD_eq_getElem?_getD]
      have ha2 : (accs ++ [s.ac]).getD i false = s.ac := by
        rw [List.getD_eq_getElem?_getD, List.getElem?_append_right (by omega), show i - accs.length = 0 from by omega]; rfl
      refine ⟨g1, ?_, by simp only [List.length_append, List.length_singleton]; omega, by simp only [List.length_append, List.length_singleton]; omega, fun k hk => ?_, fun k hk y hy => ?_, fun k k1 k2 => ?_⟩
      · rw [hr, List.getElem?_append_left (List.getElem?_eq_some_iff.1 i2).1]; exact i2
      · simp only [List.length_append, List.length_singleton] at hk
        by_cases h : k < rows.length
        · simp only [hg k h]; exact i5 k h
        · simp only [show k = i from by omega, hg2]; exact g3
      · simp only [List.length_append, List.length_singleton] at hk hy
        have hy0 : sets[k]? = some y := by rw [hr, List.getElem?_append_left (by omega)] at hy; exact hy
        by_cases h : k < rows.length
        · simp only [hg k h, ha k h]
          obtain ⟨e1, e2⟩ := i6 k h y hy0
          exact ⟨e1, fun j hj => by rw [hr]; exact (e2 j hj).mono⟩
        · have hki : k = i := by omega
          subst hki
          rw [hs] at hy0
          cases hy0
          simp only [hg2, ha2]
          exact ⟨trivial, fun j hj => by rw [gI, Int.toNat_natCast]; exact g4 j hj⟩
      · simp only at k2 ⊢
        by_cases h : k < sets.length
        · obtain ⟨u, j, h1, h2, h3, h4⟩ := i7 k k1 h
          exact ⟨u, j, h1, by simp only [List.length_append, List.length_singleton]; omega, h3, by rw [hg u h2]; exact h4⟩
        · obtain ⟨j, hj, e⟩ := g5 k (by omega) k2
          exact ⟨i, j, by omega, by simp only [List.length_append, List.length_singleton]; omega, hj, by rw [hg2, gI, Int.toNat_natCast]; exact e⟩
end
theorem gdN_stop {st : Stp} {m i : Nat} {s0 : Gs} (h : (gdN st m s0 i).sets.length ≤ i) : ∀ k, gdN st m s0 (i + k) = gdN st m s0 i
  | 0 => rfl
  | k + 1 => by
    have ih := gdN_stop h k
    rw [← Nat.add_assoc, gdN, ih, gdI, List.getElem?_eq_none (by omega)]
theorem gdN_at {st : Stp} {m i j : Nat} {s0 : Gs} (h : (gdN st m s0 i).sets.length ≤ i) (hj : i ≤ j) : gdN st m s0 j = gdN st m s0 i := by
  have := gdN_stop h (j - i)
  rwa [show i + (j - i) = j from by omega] at this
def gdT (st : Stp) (m : Nat) (s0 : Gs) : Tb := ⟨(gdN st m s0 bigN).rows, (gdN st m s0 bigN).accs⟩
def GP (st : Stp) : Gs → List Int → Bool
  | y, [] => y.ac
  | y, c :: w => (st y c).2 && GP st (st y c).1 w
theorem gdT_all {st : Stp} (hb : ∀ s j, b24 (st s j).1.nx) {m : Nat} {s0 : Gs} (h0 : b24 s0.nx) (hm : m ≤ 16) (hm1 : 0 < m) :
    okT (gdT st m s0).next.length m (gdT st m s0) ∧ (∀ q : Nat, q < (gdT st m s0).next.length → ∃ l, runA (gdT st m s0) 0 l = (q : Int)) ∧
    (∀ w, La (gdT st m s0) 0 w = true ↔ ltrs m w ∧ GP st s0 w = true) := by
  have hi := gdN_inv hb h0 (m := m) bigN
  have hl := hi.ok.len
  rw [gdT]
  generalize gdN st m s0 bigN = d at hi hl
  obtain ⟨sets, rows, accs⟩ := d
  have i2 := hi.fst
  have i3 := hi.rows
  have i4 := hi.accs
  have i5 := hi.row
  have i6 := hi.ent
  have i7 := hi.rch
  simp only at i2 i3 i4 i5 i6 i7 hl ⊢
  have hN : bigN = 2 ^ 30 := rfl
  have hr : rows.length = sets.length := by omega
  have ha : accs.length = sets.length := by omega
  have hp := (List.getElem?_eq_some_iff.1 i2).1
  have hT : okT rows.length m ⟨rows, accs⟩ := by
    refine ⟨rfl, by simp only; omega, fun r hr2 => ?_, fun r hr2 x hx => ?_, by omega, by omega, hm, hm1⟩
    · obtain ⟨k, hk, e⟩ := List.getElem_of_mem hr2
      have := i5 k hk
      rwa [lgetD hk, e] at this
    · obtain ⟨k, hk, e⟩ := List.getElem_of_mem hr2
      simp only at hk
      have hrl := i5 k hk
      rw [lgetD hk, e] at hrl
      obtain ⟨j, hj, e2⟩ := List.getElem_of_mem hx
      have := (i6 k hk _ (List.getElem?_eq_getElem (by omega))).2 j (by omega)
      rw [lgetD hk, e, gI, Int.toNat_natCast, lgetD hj, e2] at this
      rcases this with ⟨_, h⟩ | ⟨_, u, h, hu⟩
      · omega
      · have := (List.getElem?_eq_some_iff.1 hu).1
        omega
  refine ⟨hT, ?_, ?_⟩
  · intro q
    induction q using Nat.strongRecOn with
    | ind q ih =>
      intro hq
      by_cases h0 : q = 0
      · subst h0; exact ⟨[], rfl⟩
      · obtain ⟨u, j, h1, h2, h3, h4⟩ := i7 q (by omega) (by omega)
        obtain ⟨l, hl⟩ := ih u h1 (by omega)
        refine ⟨l ++ [(j : Int)], ?_⟩
        rw [runA, List.foldl_append]
        show suc ⟨rows, accs⟩ (runA ⟨rows, accs⟩ 0 l) j = (q : Int)
        rw [hl, suc_at hT (by omega) h3]
        exact h4
  · have key : ∀ (w : List Int) (k : Nat) (y : Gs), sets[k]? = some y → (La ⟨rows, accs⟩ k w = true ↔ ltrs m w ∧ GP st y w = true) := by
      intro w
      induction w with
      | nil =>
        intro k y hy
        have hk := (List.getElem?_eq_some_iff.1 hy).1
        rw [La_nil, accq, gB, Int.toNat_natCast, decide_eq_true (by omega), Bool.true_and]
        simp only
        rw [(i6 k (by omega) y hy).1, GP]
        exact ⟨fun h => ⟨fun c hc => by simp at hc, h⟩, fun h => h.2⟩
      | cons c w ih =>
        intro k y hy
        have hk := (List.getElem?_eq_some_iff.1 hy).1
        rw [La_cons]
        by_cases hc : 0 ≤ c ∧ c < (m : Int)
        · obtain ⟨j, rfl⟩ : ∃ j : Nat, c = j := ⟨c.toNat, by omega⟩
          rw [suc_at hT (by omega) (by omega)]
          have hl : ltrs m ((j : Int) :: w) ↔ ltrs m w := by
            simp only [ltrs, List.mem_cons, forall_eq_or_imp]
            exact ⟨fun h => h.2, fun h => ⟨hc, h⟩⟩
          rw [hl, GP, Bool.and_eq_true]
          rcases (i6 k (by omega) y hy).2 j (by omega) with ⟨e, hn⟩ | ⟨e, u, hu, hs⟩
          · rw [hn, La_neg (by decide), e]
            exact ⟨fun h => absurd h (by decide), fun h => absurd h.2.1 (by decide)⟩
          · rw [hu, ih u _ hs, e]
            exact ⟨fun h => ⟨h.1, rfl, h.2⟩, fun h => ⟨h.1, h.2.2⟩⟩
        · rw [suc_out hT (by omega) (by omega), La_neg (by decide)]
          exact ⟨fun h => absurd h (by decide), fun h => absurd (h.1 c (by simp)) hc⟩
    intro w
    exact key w 0 s0 i2
end Go.Proofs.Ytkjffppioddnpaa

/- Chapter 42: the leaves that can follow one another, and what an expression matches (plain). -/
set_option maxRecDepth 100000
set_option maxHeartbeats 4000000
set_option linter.all false
namespace Go.Proofs.Ytkjffppioddnpaa
open Go.Vm
theorem bit_sh {a i : Nat} (h : a < 32) : (1#32 <<< a).getLsbD i = true ↔ i = a := by
  simp only [BitVec.getLsbD_shiftLeft, Bool.and_eq_true, decide_eq_true_eq, Bool.not_eq_true', decide_eq_false_iff_not, BitVec.getLsbD_one]
  constructor
  · rintro ⟨⟨_, h1⟩, h2⟩
    simp at h2
    omega
  · rintro rfl
    exact ⟨⟨h, by omega⟩, by simp⟩
def Pos : Nat → Pr → Nat → Prop
  | a, .leaf x, i => x.op ≠ 1 ∧ i = a
  | a, .un _ p, i => Pos (a + 1) p i
  | a, .bin _ p q, i => Pos (a + 1) p i ∨ Pos (ptP (a + 1) p).to q i
theorem Pos.rng : ∀ {p : Pr} {a i : Nat}, Pos a p i → a ≤ i ∧ i < a + (flat p).length
  | .leaf x, a, i, h => by have := h.2; simp [flat]; omega
  | .un x p, a, i, h => by
    have := Pos.rng (p := p) h
    rw [flat, List.length_cons]; omega
  | .bin x p q, a, i, h => by
    rw [flat, List.length_cons, List.length_append]
    rcases h with h | h
    · have := h.rng; omega
    · have := h.rng
      rw [ptP_to] at this
      omega
def fol (a : Nat) (p : Pr) (i j : Nat) : Prop := ∃ x ∈ conL a p i, x.getLsbD j = true
def catK (L K : List Int → Prop) : List Int → Prop := fun v => ∃ u1 u2, v = u1 ++ u2 ∧ L u1 ∧ K u2
def cont : Nat → Pr → (List Int → Prop) → Nat → List Int → Prop
  | _, .leaf _, K, _, w => K w
  | a, .un _ p, K, i, w => cont (a + 1) p (catK (Star (Mt p)) K) i w
  | a, .bin x p q, K, i, w => if i < (ptP (a + 1) p).to then (if x.op = 5 then cont (a + 1) p K i w else cont (a + 1) p (catK (Mt q) K) i w) else cont (ptP (a + 1) p).to q K i w
theorem emp_iff (sw : Int) : ∀ (p : Pr) (a : Nat), okP sw p → ((ptP a p).emp = true ↔ Mt p [])
  | .leaf x, a, hp => by
    rw [ptP, Mt]
    by_cases h1 : x.op = 1
    · rw [if_pos h1, if_pos h1]; simp
    · rw [if_neg h1, if_neg h1]
      split <;> simp
  | .un x p, a, hp => by
    rw [ptP, Mt]
    exact ⟨fun _ => .nil, fun _ => rfl⟩
  | .bin x p q, a, hp => by
    have i1 := emp_iff sw p (a + 1) hp.2.1
    have i2 := emp_iff sw q (ptP (a + 1) p).to hp.2.2
    rw [ptP, Mt]
    by_cases h5 : x.op = 5
    · rw [if_pos h5, if_pos h5]
      simp only [Bool.or_eq_true]
      rw [i1, i2]
    · rw [if_neg h5, if_neg h5]
      simp only [Bool.and_eq_true]
      rw [i1, i2]
      constructor
      · rintro ⟨h1, h2⟩; exact ⟨[], [], rfl, h1, h2⟩
      · rintro ⟨u, v, e, h1, h2⟩
        have e := e.symm
        rw [List.append_eq_nil_iff] at e
        obtain ⟨rfl, rfl⟩ := e
        exact ⟨h1, h2⟩
theorem fst_bin {x : Nd} {p q : Pr} {a i : Nat} : (ptP a (.bin x p q)).fst.getLsbD i = true ↔ (ptP (a + 1) p).fst.getLsbD i = true ∨ ((x.op = 5 ∨ (ptP (a + 1) p).emp = true) ∧ (ptP (ptP (a + 1) p).to q).fst.getLsbD i = true) := by
  rw [ptP]
  by_cases h5 : x.op = 5
  · rw [if_pos h5]
    simp [h5, BitVec.getLsbD_or]
  · rw [if_neg h5]
    simp only
    by_cases he : (ptP (a + 1) p).emp = true
    · rw [if_pos he]
      simp [he, BitVec.getLsbD_or]
    · rw [if_neg he]
      simp [he, h5]
theorem lst_bin {x : Nd} {p q : Pr} {a i : Nat} : (ptP a (.bin x p q)).lst.getLsbD i = true ↔ (ptP (ptP (a + 1) p).to q).lst.getLsbD i = true ∨ ((x.op = 5 ∨ (ptP (ptP (a + 1) p).to q).emp = true) ∧ (ptP (a + 1) p).lst.getLsbD i = true) := by
  rw [ptP]
  by_cases h5 : x.op = 5
  · rw [if_pos h5]
    simp only [BitVec.getLsbD_or, Bool.or_eq_true, h5, true_or, true_and]
    exact Or.comm
  · rw [if_neg h5]
    simp only
    by_cases he : (ptP (ptP (a + 1) p).to q).emp = true
    · rw [if_pos he]
      simp only [BitVec.getLsbD_or, Bool.or_eq_true, he, or_true, true_and]
      exact Or.comm
    · rw [if_neg he]
      simp [he, h5]
theorem fst_pos : ∀ (p : Pr) (a i : Nat), a + (flat p).length ≤ 24 → (ptP a p).fst.getLsbD i = true → Pos a p i
  | .leaf x, a, i, hl, h => by
    rw [ptP] at h
    by_cases h1 : x.op = 1
    · rw [if_pos h1] at h; simp at h
    · rw [if_neg h1] at h
      simp only [flat, List.length_singleton] at hl
      exact ⟨h1, (bit_sh (by omega)).1 h⟩
  | .un x p, a, i, hl, h => by
    rw [flat, List.length_cons] at hl
    exact fst_pos p (a + 1) i (by omega) h
  | .bin x p q, a, i, hl, h => by
    rw [flat, List.length_cons, List.length_append] at hl
    rcases fst_bin.1 h with h | ⟨_, h⟩
    · exact .inl (fst_pos p (a + 1) i (by omega) h)
    · exact .inr (fst_pos q _ i (by rw [ptP_to]; omega) h)
theorem lst_pos : ∀ (p : Pr) (a i : Nat), a + (flat p).length ≤ 24 → (ptP a p).lst.getLsbD i = true → Pos a p i
  | .leaf x, a, i, hl, h => by
    rw [ptP] at h
    by_cases h1 : x.op = 1
    · rw [if_pos h1] at h; simp at h
    · rw [if_neg h1] at h
      simp only [flat, List.length_singleton] at hl
      exact ⟨h1, (bit_sh (by omega)).1 h⟩
  | .un x p, a, i, hl, h => by
    rw [flat, List.length_cons] at hl
    exact lst_pos p (a + 1) i (by omega) h
  | .bin x p q, a, i, hl, h => by
    rw [flat, List.length_cons, List.length_append] at hl
    rcases lst_bin.1 h with h | ⟨_, h⟩
    · exact .inr (lst_pos q _ i (by rw [ptP_to]; omega) h)
    · exact .inl (lst_pos p (a + 1) i (by omega) h)
theorem fol_un {x : Nd} {p : Pr} {a i j : Nat} : fol a (.un x p) i j ↔ ((ptP (a + 1) p).lst.getLsbD i = true ∧ (ptP (a + 1) p).fst.getLsbD j = true) ∨ fol (a + 1) p i j := by
  simp only [fol, conL, List.mem_cons, exists_eq_or_imp, ownF]
  refine or_congr_left ?_
  split
  · rename_i h; simp [h]
  · rename_i h; simp [h]
theorem fol_bin {x : Nd} {p q : Pr} {a i j : Nat} : fol a (.bin x p q) i j ↔ (x.op = 4 ∧ (ptP (a + 1) p).lst.getLsbD i = true ∧ (ptP (ptP (a + 1) p).to q).fst.getLsbD j = true) ∨ fol (a + 1) p i j ∨ fol (ptP (a + 1) p).to q i j := by
  simp only [fol, conL, List.mem_cons, List.mem_append, exists_eq_or_imp, ownF]
  refine Iff.trans (or_congr (a := _) (c := x.op = 4 ∧ (ptP (a + 1) p).lst.getLsbD i = true ∧ (ptP (ptP (a + 1) p).to q).fst.getLsbD j = true) ?_ Iff.rfl) (or_congr_right ?_)
  · by_cases h4 : x.op = 4
    · rw [if_pos h4]
      split
      · rename_i h; simp [h, h4]
      · rename_i h; simp [h, h4]
    · rw [if_neg h4]; simp [h4]
  · constructor
    · rintro ⟨y, h | h, hy⟩
      · exact .inl ⟨y, h, hy⟩
      · exact .inr ⟨y, h, hy⟩
    · rintro (⟨y, h, hy⟩ | ⟨y, h, hy⟩)
      · exact ⟨y, .inl h, hy⟩
      · exact ⟨y, .inr h, hy⟩
theorem fol_leaf {x : Nd} {a i j : Nat} : ¬ fol a (.leaf x) i j := by
  simp [fol, conL, ownF]
theorem fol_pos : ∀ (p : Pr) (a i j : Nat), a + (flat p).length ≤ 24 → fol a p i j → Pos a p i ∧ Pos a p j
  | .leaf x, a, i, j, hl, h => absurd h fol_leaf
  | .un x p, a, i, j, hl, h => by
    rw [flat, List.length_cons] at hl
    rcases fol_un.1 h with ⟨h1, h2⟩ | h
    · exact ⟨lst_pos p (a + 1) i (by omega) h1, fst_pos p (a + 1) j (by omega) h2⟩
    · exact fol_pos p (a + 1) i j (by omega) h
  | .bin x p q, a, i, j, hl, h => by
    rw [flat, List.length_cons, List.length_append] at hl
    rcases fol_bin.1 h with ⟨_, h1, h2⟩ | h | h
    · exact ⟨.inl (lst_pos p (a + 1) i (by omega) h1), .inr (fst_pos q _ j (by rw [ptP_to]; omega) h2)⟩
    · have := fol_pos p (a + 1) i j (by omega) h
      exact ⟨.inl this.1, .inl this.2⟩
    · have := fol_pos q _ i j (by rw [ptP_to]; omega) h
      exact ⟨.inr this.1, .inr this.2⟩
def goes (r : List Nd) (B : Nat → Prop) (C : Nat → List Int → Prop) (w : List Int) : Prop := ∃ i c w', B i ∧ w = c :: w' ∧ mtc (r.getD i ⟨0, 0⟩) c = true ∧ C i w'
theorem goes_or {r : List Nd} {B B' : Nat → Prop} {C : Nat → List Int → Prop} {w : List Int} : goes r (fun i => B i ∨ B' i) C w ↔ goes r B C w ∨ goes r B' C w := by
  constructor
  · rintro ⟨i, c, w', h | h, h2⟩
    · exact .inl ⟨i, c, w', h, h2⟩
    · exact .inr ⟨i, c, w', h, h2⟩
  · rintro (⟨i, c, w', h, h2⟩ | ⟨i, c, w', h, h2⟩)
    · exact ⟨i, c, w', .inl h, h2⟩
    · exact ⟨i, c, w', .inr h, h2⟩
theorem goes_congr {r : List Nd} {B B' : Nat → Prop} {C C' : Nat → List Int → Prop} {w : List Int} (h1 : ∀ i, B i ↔ B' i) (h2 : ∀ i w', B i → (C i w' ↔ C' i w')) : goes r B C w ↔ goes r B' C' w := by
  constructor
  · rintro ⟨i, c, w', h, h3, h4, h5⟩
    exact ⟨i, c, w', (h1 i).1 h, h3, h4, (h2 i w' h).1 h5⟩
  · rintro ⟨i, c, w', h, h3, h4, h5⟩
    exact ⟨i, c, w', (h1 i).2 h, h3, h4, (h2 i w' ((h1 i).2 h)).2 h5⟩
theorem goes_and {r : List Nd} {P : Prop} {B : Nat → Prop} {C : Nat → List Int → Prop} {w : List Int} : goes r (fun i => P ∧ B i) C w ↔ P ∧ goes r B C w := by
  constructor
  · rintro ⟨i, c, w', ⟨hp, h⟩, h2⟩
    exact ⟨hp, i, c, w', h, h2⟩
  · rintro ⟨hp, i, c, w', h, h2⟩
    exact ⟨i, c, w', ⟨hp, h⟩, h2⟩
def catN (L K : List Int → Prop) (w : List Int) : Prop := ∃ u v, w = u ++ v ∧ u ≠ [] ∧ L u ∧ K v
theorem catK_iff {L K : List Int → Prop} {w : List Int} : catK L K w ↔ (L [] ∧ K w) ∨ catN L K w := by
  constructor
  · rintro ⟨u, v, e, h1, h2⟩
    cases u with
    | nil => rw [List.nil_append] at e; subst e; exact .inl ⟨h1, h2⟩
    | cons c u => exact .inr ⟨c :: u, v, e, List.cons_ne_nil _ _, h1, h2⟩
  · rintro (⟨h1, h2⟩ | ⟨u, v, e, _, h1, h2⟩)
    · exact ⟨[], w, rfl, h1, h2⟩
    · exact ⟨u, v, e, h1, h2⟩
theorem catN_star {L K : List Int → Prop} {w : List Int} : catN (Star L) K w ↔ catN L (catK (Star L) K) w := by
  constructor
  · rintro ⟨u, v, rfl, hn, h1, h2⟩
    rcases h1.first with rfl | ⟨u1, u2, rfl, h3, h4, h5⟩
    · exact absurd rfl hn
    · exact ⟨u1, u2 ++ v, by rw [List.append_assoc], h5, h3, u2, v, rfl, h4, h2⟩
  · rintro ⟨u, v, rfl, hn, h1, u2, v2, rfl, h3, h4⟩
    refine ⟨u ++ u2, v2, by rw [List.append_assoc], ?_, .app h1 h3, h4⟩
    intro e
    exact hn (List.append_eq_nil_iff.1 e).1
section
variable {r : List Nd} {sw : Int}
theorem first_iff : ∀ (p : Pr) (a : Nat) (s : List Nd) (K : List Int → Prop) (w : List Int), okP sw p → r.drop a = flat p ++ s → a + (flat p).length ≤ 24 →
    (catN (Mt p) K w ↔ goes r (fun i => (ptP a p).fst.getLsbD i = true) (cont a p K) w)
  | .leaf x, a, s, K, w, hp, hd, hl => by
    obtain ⟨ha, hx, _⟩ := drop_cons (show r.drop a = x :: s from hd)
    have hg : r.getD a ⟨0, 0⟩ = x := by rw [List.getD_eq_getElem?_getD, List.getElem?_eq_getElem ha, hx]; rfl
    rw [ptP]
    by_cases h1 : x.op = 1
    · rw [if_pos h1]
      constructor
      · rintro ⟨u, v, _, hn, h2, _⟩
        rw [Mt, if_pos h1] at h2
        exact absurd h2 hn
      · rintro ⟨i, c, w', h, _⟩
        simp at h
    · rw [if_neg h1]
      simp only [flat, List.length_singleton] at hl
      have hm : ∀ c : Int, mtc x c = true ↔ Mt (.leaf x) [c] := fun c => by
        rw [mtc, Mt, if_neg h1]
        by_cases h2 : x.op = 2
        · rw [if_pos h2, decide_eq_true h2]; simp
        · have h3 : x.op = 3 := by have := hp.1; omega
          rw [if_neg h2, decide_eq_false h2, nN, if_pos h3, Bool.false_or, decide_eq_true_iff]
          constructor
          · intro e; rw [e]
          · intro e; injection e with e; exact e.symm
      constructor
      · rintro ⟨u, v, rfl, hn, h2, h3⟩
        have hu : ∃ c, u = [c] := by
          rw [Mt, if_neg h1] at h2
          split at h2
          · match u, h2 with
            | [c], _ => exact ⟨c, rfl⟩
          · exact ⟨_, h2⟩
        obtain ⟨c, rfl⟩ := hu
        exact ⟨a, c, v, (bit_sh (by omega)).2 rfl, rfl, by rw [hg]; exact (hm c).2 h2, h3⟩
      · rintro ⟨i, c, w', h, rfl, h2, h3⟩
        have hi := (bit_sh (by omega)).1 h
        subst hi
        rw [hg] at h2
        exact ⟨[c], w', rfl, List.cons_ne_nil _ _, (hm c).1 h2, h3⟩
  | .un x p, a, s, K, w, hp, hd, hl => by
    obtain ⟨ha, hx, hd2⟩ := drop_cons (show r.drop a = x :: (flat p ++ s) from hd)
    rw [flat, List.length_cons] at hl
    have ih := first_iff p (a + 1) s (catK (Star (Mt p)) K) w hp.2 hd2 (by omega)
    have e : catN (Mt (.un x p)) K w ↔ catN (Star (Mt p)) K w := Iff.rfl
    rw [e, catN_star, ih]
    exact Iff.rfl
  | .bin x p q, a, s, K, w, hp, hd, hl => by
    obtain ⟨ha, hx, hd2⟩ := drop_cons (show r.drop a = x :: (flat p ++ flat q ++ s) from hd)
    rw [List.append_assoc] at hd2
    have hd3 := drop_app hd2
    have hto := ptP_to p (a + 1)
    rw [← hto] at hd3
    rw [flat, List.length_cons, List.length_append] at hl
    have hlq : (ptP (a + 1) p).to + (flat q).length ≤ 24 := by omega
    have i2 := first_iff q (ptP (a + 1) p).to s K w hp.2.2 hd3 hlq
    have hc1 : ∀ i, (ptP (a + 1) p).fst.getLsbD i = true → i < (ptP (a + 1) p).to := fun i h => by
      have := (fst_pos p (a + 1) i (by omega) h).rng; omega
    have hc2 : ∀ i, (ptP (ptP (a + 1) p).to q).fst.getLsbD i = true → ¬ i < (ptP (a + 1) p).to := fun i h => by
      have := (fst_pos q _ i hlq h).rng; omega
    have hF : goes r (fun i => (ptP a (.bin x p q)).fst.getLsbD i = true) (cont a (.bin x p q) K) w ↔
        goes r (fun i => (ptP (a + 1) p).fst.getLsbD i = true) (fun i w => if x.op = 5 then cont (a + 1) p K i w else cont (a + 1) p (catK (Mt q) K) i w) w ∨
        ((x.op = 5 ∨ (ptP (a + 1) p).emp = true) ∧ goes r (fun i => (ptP (ptP (a + 1) p).to q).fst.getLsbD i = true) (cont (ptP (a + 1) p).to q K) w) := by
      rw [goes_congr (fun i => fst_bin) (fun i w' _ => Iff.rfl), goes_or, goes_and]
      refine or_congr (goes_congr (fun _ => Iff.rfl) fun i w' h => ?_) (and_congr_right fun _ => goes_congr (fun _ => Iff.rfl) fun i w' h => ?_)
      · rw [cont, if_pos (hc1 i h)]
      · rw [cont, if_neg (hc2 i h)]
    rw [hF]
    by_cases h5 : x.op = 5
    · have i1 := first_iff p (a + 1) (flat q ++ s) K w hp.2.1 hd2 (by omega)
      simp only [h5, if_true, true_or, true_and]
      rw [← i1, ← i2]
      constructor
      · rintro ⟨u, v, e, hn, hm, hk⟩
        rw [Mt, if_pos h5] at hm
        rcases hm with hm | hm
        · exact .inl ⟨u, v, e, hn, hm, hk⟩
        · exact .inr ⟨u, v, e, hn, hm, hk⟩
      · rintro (⟨u, v, e, hn, hm, hk⟩ | ⟨u, v, e, hn, hm, hk⟩)
        · exact ⟨u, v, e, hn, by rw [Mt, if_pos h5]; exact .inl hm, hk⟩
        · exact ⟨u, v, e, hn, by rw [Mt, if_pos h5]; exact .inr hm, hk⟩
    · have i1 := first_iff p (a + 1) (flat q ++ s) (catK (Mt q) K) w hp.2.1 hd2 (by omega)
      simp only [h5, if_false, false_or]
      rw [← i1, ← i2, emp_iff sw p (a + 1) hp.2.1]
      constructor
      · rintro ⟨u, v, rfl, hn, hm, hk⟩
        rw [Mt, if_neg h5] at hm
        obtain ⟨u1, u2, rfl, h1, h2⟩ := hm
        cases u1 with
        | nil => exact .inr ⟨h1, u2, v, rfl, hn, h2, hk⟩
        | cons c u1 => exact .inl ⟨c :: u1, u2 ++ v, by rw [List.append_assoc], List.cons_ne_nil _ _, h1, u2, v, rfl, h2, hk⟩
      · rintro (⟨u, v, rfl, hn, hm, u2, v2, rfl, h2, hk⟩ | ⟨h1, u, v, rfl, hn, h2, hk⟩)
        · refine ⟨u ++ u2, v2, by rw [List.append_assoc], fun e => hn (List.append_eq_nil_iff.1 e).1, ?_, hk⟩
          rw [Mt, if_neg h5]
          exact ⟨u, u2, rfl, hm, h2⟩
        · refine ⟨u, v, rfl, hn, ?_, hk⟩
          rw [Mt, if_neg h5]
          exact ⟨[], u, rfl, h1, h2⟩
theorem cont_iff : ∀ (p : Pr) (a : Nat) (s : List Nd) (K : List Int → Prop) (i : Nat) (w : List Int), okP sw p → r.drop a = flat p ++ s → a + (flat p).length ≤ 24 → Pos a p i →
    (cont a p K i w ↔ ((ptP a p).lst.getLsbD i = true ∧ K w) ∨ goes r (fol a p i) (cont a p K) w)
  | .leaf x, a, s, K, i, w, hp, hd, hl, hi => by
    obtain ⟨h1, rfl⟩ := hi
    simp only [flat, List.length_singleton] at hl
    rw [cont, ptP, if_neg h1]
    simp only
    rw [(bit_sh (by omega)).2 rfl]
    constructor
    · intro h; exact .inl ⟨rfl, h⟩
    · rintro (⟨_, h⟩ | ⟨j, c, w', h, _⟩)
      · exact h
      · exact absurd h fol_leaf
  | .un x p, a, s, K, i, w, hp, hd, hl, hi => by
    obtain ⟨ha, hx, hd2⟩ := drop_cons (show r.drop a = x :: (flat p ++ s) from hd)
    have hl2 := hl
    rw [flat, List.length_cons] at hl
    have ih := cont_iff p (a + 1) s (catK (Star (Mt p)) K) i w hp.2 hd2 (by omega) hi
    have hf := first_iff (r := r) (sw := sw) (.un x p) a s K w hp hd hl2
    have hK : catK (Star (Mt p)) K w ↔ K w ∨ goes r (fun i => (ptP (a + 1) p).fst.getLsbD i = true) (cont (a + 1) p (catK (Star (Mt p)) K)) w := by
      rw [catK_iff, show catN (Star (Mt p)) K w ↔ catN (Mt (.un x p)) K w from Iff.rfl, hf]
      refine or_congr ⟨fun h => h.2, fun h => ⟨.nil, h⟩⟩ Iff.rfl
    rw [cont, ih, hK, goes_congr (fun j => fol_un) (fun j w' _ => Iff.rfl), goes_or, goes_and]
    rw [show cont a (.un x p) K = cont (a + 1) p (catK (Star (Mt p)) K) from rfl, show (ptP a (.un x p)).lst = (ptP (a + 1) p).lst from rfl]
    constructor
    · rintro (⟨h1, h2 | h2⟩ | h)
      · exact .inl ⟨h1, h2⟩
      · exact .inr (.inl ⟨h1, h2⟩)
      · exact .inr (.inr h)
    · rintro (⟨h1, h2⟩ | ⟨h1, h2⟩ | h)
      · exact .inl ⟨h1, .inl h2⟩
      · exact .inl ⟨h1, .inr h2⟩
      · exact .inr h
  | .bin x p q, a, s, K, i, w, hp, hd, hl, hi => by
    obtain ⟨ha, hx, hd2⟩ := drop_cons (show r.drop a = x :: (flat p ++ flat q ++ s) from hd)
    rw [List.append_assoc] at hd2
    have hd3 := drop_app hd2
    have hto := ptP_to p (a + 1)
    rw [← hto] at hd3
    rw [flat, List.length_cons, List.length_append] at hl
    have hlp : a + 1 + (flat p).length ≤ 24 := by omega
    have hlq : (ptP (a + 1) p).to + (flat q).length ≤ 24 := by omega
    have hpr : ∀ j, Pos (a + 1) p j → j < (ptP (a + 1) p).to := fun j h => by have := h.rng; omega
    have hqr : ∀ j, Pos (ptP (a + 1) p).to q j → ¬ j < (ptP (a + 1) p).to := fun j h => by have := h.rng; omega
    have hop : x.op = 4 ∨ x.op = 5 := hp.1
    rcases hi with hi | hi
    · -- in the left operand
      have hnq : ¬ Pos (ptP (a + 1) p).to q i := fun h => hqr i h (hpr i hi)
      have hlq0 : ¬ (ptP (ptP (a + 1) p).to q).lst.getLsbD i = true := fun h => hnq (lst_pos q _ i hlq h)
      have hfq0 : ∀ j, ¬ fol (ptP (a + 1) p).to q i j := fun j h => hnq (fol_pos q _ i j hlq h).1
      by_cases h5 : x.op = 5
      · have ih := cont_iff p (a + 1) (flat q ++ s) K i w hp.2.1 hd2 hlp hi
        rw [cont, if_pos (hpr i hi), if_pos h5, ih]
        refine or_congr (and_congr_left fun _ => ?_) (goes_congr (fun j => ?_) fun j w' hj => ?_)
        · rw [lst_bin]
          exact ⟨fun h => .inr ⟨.inl h5, h⟩, fun h => by
            rcases h with h | ⟨_, h⟩
            · exact absurd h hlq0
            · exact h⟩
        · rw [fol_bin]
          exact ⟨fun h => .inr (.inl h), fun h => by
            rcases h with ⟨h, _⟩ | h | h
            · omega
            · exact h
            · exact absurd h (hfq0 j)⟩
        · rw [cont, if_pos (hpr j (fol_pos p _ i j hlp hj).2), if_pos h5]
      · have h4 : x.op = 4 := by omega
        have ih := cont_iff p (a + 1) (flat q ++ s) (catK (Mt q) K) i w hp.2.1 hd2 hlp hi
        have hf := first_iff (r := r) (sw := sw) q (ptP (a + 1) p).to s K w hp.2.2 hd3 hlq
        have hK : catK (Mt q) K w ↔ ((ptP (ptP (a + 1) p).to q).emp = true ∧ K w) ∨ goes r (fun i => (ptP (ptP (a + 1) p).to q).fst.getLsbD i = true) (cont (ptP (a + 1) p).to q K) w := by
          rw [catK_iff, hf, emp_iff sw q _ hp.2.2]
        rw [cont, if_pos (hpr i hi), if_neg h5, ih, hK, goes_congr (fun j => fol_bin) (fun j w' _ => Iff.rfl), goes_or, goes_or, lst_bin]
        have e1 : goes r (fun j => x.op = 4 ∧ (ptP (a + 1) p).lst.getLsbD i = true ∧ (ptP (ptP (a + 1) p).to q).fst.getLsbD j = true) (cont a (.bin x p q) K) w ↔ (ptP (a + 1) p).lst.getLsbD i = true ∧ goes r (fun j => (ptP (ptP (a + 1) p).to q).fst.getLsbD j = true) (cont (ptP (a + 1) p).to q K) w := by
          rw [goes_and, goes_and]
          refine ⟨fun h => ⟨h.2.1, ?_⟩, fun h => ⟨h4, h.1, ?_⟩⟩
          · refine (goes_congr (fun _ => Iff.rfl) fun j w' hj => ?_).1 h.2.2
            rw [cont, if_neg (hqr j (fst_pos q _ j hlq hj))]
          · refine (goes_congr (fun _ => Iff.rfl) fun j w' hj => ?_).2 h.2
            rw [cont, if_neg (hqr j (fst_pos q _ j hlq hj))]
        have e2 : goes r (fol (a + 1) p i) (cont a (.bin x p q) K) w ↔ goes r (fol (a + 1) p i) (cont (a + 1) p (catK (Mt q) K)) w :=
          goes_congr (fun _ => Iff.rfl) fun j w' hj => by rw [cont, if_pos (hpr j (fol_pos p _ i j hlp hj).2), if_neg h5]
        have e3 : ¬ goes r (fol (ptP (a + 1) p).to q i) (cont a (.bin x p q) K) w := fun ⟨j, _, _, h, _⟩ => hfq0 j h
        rw [e1, e2]
        constructor
        · rintro (⟨h1, ⟨h2, h3⟩ | h2⟩ | h)
          · exact .inl ⟨.inr ⟨.inr h2, h1⟩, h3⟩
          · exact .inr (.inl ⟨h1, h2⟩)
          · exact .inr (.inr (.inl h))
        · rintro (⟨h | ⟨h | h, h2⟩, h3⟩ | ⟨h1, h2⟩ | h | h)
          · exact absurd h hlq0
          · exact absurd h h5
          · exact .inl ⟨h2, .inl ⟨h, h3⟩⟩
          · exact .inl ⟨h1, .inr h2⟩
          · exact .inr h
          · exact absurd h e3
    · -- in the right operand
      have hnp : ¬ Pos (a + 1) p i := fun h => hqr i hi (hpr i h)
      have hlp0 : ¬ (ptP (a + 1) p).lst.getLsbD i = true := fun h => hnp (lst_pos p _ i hlp h)
      have hfp0 : ∀ j, ¬ fol (a + 1) p i j := fun j h => hnp (fol_pos p _ i j hlp h).1
      have ih := cont_iff q (ptP (a + 1) p).to s K i w hp.2.2 hd3 hlq hi
      rw [cont, if_neg (hqr i hi), ih]
      refine or_congr (and_congr_left fun _ => ?_) (goes_congr (fun j => ?_) fun j w' hj => ?_)
      · rw [lst_bin]
        exact ⟨fun h => .inl h, fun h => by
          rcases h with h | ⟨_, h⟩
          · exact h
          · exact absurd h hlp0⟩
      · rw [fol_bin]
        exact ⟨fun h => .inr (.inr h), fun h => by
          rcases h with ⟨_, h, _⟩ | h | h
          · exact absurd h hlp0
          · exact absurd h (hfp0 j)
          · exact h⟩
      · rw [cont, if_neg (hqr j (fol_pos q _ i j hlq hj).2)]
end
theorem orL_bit {l : List W32} {j : Nat} : (orL l).getLsbD j = true ↔ ∃ x ∈ l, x.getLsbD j = true := by
  have key : ∀ (l : List W32) (z : W32), (l.foldl (· ||| ·) z).getLsbD j = true ↔ z.getLsbD j = true ∨ ∃ x ∈ l, x.getLsbD j = true := by
    intro l
    induction l with
    | nil => intro z; simp
    | cons y r ih =>
      intro z
      rw [List.foldl_cons, ih, BitVec.getLsbD_or, Bool.or_eq_true]
      simp only [List.mem_cons, exists_eq_or_imp]
      exact or_assoc
  rw [orL, key]
  simp
def refSt (p : Pr) : Stp := fun s c => advS (flat p) ((List.range (flat p).length).map fun i => orL (conL 0 p i)) (ptP 0 p).lst s c
def refS0 (p : Pr) : Gs := ⟨(ptP 0 p).fst, (ptP 0 p).emp⟩
theorem adv_all (r : List Nd) (fl : List W32) (last : W32) (s : Gs) (c : Int) : ∀ n,
    ((advN r fl last s c n).2 = true ↔ ∃ i, i < n ∧ s.nx.getLsbD i = true ∧ mtc (r.getD i ⟨0, 0⟩) c = true) ∧
    (∀ j, (advN r fl last s c n).1.nx.getLsbD j = true ↔ ∃ i, i < n ∧ (s.nx.getLsbD i = true ∧ mtc (r.getD i ⟨0, 0⟩) c = true) ∧ (fl.getD i 0#32).getLsbD j = true) ∧
    ((advN r fl last s c n).1.ac = true ↔ ∃ i, i < n ∧ (s.nx.getLsbD i = true ∧ mtc (r.getD i ⟨0, 0⟩) c = true) ∧ last.getLsbD i = true)
  | 0 => by simp [advN]
  | n + 1 => by
    obtain ⟨h1, h2, h3⟩ := adv_all r fl last s c n
    have hs : ∀ Q : Nat → Prop, (∃ i, i < n + 1 ∧ Q i) ↔ (∃ i, i < n ∧ Q i) ∨ Q n := fun Q => by
      constructor
      · rintro ⟨i, hi, h⟩
        by_cases e : i = n
        · subst e; exact .inr h
        · exact .inl ⟨i, by omega, h⟩
      · rintro (⟨i, hi, h⟩ | h)
        · exact ⟨i, by omega, h⟩
        · exact ⟨n, by omega, h⟩
    rw [advN, advI]
    by_cases hc : (s.nx.getLsbD n && mtc (r.getD n ⟨0, 0⟩) c) = true
    · rw [if_pos hc]
      rw [Bool.and_eq_true] at hc
      refine ⟨?_, fun j => ?_, ?_⟩
      · rw [hs]
        simp only [true_iff]
        exact .inr hc
      · rw [hs]
        simp only [BitVec.getLsbD_or, Bool.or_eq_true]
        rw [h2 j]
        exact or_congr Iff.rfl ⟨fun h => ⟨hc, h⟩, fun h => h.2⟩
      · rw [hs]
        simp only [Bool.or_eq_true]
        rw [h3]
        exact or_congr Iff.rfl ⟨fun h => ⟨hc, h⟩, fun h => h.2⟩
    · rw [if_neg hc]
      rw [Bool.and_eq_true] at hc
      refine ⟨?_, fun j => ?_, ?_⟩
      · rw [hs, h1]; exact ⟨.inl, fun h => h.resolve_right hc⟩
      · rw [hs, h2 j]; exact ⟨.inl, fun h => h.resolve_right fun h => hc h.1⟩
      · rw [hs, h3]; exact ⟨.inl, fun h => h.resolve_right fun h => hc h.1⟩
section
variable {sw : Int} {p : Pr} (hp : okP sw p) (h24 : (flat p).length ≤ 24)
include hp h24
theorem ref_b24 : (∀ s c, b24 (refSt p s c).1.nx) ∧ b24 (refS0 p).nx := by
  refine ⟨fun s c j hj => ?_, fun j hj => ?_⟩
  · rw [refSt, advS] at hj
    obtain ⟨i, hi, _, h⟩ := ((adv_all _ _ _ s c _).2.1 j).1 hj
    rw [List.getD_eq_getElem?_getD, List.getElem?_map, List.getElem?_range hi] at h
    obtain ⟨x, hx, h⟩ := orL_bit.1 h
    have := (fol_pos p 0 i j (by omega) ⟨x, hx, h⟩).2.rng
    omega
  · have := (fst_pos p 0 j (by omega) hj).rng
    omega
theorem GP_iff : ∀ (w : List Int) (y : Gs), (∀ i, y.nx.getLsbD i = true → Pos 0 p i) →
    (GP (refSt p) y w = true ↔ (w = [] ∧ y.ac = true) ∨ goes (flat p) (fun i => y.nx.getLsbD i = true) (cont 0 p (fun v => v = [])) w)
  | [], y, hy => by
    rw [GP]
    constructor
    · intro h; exact .inl ⟨rfl, h⟩
    · rintro (⟨_, h⟩ | ⟨i, c, w', _, h, _⟩)
      · exact h
      · cases h
  | c :: w, y, hy => by
    obtain ⟨h1, h2, h3⟩ := adv_all (flat p) ((List.range (flat p).length).map fun i => orL (conL 0 p i)) (ptP 0 p).lst y c (flat p).length
    have hfl : ∀ i, i < (flat p).length → ∀ j, (((List.range (flat p).length).map fun i => orL (conL 0 p i)).getD i 0#32).getLsbD j = true ↔ fol 0 p i j := fun i hi j => by
      rw [List.getD_eq_getElem?_getD, List.getElem?_map, List.getElem?_range hi]
      exact orL_bit
    rw [← advS, show advS (flat p) ((List.range (flat p).length).map fun i => orL (conL 0 p i)) (ptP 0 p).lst y c = refSt p y c from rfl] at h1 h2 h3
    have hpos2 : ∀ j, (refSt p y c).1.nx.getLsbD j = true → Pos 0 p j := fun j hj => by
      obtain ⟨i, hi, _, h⟩ := (h2 j).1 hj
      exact (fol_pos p 0 i j (by omega) ((hfl i hi j).1 h)).2
    have ih := GP_iff w (refSt p y c).1 hpos2
    have hin : ∀ i, y.nx.getLsbD i = true → i < (flat p).length := fun i h => by have := (hy i h).rng; omega
    have hd : (flat p).drop 0 = flat p ++ [] := by simp
    rw [GP, Bool.and_eq_true, ih, h1, h3]
    constructor
    · rintro ⟨_, ⟨rfl, i, hi, ⟨a1, a2⟩, a3⟩ | ⟨j, c2, w', b1, b2, b3, b4⟩⟩
      · exact .inr ⟨i, c, [], a1, rfl, a2, (cont_iff (r := flat p) p 0 [] _ i [] hp hd (by omega) (hy i a1)).2 (.inl ⟨a3, rfl⟩)⟩
      · obtain ⟨i, hi, ⟨a1, a2⟩, a3⟩ := (h2 j).1 b1
        exact .inr ⟨i, c, w, a1, rfl, a2, (cont_iff (r := flat p) p 0 [] _ i w hp hd (by omega) (hy i a1)).2 (.inr ⟨j, c2, w', (hfl i hi j).1 a3, b2, b3, b4⟩)⟩
    · rintro (⟨h, _⟩ | ⟨i, c2, w2, a1, e, a2, a3⟩)
      · cases h
      · injection e with e1 e2
        subst e1
        subst e2
        refine ⟨⟨i, hin i a1, a1, a2⟩, ?_⟩
        rcases (cont_iff (r := flat p) p 0 [] _ i w hp hd (by omega) (hy i a1)).1 a3 with ⟨b1, b2⟩ | ⟨j, c3, w', b1, b2, b3, b4⟩
        · exact .inl ⟨b2, i, hin i a1, ⟨a1, a2⟩, b1⟩
        · exact .inr ⟨j, c3, w', (h2 j).2 ⟨i, hin i a1, ⟨a1, a2⟩, (hfl i (hin i a1) j).2 b1⟩, b2, b3, b4⟩
theorem GP_Mt {w : List Int} : GP (refSt p) (refS0 p) w = true ↔ Mt p w := by
  have hd : (flat p).drop 0 = flat p ++ [] := by simp
  rw [GP_iff hp h24 w (refS0 p) (fun i h => fst_pos p 0 i (by omega) h)]
  have hf := first_iff (r := flat p) (sw := sw) p 0 [] (fun v => v = []) w hp hd (by omega)
  rw [refS0]
  simp only
  rw [← hf, emp_iff sw p 0 hp]
  constructor
  · rintro (⟨rfl, h⟩ | ⟨u, v, rfl, _, h, rfl⟩)
    · exact h
    · rw [List.append_nil]; exact h
  · intro h
    cases w with
    | nil => exact .inl ⟨rfl, h⟩
    | cons c w => exact .inr ⟨c :: w, [], by simp, List.cons_ne_nil _ _, h, rfl⟩
theorem refT_all {m : Nat} (hm : m ≤ 16) (hm1 : 0 < m) :
    okT (gdT (refSt p) m (refS0 p)).next.length m (gdT (refSt p) m (refS0 p)) ∧ (∀ q : Nat, q < (gdT (refSt p) m (refS0 p)).next.length → ∃ l, runA (gdT (refSt p) m (refS0 p)) 0 l = (q : Int)) ∧
    (∀ w, La (gdT (refSt p) m (refS0 p)) 0 w = true ↔ ltrs m w ∧ Mt p w) := by
  obtain ⟨b1, b2⟩ := ref_b24 hp h24
  obtain ⟨h1, h2, h3⟩ := gdT_all b1 b2 hm hm1
  exact ⟨h1, h2, fun w => by rw [h3 w, GP_Mt hp h24]⟩
end
end Go.Proofs.Ytkjffppioddnpaa

/- Chapter 42: classes by the reference (plain). -/
set_option maxRecDepth 100000
set_option maxHeartbeats 4000000
set_option linter.all false
namespace Go.Proofs.Ytkjffppioddnpaa
open Go.Vm
theorem parR_eq (t : Tb) : ∀ (k : Nat) (c : List Int) (cnt : Nat), c.length = t.next.length → (∀ j, j < cnt → ((j : Nat) : Int) ∈ c) → cnt ≤ 64 → t.next.length + 1 ≤ k + cnt → 0 < k → parR t k c cnt = if 64 < parK t k c cnt then none else some (parF t k c cnt)
  | 0, _, _, _, _, _, _, h => by omega
  | k + 1, c, cnt, hl, hm, h64, hk, _ => by
    have h1 := ref_ge t c hl hm
    have h2 := ref_le t c
    have hge := parK_ge t k (ref t c).1 (ref t c).2.length (ref_len t c) (refN_ok t c t.next.length).met
    rw [parR, parK, parF]
    by_cases he : (ref t c).2.length = cnt
    · rw [if_pos he, if_pos he, if_pos he, if_neg (by omega), if_neg (by omega)]
    · rw [if_neg he, if_neg he, if_neg he]
      by_cases hb : 64 < (ref t c).2.length
      · rw [if_pos hb, if_pos (by omega)]
      · rw [if_neg hb]
        exact parR_eq t k _ _ (ref_len t c) (refN_ok t c t.next.length).met (by omega) (by omega) (by omega)
theorem parO_eq (t : Tb) : parO t = if 64 < cntS t then none else some (parS t) := by
  rw [parO, cntS, parS]
  exact parR_eq t _ _ _ (by simp [cls0]) (fun j h => by omega) (by omega) (by omega) (by omega)
end Go.Proofs.Ytkjffppioddnpaa

/- Chapter 42: the reference's subset construction and Build. -/
set_option maxRecDepth 100000
set_option maxHeartbeats 4000000
set_option linter.all false
namespace Go.Proofs.Ytkjffppioddnpaa
open Go.Vm
def cfgG : Cfg := { lv := [35], ef := [], ord := [], em := [] }
theorem gdN0 {st : Stp} {m : Nat} {s0 : Gs} : gdN st m s0 0 = ⟨[s0], [], []⟩ := rfl
theorem grN0 {st : Stp} {s : Gs} {l : List Gs} : grN st s l 0 = (l, []) := rfl
theorem one_Ws {g : Bool} {p : Prop} : ∀ {l : List W32}, ones g (l.map fun x => V.int .u32 x.toNat) p = p
  | [] => rfl
  | x :: l => by simp only [List.map_cons, ones, V.one]; exact one_Ws
theorem bel_mapW {n : Nat} {α : Type} {f : α → Int} (l : List α) : belAll n (l.map fun x => V.int .u32 (f x)) = true := belAll_map (fun _ => rfl) l
theorem bel_takeW {n k : Nat} (l : List W32) : belAll n (List.take k (l.map fun x => V.int .u32 x.toNat)) = true := by rw [← List.map_take]; exact bel_Ws _
theorem brw_g {o0 o1 o2 : Ob} {R : List Ob} {v : Nat} {sets : List Gs} {x : Gs} : brws (o0 :: o1 :: o2 :: .cells v (sets.flatMap encGs) :: R) [.buf 3 v 0 sets.length 2, .agg (encGs x)] = [slG sets, .agg (encGs x)] := by
  have : (sets.flatMap encGs).take (sets.length * 2) = sets.flatMap encGs := List.take_of_length_le (by rw [len_flat len_Gs]; exact Nat.le_refl _)
  simp only [encGs] at this ⊢
  simp only [brws, brw, getO, Nat.beq_refl, Nat.beq, List.drop_zero, encGs, slG]
  rw [this]
def objN (wl : W32) (we : Bool) (wf : W32) (wt : Nat) (d : Gd) : List Ob := [.cells 0 [.sl true [] 0, .sl true [] 0], .cells 0 [.bool we, .int .u32 wf.toNat, .int .u32 wl.toNat, .int .i64 (wt : Int)], .dead, .cells (d.sets.length - 1) (d.sets.flatMap encGs), .cells 0 [.buf 5 d.rows.length 0 d.rows.length 1, .buf 6 d.accs.length 0 d.accs.length 1], .cells d.rows.length (d.rows.map slI), .cells d.accs.length (d.accs.map .bool)]
def objE (wl : W32) (we : Bool) (wf : W32) (wt : Nat) (d : Gd) (q : List Gs × List Int) : List Ob := [.cells 0 [.sl true [] 0, .sl true [] 0], .cells 0 [.bool we, .int .u32 wf.toNat, .int .u32 wl.toNat, .int .i64 (wt : Int)], .dead, .cells (q.1.length - 1) (q.1.flatMap encGs), .cells 0 [.buf 5 d.rows.length 0 d.rows.length 1, .buf 6 d.accs.length 0 d.accs.length 1], .cells d.rows.length (d.rows.map slI), .cells d.accs.length (d.accs.map .bool), .cells q.2.length (q.2.map (.int .i64))]
theorem len_objN {wl wf : W32} {we : Bool} {wt : Nat} {d : Gd} : (objN wl we wf wt d).length = 7 := rfl
theorem len_objE {wl wf : W32} {we : Bool} {wt : Nat} {d : Gd} {q : List Gs × List Int} : (objE wl we wf wt d q).length = 8 := rfl
theorem bel_objN {wl wf : W32} {we : Bool} {wt : Nat} {d : Gd} : belObs 7 (objN wl we wf wt d) = true := by
  simp only [objN, belObs_cons, belObs_nil, belO_cells, bel_bools, bel_rows, bel_Gss, belAll_cons, belAll_nil, bel_buf, bel_sl]
  rfl
theorem bel_objE {wl wf : W32} {we : Bool} {wt : Nat} {d : Gd} {q : List Gs × List Int} : belObs 8 (objE wl we wf wt d q) = true := by
  simp only [objE, belObs_cons, belObs_nil, belO_cells, bel_ints, bel_bools, bel_rows, bel_Gss, belAll_cons, belAll_nil, bel_buf, bel_sl]
  rfl
theorem pc29N {sw : Int} {p : Pr} (hp : okP sw p) (h24 : (flat p).length ≤ 24) {m N : Nat} (hbig : N = 2 ^ 30) (hm : m ≤ 16) (hm1 : 0 < m) : PC Try.prog 29 [slN (flat p), .int .i64 (m : Int)] (.agg (encT ⟨(gdN (refSt p) m (refS0 p) N).rows, (gdN (refSt p) m (refS0 p) N).accs⟩)) := by
  have h44 := pc44 sw (flat p) h24 p 0 [] hp (by simp)
  have h45 := fun (l : Nat) (hl : l ≤ 24) => pc45 hp h24 (leaf := l) hl
  obtain ⟨FL, hFL⟩ : ∃ FL : List W32, FL = (List.range (flat p).length).map fun i => orL (conL 0 p i) := ⟨_, rfl⟩
  have hFLl : FL.length = (flat p).length := by rw [hFL]; simp
  have hst : refSt p = fun s c => advS (flat p) FL (ptP 0 p).lst s c := by rw [hFL]; rfl
  have h46 := fun (s : Gs) (c : Int) => pc46 h24 hFLl (ptP 0 p).lst s c
  have hinv := fun i => gdN_inv (ref_b24 hp h24).1 (ref_b24 hp h24).2 (m := m) i
  have hgr := fun (s : Gs) (l : List Gs) (h : Gok l) (n : Nat) => grN_ok (ref_b24 hp h24).1 h (s := s) n
  have hat := fun (i : Nat) (h : (gdN (refSt p) m (refS0 p) i).sets.length ≤ i) (hj : i ≤ N) => gdN_at h hj
  have hs : ∀ (s : Gs) (c : Int), advS (flat p) FL (ptP 0 p).lst s c = refSt p s c := fun s c => by rw [hst]
  simp only [hs] at h46
  have hFi : ∀ i, (h : i < (flat p).length) → FL[i]? = some (orL (conL 0 p i)) := fun i h => by
    rw [hFL, List.getElem?_map, List.getElem?_range h]; rfl
  have hS0 : refS0 p = ⟨(ptP 0 p).fst, (ptP 0 p).emp⟩ := rfl
  rw [hS0] at hinv hat ⊢
  generalize refSt p = st at h46 hinv hgr hat ⊢
  generalize ptP 0 p = W at h44 h46 hinv hat ⊢
  clear hs hst hFL hp hS0
  generalize hr : flat p = r at h44 h45 h46 hFLl hFi h24
  obtain ⟨we, wf, wl, wt⟩ := W
  simp only at h46 hinv hat ⊢
  obtain ⟨zz, hzz⟩ : ∃ zz : Nat, zz = 0 := ⟨_, rfl⟩
  refine PC.cutN tok mixed cfgG 5 Try.func29 rfl Try.call29 (by simp [belN, bel_Ns, bel_slN, bel_Pt, bel_Gs, bel_Ws, bel_slW, bel_Gss, bel_slG, bel_ints, bel_bools, bel_rows, bel_slI, bel_slR, bel_slB, bel_encT, belAll_append, bel_mapW, bel_takeW, len_objN, bel_objN, len_objE, bel_objE]) (by simp [belN, bel_Ns, bel_slN, bel_Pt, bel_Gs, bel_Ws, bel_slW, bel_Gss, bel_slG, bel_ints, bel_bools, bel_rows, bel_slI, bel_slR, bel_slB, bel_encT, belAll_append, bel_mapW, bel_takeW, len_objN, bel_objN, len_objE, bel_objE, bel_encT]) ?_
  simp (maxSteps := 2000000) -implicitDefEqProofs +contextual (disch := first | assumption | omega | decide +kernel) only [push_cast, ↓capI, br2_true, br2_false, frk_tt, frk_tf, frk_f, frkD_tt, frkD_tf, frkD_f, pk2_true, pk2_false, imp_true, seval, Nat.reduceLeDiff, Nat.reduceEqDiff, reduceCtorEq, ↓reduceIte, cfg0, cfgG, slI, slR, slB, encT, ones_ints, ones_bools, encPt, encGs, slN, slW, slG, getV_map, getV_mapO, List.length_map, Nat.mul_one, one_Ws, Try.ntmps29, cutAt_z, cutAt_s]
  refine callO.pc h44 ?_
  simp (maxSteps := 2000000) -implicitDefEqProofs +contextual (disch := first | assumption | omega | decide +kernel) only [push_cast, ↓capI, br2_true, br2_false, frk_tt, frk_tf, frk_f, frkD_tt, frkD_tf, frkD_f, pk2_true, pk2_false, imp_true, seval, Nat.reduceLeDiff, Nat.reduceEqDiff, reduceCtorEq, ↓reduceIte, cfg0, cfgG, slI, slR, slB, encT, ones_ints, ones_bools, encPt, encGs, slN, slW, slG, getV_map, getV_mapO, List.length_map, Nat.mul_one, one_Ws, cutAt_z, cutAt_s]
  refine T.lp tok mixed cfgG (fun ((i : Nat)) => kp 2 (dd 2 (kp 2 (sv (.buf 2 i 0 i 1) (sv (.int .i64 (i : Int)) (dd 90 (nl))))))) (fun H0 ((i : Nat)) => [.cells 0 [.sl true [] 0, .sl true [] 0], .cells 0 [.bool we, .int .u32 wf.toNat, .int .u32 wl.toNat, .int .i64 (wt : Int)], .cells i ((FL.take i).map fun x => .int .u32 x.toNat)]) (fun ((i : Nat)) => i ≤ r.length) (fun ((i : Nat)) => r.length - i) (0) ?_ ?_ ?_
  · exact Nat.zero_le _
  · refine (Gn.ownNil (t := 6) (sz := 1) rfl).trans ?_
    exact Gn.canon (J := []) (by simp [List.append_nil, encT, slR, slB, slI, encPt, encGs, gdN0, grN0]) (by simp [wk, slN, slW, gdN0, grN0, putT, kp, dd, sv, nl]) (by simp [List.length_append, len_objN, len_objE]) (by simp [belN, bel_Ns, bel_slN, bel_Pt, bel_Gs, bel_Ws, bel_slW, bel_Gss, bel_slG, bel_ints, bel_bools, bel_rows, bel_slI, bel_slR, bel_slB, bel_encT, belAll_append, bel_mapW, bel_takeW, len_objN, bel_objN, len_objE, bel_objE, kp, dd, sv, nl]) (by simp [belN, bel_Ns, bel_slN, bel_Pt, bel_Gs, bel_Ws, bel_slW, bel_Gss, bel_slG, bel_ints, bel_bools, bel_rows, bel_slI, bel_slR, bel_slB, bel_encT, belAll_append, bel_mapW, bel_takeW, len_objN, bel_objN, len_objE, bel_objE])
  · intro i hi
    have hi0 : i ≤ r.length := hi
    have hlk : (FL.take i).length = i := by rw [List.length_take]; omega
    by_cases hlt : i < r.length
    · have h45i := h45 i (by omega)
      have hfi := hFi i hlt
      obtain ⟨hil, he⟩ := List.getElem?_eq_some_iff.1 hfi
      have htk : FL.take (i + 1) = FL.take i ++ [orL (conL 0 p i)] := by rw [List.take_succ_eq_append_getElem hil, he]
      simp (maxSteps := 2000000) -implicitDefEqProofs +contextual (disch := first | assumption | omega | decide +kernel) only [push_cast, ↓capI, br2_true, br2_false, frk_tt, frk_tf, frk_f, frkD_tt, frkD_tf, frkD_f, pk2_true, pk2_false, imp_true, seval, Nat.reduceLeDiff, Nat.reduceEqDiff, reduceCtorEq, ↓reduceIte, cfg0, cfgG, slI, slR, slB, encT, ones_ints, ones_bools, encPt, encGs, slN, slW, slG, getV_map, getV_mapO, List.length_map, Nat.mul_one, one_Ws, hlt, hlk]
      refine callO.pc h45i ?_
      simp (maxSteps := 2000000) -implicitDefEqProofs +contextual (disch := first | assumption | omega | decide +kernel) only [push_cast, ↓capI, br2_true, br2_false, frk_tt, frk_tf, frk_f, frkD_tt, frkD_tf, frkD_f, pk2_true, pk2_false, imp_true, seval, Nat.reduceLeDiff, Nat.reduceEqDiff, reduceCtorEq, ↓reduceIte, cfg0, cfgG, slI, slR, slB, encT, ones_ints, ones_bools, encPt, encGs, slN, slW, slG, getV_map, getV_mapO, List.length_map, Nat.mul_one, one_Ws, hlk]
      refine ⟨(i + 1), by omega, by (try simp only); omega, ?_⟩; exact Gn.canon (by first | rfl | (simp [List.append_nil, encT, slR, slB, slI, encPt, encGs, gdN0, grN0, htk]; rfl)) (by simp [wk, slN, slW, gdN0, grN0, htk]) (by simp [List.length_append, len_objN, len_objE]) (by simp [belN, bel_Ns, bel_slN, bel_Pt, bel_Gs, bel_Ws, bel_slW, bel_Gss, bel_slG, bel_ints, bel_bools, bel_rows, bel_slI, bel_slR, bel_slB, bel_encT, belAll_append, bel_mapW, bel_takeW, len_objN, bel_objN, len_objE, bel_objE]) (by simp [belN, bel_Ns, bel_slN, bel_Pt, bel_Gs, bel_Ws, bel_slW, bel_Gss, bel_slG, bel_ints, bel_bools, bel_rows, bel_slI, bel_slR, bel_slB, bel_encT, belAll_append, bel_mapW, bel_takeW, len_objN, bel_objN, len_objE, bel_objE])
    · have hin : i = r.length := by omega
      have hall : FL.take i = FL := List.take_of_length_le (by omega)
      simp (maxSteps := 2000000) -implicitDefEqProofs +contextual (disch := first | assumption | omega | decide +kernel) only [push_cast, ↓capI, br2_true, br2_false, frk_tt, frk_tf, frk_f, frkD_tt, frkD_tf, frkD_f, pk2_true, pk2_false, imp_true, seval, Nat.reduceLeDiff, Nat.reduceEqDiff, reduceCtorEq, ↓reduceIte, cfg0, cfgG, slI, slR, slB, encT, ones_ints, ones_bools, encPt, encGs, slN, slW, slG, getV_map, getV_mapO, List.length_map, Nat.mul_one, one_Ws, hlt, hall, cutAt_z, cutAt_s]
      have htkF : List.take r.length (FL.map fun x => V.int .u32 x.toNat) = FL.map fun x => V.int .u32 x.toNat := List.take_of_length_le (by rw [List.length_map]; omega)
      refine cutK.gn ((Gn.weak (tm' := (slN r :: .int .i64 (m : Int) :: .dead :: .dead :: .ptr 0 0 0 :: .ptr 1 0 0 :: .buf 2 i 0 i 1 :: .dead :: .buf 3 0 0 1 2 :: .ptr 4 0 0 :: .dead :: .dead :: .dead :: .dead :: .dead :: .dead :: .dead :: .dead :: .dead :: .dead :: .dead :: .dead :: .dead :: .dead :: .dead :: .dead :: .dead :: .dead :: .dead :: .dead :: .dead :: .dead :: .dead :: .dead :: .dead :: .dead :: .dead :: .dead :: .dead :: .dead :: .dead :: .dead :: .dead :: .dead :: .dead :: .dead :: .dead :: .dead :: .dead :: .dead :: .dead :: .dead :: .dead :: .dead :: .dead :: .dead :: .dead :: .dead :: .dead :: .dead :: .dead :: .dead :: .dead :: .dead :: .dead :: .dead :: .dead :: .dead :: .dead :: .dead :: .dead :: .dead :: .dead :: .dead :: .dead :: .dead :: .dead :: .dead :: .dead :: .dead :: .dead :: .dead :: .dead :: .dead :: .dead :: .dead :: .dead :: .dead :: .dead :: .dead :: .dead :: .dead :: .dead :: .dead :: .dead :: .dead :: .dead :: .dead :: [])) (by simp [wk, slN, slW, gdN0, grN0])).trans ((Gn.freeze (id := 2) rfl).trans ((Gn.weak (tm' := (slN r :: .int .i64 (m : Int) :: .dead :: .dead :: .ptr 0 0 0 :: .ptr 1 0 0 :: slW FL :: .dead :: .buf 3 0 0 1 2 :: .ptr 4 0 0 :: .dead :: .dead :: .dead :: .dead :: .dead :: .dead :: .dead :: .dead :: .dead :: .dead :: .dead :: .dead :: .dead :: .dead :: .dead :: .dead :: .dead :: .dead :: .dead :: .dead :: .dead :: .dead :: .dead :: .dead :: .dead :: .dead :: .dead :: .dead :: .dead :: .dead :: .dead :: .dead :: .dead :: .dead :: .dead :: .dead :: .dead :: .dead :: .dead :: .dead :: .dead :: .dead :: .dead :: .dead :: .dead :: .dead :: .dead :: .dead :: .dead :: .dead :: .dead :: .dead :: .dead :: .dead :: .dead :: .dead :: .dead :: .dead :: .dead :: .dead :: .dead :: .dead :: .dead :: .dead :: .dead :: .dead :: .dead :: .dead :: .dead :: .dead :: .dead :: .dead :: .dead :: .dead :: .dead :: .dead :: .dead :: .dead :: .dead :: .dead :: .dead :: .dead :: .dead :: .dead :: .dead :: .dead :: .dead :: .dead :: [])) ?_).trans ((Gn.canon (J := []) (H := [.cells 0 [.sl true [] 0, .sl true [] 0], .cells 0 [.bool we, .int .u32 wf.toNat, .int .u32 wl.toNat, .int .i64 (wt : Int)], .dead, .cells 0 [.int .u32 wf.toNat, .bool we], .cells 0 [.sl true [] 0, .sl true [] 0]]) (tm' := (slN r :: .int .i64 (m : Int) :: .dead :: .dead :: .ptr 0 0 0 :: .ptr 1 0 0 :: slW FL :: .dead :: .buf 3 0 0 1 2 :: .ptr 4 0 0 :: .dead :: .dead :: .dead :: .dead :: .dead :: .dead :: .dead :: .dead :: .dead :: .dead :: .dead :: .dead :: .dead :: .dead :: .dead :: .dead :: .dead :: .dead :: .dead :: .dead :: .dead :: .dead :: .dead :: .dead :: .dead :: .dead :: .dead :: .dead :: .dead :: .dead :: .dead :: .dead :: .dead :: .dead :: .dead :: .dead :: .dead :: .dead :: .dead :: .dead :: .dead :: .dead :: .dead :: .dead :: .dead :: .dead :: .dead :: .dead :: .dead :: .dead :: .dead :: .dead :: .dead :: .dead :: .dead :: .dead :: .dead :: .dead :: .dead :: .dead :: .dead :: .dead :: .dead :: .dead :: .dead :: .dead :: .dead :: .dead :: .dead :: .dead :: .dead :: .dead :: .dead :: .dead :: .dead :: .dead :: .dead :: .dead :: .dead :: .dead :: .dead :: .dead :: .dead :: .dead :: .dead :: .dead :: .dead :: .dead :: [])) ?_ ?_ ?_ ?_ ?_).trans ((Gn.ownCell (id := 4) (i := 0) (sz := 1) rfl rfl).trans (Gn.ownCell (id := 4) (i := 1) (sz := 1) rfl rfl)))))) (cutK.go (cfg := cfgG) tok mixed ?_)
      · simp [wk, slN, slW, gdN0, grN0, fzs, fz, Nat.beq, Nat.beq_refl, slW, fzs_ok, belN, bel_Ns, bel_slN, bel_Pt, bel_Gs, bel_Ws, bel_slW, bel_Gss, bel_slG, bel_ints, bel_bools, bel_rows, bel_slI, bel_slR, bel_slB, bel_encT, belAll_append, bel_mapW, bel_takeW, len_objN, bel_objN, len_objE, bel_objE, hin, hFLl, htkF]
      · simp [wk, slN, slW, gdN0, grN0, fzs, fz, fzH, setO, Nat.beq, Nat.beq_refl, slW, fzs_ok, belN, bel_Ns, bel_slN, bel_Pt, bel_Gs, bel_Ws, bel_slW, bel_Gss, bel_slG, bel_ints, bel_bools, bel_rows, bel_slI, bel_slR, bel_slB, bel_encT, belAll_append, bel_mapW, bel_takeW, len_objN, bel_objN, len_objE, bel_objE, hin, hFLl]
      · simp [wk, slN, slW, gdN0, grN0]
      · simp
      · simp [belN, bel_Ns, bel_slN, bel_Pt, bel_Gs, bel_Ws, bel_slW, bel_Gss, bel_slG, bel_ints, bel_bools, bel_rows, bel_slI, bel_slR, bel_slB, bel_encT, belAll_append, bel_mapW, bel_takeW, len_objN, bel_objN, len_objE, bel_objE]
      · simp [belN, bel_Ns, bel_slN, bel_Pt, bel_Gs, bel_Ws, bel_slW, bel_Gss, bel_slG, bel_ints, bel_bools, bel_rows, bel_slI, bel_slR, bel_slB, bel_encT, belAll_append, bel_mapW, bel_takeW, len_objN, bel_objN, len_objE, bel_objE]
      · simp (maxSteps := 2000000) -implicitDefEqProofs +contextual (disch := first | assumption | omega | decide +kernel) only [push_cast, ↓capI, br2_true, br2_false, frk_tt, frk_tf, frk_f, frkD_tt, frkD_tf, frkD_f, pk2_true, pk2_false, imp_true, seval, Nat.reduceLeDiff, Nat.reduceEqDiff, reduceCtorEq, ↓reduceIte, cfg0, cfgG, slI, slR, slB, encT, ones_ints, ones_bools, encPt, encGs, slN, slW, slG, getV_map, getV_mapO, List.length_map, Nat.mul_one, one_Ws, List.set]
        refine T.lp tok mixed cfgG (fun ((i : Nat)) => kp 2 (dd 2 (kp 3 (dd 1 (sv (.buf 3 ((gdN st m ⟨wf, we⟩ i).sets.length - 1) 0 (gdN st m ⟨wf, we⟩ i).sets.length 2) (kp 1 (sv (.int .i64 (i : Int)) (dd 87 (nl))))))))) (fun H0 ((i : Nat)) => objN wl we wf wt (gdN st m ⟨wf, we⟩ i)) (fun ((i : Nat)) => i ≤ (gdN st m ⟨wf, we⟩ i).sets.length ∧ i ≤ N) (fun ((i : Nat)) => N - i) (0) ?_ ?_ ?_
        · exact ⟨Nat.zero_le _, Nat.zero_le _⟩
        · exact Gn.canon (J := []) (by simp [List.append_nil, encT, slR, slB, slI, encPt, encGs, gdN0, grN0, objN]) (by simp [wk, slN, slW, gdN0, grN0, putT, kp, dd, sv, nl]) (by simp [List.length_append, len_objN, len_objE, objN]) (by simp [belN, bel_Ns, bel_slN, bel_Pt, bel_Gs, bel_Ws, bel_slW, bel_Gss, bel_slG, bel_ints, bel_bools, bel_rows, bel_slI, bel_slR, bel_slB, bel_encT, belAll_append, bel_mapW, bel_takeW, len_objN, bel_objN, len_objE, bel_objE, kp, dd, sv, nl]) (by rw [len_objN]; exact bel_objN)
        · intro i hi
          obtain ⟨hi, hiN⟩ := hi
          have hv := hinv i
          have hnext : gdN st m ⟨wf, we⟩ (i + 1) = gdI st m i (gdN st m ⟨wf, we⟩ i) := rfl
          have hstop := hat i
          generalize hd : gdN st m ⟨wf, we⟩ i = d at hv hnext hstop hi
          simp only [hd]
          obtain ⟨sets, rows, accs⟩ := d
          have hok := hv.ok
          have hrl := hv.rows
          have hal := hv.accs
          simp only at hok hrl hal hi hstop
          have hlen := hok.len
          have hx1 : objN wl we wf wt ⟨sets, rows, accs⟩ = [.cells 0 [.sl true [] 0, .sl true [] 0], .cells 0 [.bool we, .int .u32 wf.toNat, .int .u32 wl.toNat, .int .i64 (wt : Int)], .dead, .cells (sets.length - 1) (sets.flatMap encGs), .cells 0 [.buf 5 rows.length 0 rows.length 1, .buf 6 accs.length 0 accs.length 1], .cells rows.length (rows.map slI), .cells accs.length (accs.map .bool)] := rfl
          by_cases hlt : i < sets.length
          · have hgs : getV (sets.flatMap encGs) (i * 2) 2 = encGs sets[i] := get_flat len_Gs sets i hlt
            have hsl : (sets.flatMap encGs).length = sets.length * 2 := len_flat len_Gs sets
            have hs1 : sets[i]? = some sets[i] := List.getElem?_eq_getElem hlt
            have hgr2 := fun j => hgr sets[i] sets hok j
            have h46i := fun c => h46 sets[i] c
            generalize hS : sets[i] = S at hgs hs1 hgr2 h46i
            simp (maxSteps := 2000000) -implicitDefEqProofs +contextual (disch := first | assumption | omega | decide +kernel) only [push_cast, ↓capI, br2_true, br2_false, frk_tt, frk_tf, frk_f, frkD_tt, frkD_tf, frkD_f, pk2_true, pk2_false, imp_true, seval, Nat.reduceLeDiff, Nat.reduceEqDiff, reduceCtorEq, ↓reduceIte, cfg0, cfgG, slI, slR, slB, encT, ones_ints, ones_bools, encPt, encGs, slN, slW, slG, getV_map, getV_mapO, List.length_map, Nat.mul_one, one_Ws, hx1, hlt]
            refine T.lp tok mixed cfgG (fun ((j : Nat)) => kp 2 (dd 2 (kp 3 (dd 1 (sv (.buf 3 ((grN st S sets j).1.length - 1) 0 (grN st S sets j).1.length 2) (kp 2 (sv (.buf 7 j 0 j 1) (sv (.int .i64 (j : Int)) (dd 85 (nl)))))))))) (fun H0 ((j : Nat)) => objE wl we wf wt ⟨sets, rows, accs⟩ (grN st S sets j)) (fun ((j : Nat)) => j ≤ m) (fun ((j : Nat)) => m - j) (0) ?_ ?_ ?_
            · exact Nat.zero_le _
            · refine (Gn.ownNil (t := 11) (sz := 1) rfl).trans ?_
              exact Gn.canon (J := []) (by simp [List.append_nil, encT, slR, slB, slI, encPt, encGs, gdN0, grN0, objE]) (by simp [wk, slN, slW, gdN0, grN0, putT, kp, dd, sv, nl]) (by simp [List.length_append, len_objN, len_objE, objE]) (by simp [belN, bel_Ns, bel_slN, bel_Pt, bel_Gs, bel_Ws, bel_slW, bel_Gss, bel_slG, bel_ints, bel_bools, bel_rows, bel_slI, bel_slR, bel_slB, bel_encT, belAll_append, bel_mapW, bel_takeW, len_objN, bel_objN, len_objE, bel_objE, kp, dd, sv, nl]) (by rw [len_objE]; exact bel_objE)
            · intro j hj
              have hj0 : j ≤ m := hj
              obtain ⟨hokj, ⟨rr, hrr⟩, hrowl, _, _⟩ := hgr2 j
              have hnx : grN st S sets (j + 1) = grI st S j (grN st S sets j) := rfl
              have hlast : j = m → grN st S sets m = grN st S sets j := fun e => by rw [e]
              generalize hR : grN st S sets j = q at hokj hrr hrowl hnx hlast
              simp only [hR]
              obtain ⟨l, row⟩ := q
              simp only at hokj hrr hrowl
              have hll := hokj.len
              have hil : i < l.length := by rw [hrr, List.length_append]; omega
              have hgl : getV (l.flatMap encGs) (i * 2) 2 = encGs S := by
                rw [get_flat len_Gs l i hil, ← hS]
                simp only [hrr, List.getElem_append_left hlt]
              have hfl : (l.flatMap encGs).length = l.length * 2 := len_flat len_Gs l
              have hx2 : objE wl we wf wt ⟨sets, rows, accs⟩ (l, row) = [.cells 0 [.sl true [] 0, .sl true [] 0], .cells 0 [.bool we, .int .u32 wf.toNat, .int .u32 wl.toNat, .int .i64 (wt : Int)], .dead, .cells (l.length - 1) (l.flatMap encGs), .cells 0 [.buf 5 rows.length 0 rows.length 1, .buf 6 accs.length 0 accs.length 1], .cells rows.length (rows.map slI), .cells accs.length (accs.map .bool), .cells row.length (row.map (.int .i64))] := rfl
              obtain ⟨sn, sa⟩ := S
              by_cases hjm : j < m
              · have hc := h46i j
                rw [grI] at hnx
                generalize st ⟨sn, sa⟩ j = T at hc hnx
                obtain ⟨tg, tb⟩ := T
                simp only at hc hnx
                cases tb with
                | false =>
                  rw [if_pos rfl] at hnx
                  obtain ⟨tn, ta⟩ := tg
                  simp (maxSteps := 2000000) -implicitDefEqProofs +contextual (disch := first | assumption | omega | decide +kernel) only [push_cast, ↓capI, br2_true, br2_false, frk_tt, frk_tf, frk_f, frkD_tt, frkD_tf, frkD_f, pk2_true, pk2_false, imp_true, seval, Nat.reduceLeDiff, Nat.reduceEqDiff, reduceCtorEq, ↓reduceIte, cfg0, cfgG, slI, slR, slB, encT, ones_ints, ones_bools, encPt, encGs, slN, slW, slG, getV_map, getV_mapO, List.length_map, Nat.mul_one, one_Ws, hx2, hjm, hil, hgl, hfl, hrowl]
                  refine callG.pc1 hc ?_
                  simp (maxSteps := 2000000) -implicitDefEqProofs +contextual (disch := first | assumption | omega | decide +kernel) only [push_cast, ↓capI, br2_true, br2_false, frk_tt, frk_tf, frk_f, frkD_tt, frkD_tf, frkD_f, pk2_true, pk2_false, imp_true, seval, Nat.reduceLeDiff, Nat.reduceEqDiff, reduceCtorEq, ↓reduceIte, cfg0, cfgG, slI, slR, slB, encT, ones_ints, ones_bools, encPt, encGs, slN, slW, slG, getV_map, getV_mapO, List.length_map, Nat.mul_one, one_Ws, hrowl]
                  refine ⟨(j + 1), by omega, by (try simp only); omega, ?_⟩; exact Gn.canon (by first | rfl | (simp [List.append_nil, encT, slR, slB, slI, encPt, encGs, gdN0, grN0, hnx, objE, hrowl]; rfl)) (by simp [wk, slN, slW, gdN0, grN0, hnx, objE, hrowl]) (by simp [List.length_append, len_objN, len_objE]) (by simp [belN, bel_Ns, bel_slN, bel_Pt, bel_Gs, bel_Ws, bel_slW, bel_Gss, bel_slG, bel_ints, bel_bools, bel_rows, bel_slI, bel_slR, bel_slB, bel_encT, belAll_append, bel_mapW, bel_takeW, len_objN, bel_objN, len_objE, bel_objE]) (by simp [belN, bel_Ns, bel_slN, bel_Pt, bel_Gs, bel_Ws, bel_slW, bel_Gss, bel_slG, bel_ints, bel_bools, bel_rows, bel_slI, bel_slR, bel_slB, bel_encT, belAll_append, bel_mapW, bel_takeW, len_objN, bel_objN, len_objE, bel_objE])
                | true =>
                  rw [if_neg (by decide)] at hnx
                  have h47 := pc47 (l := l) (by omega) tg
                  have hbel : belAll 0 [slG l, .agg (encGs tg)] = true := by rw [belAll_cons, bel_slG]; rfl
                  have hap : l.length - 1 + 1 = l.length := by omega
                  cases hik : idxG tg l with
                  | some k =>
                    rw [hik] at hnx
                    simp only at hnx
                    rw [fndG, hik] at h47
                    simp only at h47
                    obtain ⟨tn, ta⟩ := tg
                    simp (maxSteps := 2000000) -implicitDefEqProofs +contextual (disch := first | assumption | omega | decide +kernel) only [push_cast, ↓capI, br2_true, br2_false, frk_tt, frk_tf, frk_f, frkD_tt, frkD_tf, frkD_f, pk2_true, pk2_false, imp_true, seval, Nat.reduceLeDiff, Nat.reduceEqDiff, reduceCtorEq, ↓reduceIte, cfg0, cfgG, slI, slR, slB, encT, ones_ints, ones_bools, encPt, encGs, slN, slW, slG, getV_map, getV_mapO, List.length_map, Nat.mul_one, one_Ws, hx2, hjm, hil, hgl, hfl, hrowl]
                    refine callG.pc1 hc ?_
                    simp (maxSteps := 2000000) -implicitDefEqProofs +contextual (disch := first | assumption | omega | decide +kernel) only [push_cast, ↓capI, br2_true, br2_false, frk_tt, frk_tf, frk_f, frkD_tt, frkD_tf, frkD_f, pk2_true, pk2_false, imp_true, seval, Nat.reduceLeDiff, Nat.reduceEqDiff, reduceCtorEq, ↓reduceIte, cfg0, cfgG, slI, slR, slB, encT, ones_ints, ones_bools, encPt, encGs, slN, slW, slG, getV_map, getV_mapO, List.length_map, Nat.mul_one, one_Ws, hrowl]
                    refine callO.lent (J := []) (by rw [List.nil_append, List.append_nil]; exact (brw_g (x := ⟨tn, ta⟩)) ▸ h47.toJ rfl) (by rw [List.nil_append, List.append_nil]; exact (congrArg (belAll 0) (brw_g (x := ⟨tn, ta⟩))).trans hbel) rfl rfl ?_
                    simp (maxSteps := 2000000) -implicitDefEqProofs +contextual (disch := first | assumption | omega | decide +kernel) only [push_cast, ↓capI, br2_true, br2_false, frk_tt, frk_tf, frk_f, frkD_tt, frkD_tf, frkD_f, pk2_true, pk2_false, imp_true, seval, Nat.reduceLeDiff, Nat.reduceEqDiff, reduceCtorEq, ↓reduceIte, cfg0, cfgG, slI, slR, slB, encT, ones_ints, ones_bools, encPt, encGs, slN, slW, slG, getV_map, getV_mapO, List.length_map, Nat.mul_one, one_Ws, hrowl]
                    refine ⟨(j + 1), by omega, by (try simp only); omega, ?_⟩; exact Gn.canon (by first | rfl | (simp [List.append_nil, encT, slR, slB, slI, encPt, encGs, gdN0, grN0, hnx, objE, hrowl]; rfl)) (by simp [wk, slN, slW, gdN0, grN0, hnx, objE, hrowl]) (by simp [List.length_append, len_objN, len_objE]) (by simp [belN, bel_Ns, bel_slN, bel_Pt, bel_Gs, bel_Ws, bel_slW, bel_Gss, bel_slG, bel_ints, bel_bools, bel_rows, bel_slI, bel_slR, bel_slB, bel_encT, belAll_append, bel_mapW, bel_takeW, len_objN, bel_objN, len_objE, bel_objE]) (by simp [belN, bel_Ns, bel_slN, bel_Pt, bel_Gs, bel_Ws, bel_slW, bel_Gss, bel_slG, bel_ints, bel_bools, bel_rows, bel_slI, bel_slR, bel_slB, bel_encT, belAll_append, bel_mapW, bel_takeW, len_objN, bel_objN, len_objE, bel_objE])
                  | none =>
                    rw [hik] at hnx
                    simp only at hnx
                    rw [fndG, hik] at h47
                    simp only at h47
                    obtain ⟨tn, ta⟩ := tg
                    simp (maxSteps := 2000000) -implicitDefEqProofs +contextual (disch := first | assumption | omega | decide +kernel) only [push_cast, ↓capI, br2_true, br2_false, frk_tt, frk_tf, frk_f, frkD_tt, frkD_tf, frkD_f, pk2_true, pk2_false, imp_true, seval, Nat.reduceLeDiff, Nat.reduceEqDiff, reduceCtorEq, ↓reduceIte, cfg0, cfgG, slI, slR, slB, encT, ones_ints, ones_bools, encPt, encGs, slN, slW, slG, getV_map, getV_mapO, List.length_map, Nat.mul_one, one_Ws, hx2, hjm, hil, hgl, hfl, hrowl]
                    refine callG.pc1 hc ?_
                    simp (maxSteps := 2000000) -implicitDefEqProofs +contextual (disch := first | assumption | omega | decide +kernel) only [push_cast, ↓capI, br2_true, br2_false, frk_tt, frk_tf, frk_f, frkD_tt, frkD_tf, frkD_f, pk2_true, pk2_false, imp_true, seval, Nat.reduceLeDiff, Nat.reduceEqDiff, reduceCtorEq, ↓reduceIte, cfg0, cfgG, slI, slR, slB, encT, ones_ints, ones_bools, encPt, encGs, slN, slW, slG, getV_map, getV_mapO, List.length_map, Nat.mul_one, one_Ws, hrowl]
                    refine callO.lent (J := []) (by rw [List.nil_append, List.append_nil]; exact (brw_g (x := ⟨tn, ta⟩)) ▸ h47.toJ rfl) (by rw [List.nil_append, List.append_nil]; exact (congrArg (belAll 0) (brw_g (x := ⟨tn, ta⟩))).trans hbel) rfl rfl ?_
                    simp (maxSteps := 2000000) -implicitDefEqProofs +contextual (disch := first | assumption | omega | decide +kernel) only [push_cast, ↓capI, br2_true, br2_false, frk_tt, frk_tf, frk_f, frkD_tt, frkD_tf, frkD_f, pk2_true, pk2_false, imp_true, seval, Nat.reduceLeDiff, Nat.reduceEqDiff, reduceCtorEq, ↓reduceIte, cfg0, cfgG, slI, slR, slB, encT, ones_ints, ones_bools, encPt, encGs, slN, slW, slG, getV_map, getV_mapO, List.length_map, Nat.mul_one, one_Ws, hrowl, hfl, hap]
                    refine ⟨(j + 1), by omega, by (try simp only); omega, ?_⟩; exact Gn.canon (by first | rfl | (simp [List.append_nil, encT, slR, slB, slI, encPt, encGs, gdN0, grN0, hnx, objE, hrowl, hap]; rfl)) (by simp [wk, slN, slW, gdN0, grN0, hnx, objE, hrowl, hap]) (by simp [List.length_append, len_objN, len_objE]) (by simp [belN, bel_Ns, bel_slN, bel_Pt, bel_Gs, bel_Ws, bel_slW, bel_Gss, bel_slG, bel_ints, bel_bools, bel_rows, bel_slI, bel_slR, bel_slB, bel_encT, belAll_append, bel_mapW, bel_takeW, len_objN, bel_objN, len_objE, bel_objE]) (by simp [belN, bel_Ns, bel_slN, bel_Pt, bel_Gs, bel_Ws, bel_slW, bel_Gss, bel_slG, bel_ints, bel_bools, bel_rows, bel_slI, bel_slR, bel_slB, bel_encT, belAll_append, bel_mapW, bel_takeW, len_objN, bel_objN, len_objE, bel_objE])
              · have hjm2 : j = m := by omega
                have hI : gdI st m i ⟨sets, rows, accs⟩ = ⟨l, rows ++ [row], accs ++ [sa]⟩ := by
                  rw [gdI]
                  simp only [hs1]
                  rw [hlast hjm2]
                rw [hI] at hnext
                subst hjm2
                have hg2 : getV (l.flatMap encGs) (i * 2 + 1) 1 = [.bool sa] := by
                  have := get_flat_drop (enc := encGs) len_Gs l i hil 1 1 (by decide)
                  have e2 : encGs l[i] = [.int .u32 sn.toNat, .bool sa] := by
                    have := hgl
                    rw [get_flat len_Gs l i hil] at this
                    exact this
                  rw [e2] at this
                  simpa [getV, List.drop_drop] using this
                have hb2 : i * 2 + 1 + 1 ≤ l.length * 2 := by omega
                simp (maxSteps := 2000000) -implicitDefEqProofs +contextual (disch := first | assumption | omega | decide +kernel) only [push_cast, ↓capI, br2_true, br2_false, frk_tt, frk_tf, frk_f, frkD_tt, frkD_tf, frkD_f, pk2_true, pk2_false, imp_true, seval, Nat.reduceLeDiff, Nat.reduceEqDiff, reduceCtorEq, ↓reduceIte, cfg0, cfgG, slI, slR, slB, encT, ones_ints, ones_bools, encPt, encGs, slN, slW, slG, getV_map, getV_mapO, List.length_map, Nat.mul_one, one_Ws, hx2, hjm, hil, hfl, hg2, hb2]
                refine ⟨(i + 1), ⟨by rw [hnext]; exact hil, by omega⟩, by (try simp only); omega, ?_⟩; refine (Gn.freeze (id := 7) rfl).trans ?_; exact Gn.canon (by first | rfl | (simp [List.append_nil, encT, slR, slB, slI, encPt, encGs, gdN0, grN0, fzs, fz, fzs_ok, fzH, setO, getO, Nat.beq, List.take_of_length_le, belN, bel_Ns, bel_slN, bel_Pt, bel_Gs, bel_Ws, bel_slW, bel_Gss, bel_slG, bel_ints, bel_bools, bel_rows, bel_slI, bel_slR, bel_slB, bel_encT, belAll_append, bel_mapW, bel_takeW, len_objN, bel_objN, len_objE, bel_objE, hnext, objN, slI, hrowl, fzs_app]; done) | (simp [List.append_nil, encT, slR, slB, slI, encPt, encGs, gdN0, grN0, fzs, fz, fzs_ok, fzH, setO, getO, Nat.beq, List.take_of_length_le, belN, bel_Ns, bel_slN, bel_Pt, bel_Gs, bel_Ws, bel_slW, bel_Gss, bel_slG, bel_ints, bel_bools, bel_rows, bel_slI, bel_slR, bel_slB, bel_encT, belAll_append, bel_mapW, bel_takeW, len_objN, bel_objN, len_objE, bel_objE, hnext, objN, slI, hrowl, fzs_app]; rfl)) (by simp [wk, slN, slW, gdN0, grN0, fzs, fz, fzs_ok, fzH, setO, getO, Nat.beq, List.take_of_length_le, belN, bel_Ns, bel_slN, bel_Pt, bel_Gs, bel_Ws, bel_slW, bel_Gss, bel_slG, bel_ints, bel_bools, bel_rows, bel_slI, bel_slR, bel_slB, bel_encT, belAll_append, bel_mapW, bel_takeW, len_objN, bel_objN, len_objE, bel_objE, hnext, objN, slI, hrowl, fzs_app, cfg0, cfgG, slI, slR, slB, encT, ones_ints, ones_bools, encPt, encGs, slN, slW, slG, getV_map, getV_mapO, List.length_map, Nat.mul_one, one_Ws]) (by simp [List.length_append, len_objN, len_objE]) (by simp [belN, bel_Ns, bel_slN, bel_Pt, bel_Gs, bel_Ws, bel_slW, bel_Gss, bel_slG, bel_ints, bel_bools, bel_rows, bel_slI, bel_slR, bel_slB, bel_encT, belAll_append, bel_mapW, bel_takeW, len_objN, bel_objN, len_objE, bel_objE]) (by simp [belN, bel_Ns, bel_slN, bel_Pt, bel_Gs, bel_Ws, bel_slW, bel_Gss, bel_slG, bel_ints, bel_bools, bel_rows, bel_slI, bel_slR, bel_slB, bel_encT, belAll_append, bel_mapW, bel_takeW, len_objN, bel_objN, len_objE, bel_objE])
          · rw [hstop (by omega) hiN]
            simp (maxSteps := 2000000) -implicitDefEqProofs +contextual (disch := first | assumption | omega | decide +kernel) only [push_cast, ↓capI, br2_true, br2_false, frk_tt, frk_tf, frk_f, frkD_tt, frkD_tf, frkD_f, pk2_true, pk2_false, imp_true, seval, Nat.reduceLeDiff, Nat.reduceEqDiff, reduceCtorEq, ↓reduceIte, cfg0, cfgG, slI, slR, slB, encT, ones_ints, ones_bools, encPt, encGs, slN, slW, slG, getV_map, getV_mapO, List.length_map, Nat.mul_one, one_Ws, hx1, hlt]
            refine endK.gn (Gn.freeze (id := 5) rfl) ?_; refine endK.gn (Gn.freeze (id := 6) rfl) ?_; refine endK.ret ?_ (by first | rfl | simp [belN, bel_Ns, bel_slN, bel_Pt, bel_Gs, bel_Ws, bel_slW, bel_Gss, bel_slG, bel_ints, bel_bools, bel_rows, bel_slI, bel_slR, bel_slB, bel_encT, belAll_append, bel_mapW, bel_takeW, len_objN, bel_objN, len_objE, bel_objE]); simp [belN, bel_Ns, bel_slN, bel_Pt, bel_Gs, bel_Ws, bel_slW, bel_Gss, bel_slG, bel_ints, bel_bools, bel_rows, bel_slI, bel_slR, bel_slB, bel_encT, belAll_append, bel_mapW, bel_takeW, len_objN, bel_objN, len_objE, bel_objE, fzs_ok, imp, lenOK_iff, List.take_of_length_le, evRes, getT, getO, setO, fzs, fz, fzH, Nat.beq, retV, Res.then, ldT, ldR, mkV, getV, cfg0, cfgG, slI, slR, slB, encT, ones_ints, ones_bools, encPt, encGs, slN, slW, slG, getV_map, getV_mapO, List.length_map, Nat.mul_one, one_Ws, Try.f29,  encT, slR, slB, tt_27]
theorem pc29 {sw : Int} {p : Pr} (hp : okP sw p) (h24 : (flat p).length ≤ 24) {m : Nat} (hm : m ≤ 16) (hm1 : 0 < m) : PC Try.prog 29 [slN (flat p), .int .i64 (m : Int)] (.agg (encT (gdT (refSt p) m (refS0 p)))) := pc29N hp h24 (N := bigN) rfl hm hm1
theorem bld10 {r : List Nd} {sw : Int} (hr : r.length ≤ 4000000) : BldR 10 r sw := by
  by_cases hs : sw < 1 ∨ 16 < sw
  · refine .inl ⟨hs, ?_⟩
    rcases hs with h | h
    · refine PC.walk tok mixed cfgG Try.func10 rfl Try.call10 (by simp [belN, bel_Ns, bel_slN, bel_Pt, bel_Gs, bel_Ws, bel_slW, bel_Gss, bel_slG, bel_ints, bel_bools, bel_rows, bel_slI, bel_slR, bel_slB, bel_encT, belAll_append, bel_mapW, bel_takeW, len_objN, bel_objN, len_objE, bel_objE]) (by first | rfl | simp [belN, bel_Ns, bel_slN, bel_Pt, bel_Gs, bel_Ws, bel_slW, bel_Gss, bel_slG, bel_ints, bel_bools, bel_rows, bel_slI, bel_slR, bel_slB, bel_encT, belAll_append, bel_mapW, bel_takeW, len_objN, bel_objN, len_objE, bel_objE]) ?_; simp (maxSteps := 2000000) -implicitDefEqProofs +contextual (disch := first | assumption | omega | decide +kernel) only [push_cast, ↓capI, br2_true, br2_false, frk_tt, frk_tf, frk_f, frkD_tt, frkD_tf, frkD_f, pk2_true, pk2_false, imp_true, seval, Nat.reduceLeDiff, Nat.reduceEqDiff, reduceCtorEq, ↓reduceIte, cfg0, cfgG, slI, slR, slB, encT, ones_ints, ones_bools, encPt, encGs, slN, slW, slG, getV_map, getV_mapO, List.length_map, Nat.mul_one, one_Ws, Try.ntmps10]
      refine endK.ret ?_ (by first | rfl | simp [belN, bel_Ns, bel_slN, bel_Pt, bel_Gs, bel_Ws, bel_slW, bel_Gss, bel_slG, bel_ints, bel_bools, bel_rows, bel_slI, bel_slR, bel_slB, bel_encT, belAll_append, bel_mapW, bel_takeW, len_objN, bel_objN, len_objE, bel_objE]); simp [evRes, getT, retV, Try.f10,  zTb, tt_27, Res.then, ldT, ldR, getO, mkV, getV, imp, lenOK_iff]
    · refine PC.walk tok mixed cfgG Try.func10 rfl Try.call10 (by simp [belN, bel_Ns, bel_slN, bel_Pt, bel_Gs, bel_Ws, bel_slW, bel_Gss, bel_slG, bel_ints, bel_bools, bel_rows, bel_slI, bel_slR, bel_slB, bel_encT, belAll_append, bel_mapW, bel_takeW, len_objN, bel_objN, len_objE, bel_objE]) (by first | rfl | simp [belN, bel_Ns, bel_slN, bel_Pt, bel_Gs, bel_Ws, bel_slW, bel_Gss, bel_slG, bel_ints, bel_bools, bel_rows, bel_slI, bel_slR, bel_slB, bel_encT, belAll_append, bel_mapW, bel_takeW, len_objN, bel_objN, len_objE, bel_objE]) ?_; simp (maxSteps := 2000000) -implicitDefEqProofs +contextual (disch := first | assumption | omega | decide +kernel) only [push_cast, ↓capI, br2_true, br2_false, frk_tt, frk_tf, frk_f, frkD_tt, frkD_tf, frkD_f, pk2_true, pk2_false, imp_true, seval, Nat.reduceLeDiff, Nat.reduceEqDiff, reduceCtorEq, ↓reduceIte, cfg0, cfgG, slI, slR, slB, encT, ones_ints, ones_bools, encPt, encGs, slN, slW, slG, getV_map, getV_mapO, List.length_map, Nat.mul_one, one_Ws, Try.ntmps10]
      (try simp (maxSteps := 2000000) -implicitDefEqProofs +contextual (disch := first | assumption | omega | decide +kernel) only [push_cast, ↓capI, br2_true, br2_false, frk_tt, frk_tf, frk_f, frkD_tt, frkD_tf, frkD_f, pk2_true, pk2_false, imp_true, seval, Nat.reduceLeDiff, Nat.reduceEqDiff, reduceCtorEq, ↓reduceIte, cfg0, cfgG, slI, slR, slB, encT, ones_ints, ones_bools, encPt, encGs, slN, slW, slG, getV_map, getV_mapO, List.length_map, Nat.mul_one, one_Ws, h])
      refine endK.ret ?_ (by first | rfl | simp [belN, bel_Ns, bel_slN, bel_Pt, bel_Gs, bel_Ws, bel_slW, bel_Gss, bel_slG, bel_ints, bel_bools, bel_rows, bel_slI, bel_slR, bel_slB, bel_encT, belAll_append, bel_mapW, bel_takeW, len_objN, bel_objN, len_objE, bel_objE]); simp [evRes, getT, retV, Try.f10,  zTb, tt_27, Res.then, ldT, ldR, getO, mkV, getV, imp, lenOK_iff]
  have hs1 : ¬ sw < 1 := fun h => hs (.inl h)
  have hs2 : ¬ 16 < sw := fun h => hs (.inr h)
  have h27 := pc27 sw r hr
  by_cases hc : checkP sw r = 0
  · obtain ⟨h24, p, hp, hf⟩ := checkP_tree hc
    refine .inr (.inr ⟨hs, hc, p, hp, hf, h24, ?_⟩)
    rw [hf] at h24
    have hsz := siz_nx sw p hp
    have hD := cls_of (x := nxP p) (by omega)
    obtain ⟨m, rfl⟩ : ∃ m : Nat, sw = (m : Int) := ⟨sw.toNat, by omega⟩
    rw [Int.toNat_natCast]
    have hT := (detT_ok hD (x := nxP p) (by simp) (m := m) (by omega) (by omega)).1
    obtain ⟨hG, hrch, hlang⟩ := refT_all hp h24 (m := m) (by omega) (by omega)
    have hdl := fun w => detT_La hD (x := nxP p) (by simp) (m := m) (by omega) (by omega) (w := w)
    have h29 := pc29 hp h24 (m := m) (by omega) (by omega)
    have heq : minS (detT (nxP p) m) = minS (gdT (refSt p) m (refS0 p)) := minS_eq hT hG fun w => by
      have h1 := hdl w
      rw [MN_nx m p w hp, ← hlang w] at h1
      cases ha : La (detT (nxP p) m) 0 w with
      | true => exact (h1.1 ha).symm
      | false =>
        cases hb : La (gdT (refSt p) m (refS0 p)) 0 w with
        | false => rfl
        | true => rw [h1.2 hb] at ha; cases ha
    rw [heq]
    have h28 := pc28 hG
    have hcnt := minF_cnt hG (parS_good hG) hrch
    rw [minO, parO_eq] at h28
    rw [← hf] at h29
    have hone : Dd (gdT (refSt p) m (refS0 p)) 0 → (minS (gdT (refSt p) m (refS0 p))).next.length ≤ 64 := fun hd => by
      obtain ⟨o, h1, h2, h3, h4, _, _, h7, _, h9⟩ := minF_ord hG (c := parS (gdT (refSt p) m (refS0 p)))
      have : o.length ≤ 1 := by
        by_cases ho : o.length ≤ 1
        · exact ho
        · exfalso
          have hr1 := h1.rng _ (getD_mem (i := 1) (by omega))
          have hl := h9 1 (by omega) (by omega)
          refine hl ((parS_good hG).dd _ (by omega) hr1.2 |>.2 ?_)
          obtain ⟨l, hl2⟩ := hrch (o.getD 1 0).toNat (by omega)
          rw [show (((o.getD 1 0).toNat : Nat) : Int) = o.getD 1 0 from by omega] at hl2
          intro l2
          have := hd (l ++ l2)
          rw [La, runA, List.foldl_append] at this
          rw [La, ← hl2]
          exact this
      rw [minS]; omega
    have hout : (64 < cntS (gdT (refSt p) m (refS0 p)) ↔ 64 < (minS (gdT (refSt p) m (refS0 p))).next.length) := by
      by_cases hd : Dd (gdT (refSt p) m (refS0 p)) 0
      · have := hcnt.1 hd
        have := hone hd
        omega
      · rw [minS, hcnt.2 hd]
    have h28 : PC Try.prog 28 [.agg (encT (gdT (refSt p) m (refS0 p)))] (if 64 < (minS (gdT (refSt p) m (refS0 p))).next.length then .tup [zTb, .bool false] else .tup [.agg (encT (minS (gdT (refSt p) m (refS0 p)))), .bool true]) := by
      by_cases h : 64 < cntS (gdT (refSt p) m (refS0 p))
      · rw [if_pos h] at h28
        rw [if_pos (hout.1 h)]
        exact h28
      · rw [if_neg h] at h28
        rw [if_neg (fun h2 => h (hout.2 h2))]
        exact h28
    rw [bldV]
    clear hout hone hcnt heq hdl hlang hrch hT hD hsz hG hf
    generalize gdT (refSt p) m (refS0 p) = u at h28 h29 ⊢
    generalize minS u = w at h28 ⊢
    obtain ⟨n1, a1⟩ := u
    obtain ⟨n2, a2⟩ := w
    by_cases h64 : 64 < n2.length
    · rw [if_pos h64] at h28 ⊢
      refine PC.walk tok mixed cfgG Try.func10 rfl Try.call10 (by simp [belN, bel_Ns, bel_slN, bel_Pt, bel_Gs, bel_Ws, bel_slW, bel_Gss, bel_slG, bel_ints, bel_bools, bel_rows, bel_slI, bel_slR, bel_slB, bel_encT, belAll_append, bel_mapW, bel_takeW, len_objN, bel_objN, len_objE, bel_objE]) (by first | rfl | simp [belN, bel_Ns, bel_slN, bel_Pt, bel_Gs, bel_Ws, bel_slW, bel_Gss, bel_slG, bel_ints, bel_bools, bel_rows, bel_slI, bel_slR, bel_slB, bel_encT, belAll_append, bel_mapW, bel_takeW, len_objN, bel_objN, len_objE, bel_objE]) ?_; simp (maxSteps := 2000000) -implicitDefEqProofs +contextual (disch := first | assumption | omega | decide +kernel) only [push_cast, ↓capI, br2_true, br2_false, frk_tt, frk_tf, frk_f, frkD_tt, frkD_tf, frkD_f, pk2_true, pk2_false, imp_true, seval, Nat.reduceLeDiff, Nat.reduceEqDiff, reduceCtorEq, ↓reduceIte, cfg0, cfgG, slI, slR, slB, encT, ones_ints, ones_bools, encPt, encGs, slN, slW, slG, getV_map, getV_mapO, List.length_map, Nat.mul_one, one_Ws, Try.ntmps10]
      (try simp (maxSteps := 2000000) -implicitDefEqProofs +contextual (disch := first | assumption | omega | decide +kernel) only [push_cast, ↓capI, br2_true, br2_false, frk_tt, frk_tf, frk_f, frkD_tt, frkD_tf, frkD_f, pk2_true, pk2_false, imp_true, seval, Nat.reduceLeDiff, Nat.reduceEqDiff, reduceCtorEq, ↓reduceIte, cfg0, cfgG, slI, slR, slB, encT, ones_ints, ones_bools, encPt, encGs, slN, slW, slG, getV_map, getV_mapO, List.length_map, Nat.mul_one, one_Ws, hs1, hs2])
      refine callO.pc h27 ?_
      simp (maxSteps := 2000000) -implicitDefEqProofs +contextual (disch := first | assumption | omega | decide +kernel) only [push_cast, ↓capI, br2_true, br2_false, frk_tt, frk_tf, frk_f, frkD_tt, frkD_tf, frkD_f, pk2_true, pk2_false, imp_true, seval, Nat.reduceLeDiff, Nat.reduceEqDiff, reduceCtorEq, ↓reduceIte, cfg0, cfgG, slI, slR, slB, encT, ones_ints, ones_bools, encPt, encGs, slN, slW, slG, getV_map, getV_mapO, List.length_map, Nat.mul_one, one_Ws, hc]
      refine callO.pc h29 ?_
      simp (maxSteps := 2000000) -implicitDefEqProofs +contextual (disch := first | assumption | omega | decide +kernel) only [push_cast, ↓capI, br2_true, br2_false, frk_tt, frk_tf, frk_f, frkD_tt, frkD_tf, frkD_f, pk2_true, pk2_false, imp_true, seval, Nat.reduceLeDiff, Nat.reduceEqDiff, reduceCtorEq, ↓reduceIte, cfg0, cfgG, slI, slR, slB, encT, ones_ints, ones_bools, encPt, encGs, slN, slW, slG, getV_map, getV_mapO, List.length_map, Nat.mul_one, one_Ws]
      refine callO.pc h28 ?_
      simp (maxSteps := 2000000) -implicitDefEqProofs +contextual (disch := first | assumption | omega | decide +kernel) only [push_cast, ↓capI, br2_true, br2_false, frk_tt, frk_tf, frk_f, frkD_tt, frkD_tf, frkD_f, pk2_true, pk2_false, imp_true, seval, Nat.reduceLeDiff, Nat.reduceEqDiff, reduceCtorEq, ↓reduceIte, cfg0, cfgG, slI, slR, slB, encT, ones_ints, ones_bools, encPt, encGs, slN, slW, slG, getV_map, getV_mapO, List.length_map, Nat.mul_one, one_Ws, zTb]
      refine endK.ret ?_ (by first | rfl | simp [belN, bel_Ns, bel_slN, bel_Pt, bel_Gs, bel_Ws, bel_slW, bel_Gss, bel_slG, bel_ints, bel_bools, bel_rows, bel_slI, bel_slR, bel_slB, bel_encT, belAll_append, bel_mapW, bel_takeW, len_objN, bel_objN, len_objE, bel_objE]); simp [evRes, getT, retV, Try.f10,  zTb, tt_27, Res.then, ldT, ldR, getO, mkV, getV, imp, lenOK_iff]
    · rw [if_neg h64] at h28 ⊢
      refine PC.walk tok mixed cfgG Try.func10 rfl Try.call10 (by simp [belN, bel_Ns, bel_slN, bel_Pt, bel_Gs, bel_Ws, bel_slW, bel_Gss, bel_slG, bel_ints, bel_bools, bel_rows, bel_slI, bel_slR, bel_slB, bel_encT, belAll_append, bel_mapW, bel_takeW, len_objN, bel_objN, len_objE, bel_objE]) (by first | rfl | simp [belN, bel_Ns, bel_slN, bel_Pt, bel_Gs, bel_Ws, bel_slW, bel_Gss, bel_slG, bel_ints, bel_bools, bel_rows, bel_slI, bel_slR, bel_slB, bel_encT, belAll_append, bel_mapW, bel_takeW, len_objN, bel_objN, len_objE, bel_objE]) ?_; simp (maxSteps := 2000000) -implicitDefEqProofs +contextual (disch := first | assumption | omega | decide +kernel) only [push_cast, ↓capI, br2_true, br2_false, frk_tt, frk_tf, frk_f, frkD_tt, frkD_tf, frkD_f, pk2_true, pk2_false, imp_true, seval, Nat.reduceLeDiff, Nat.reduceEqDiff, reduceCtorEq, ↓reduceIte, cfg0, cfgG, slI, slR, slB, encT, ones_ints, ones_bools, encPt, encGs, slN, slW, slG, getV_map, getV_mapO, List.length_map, Nat.mul_one, one_Ws, Try.ntmps10]
      (try simp (maxSteps := 2000000) -implicitDefEqProofs +contextual (disch := first | assumption | omega | decide +kernel) only [push_cast, ↓capI, br2_true, br2_false, frk_tt, frk_tf, frk_f, frkD_tt, frkD_tf, frkD_f, pk2_true, pk2_false, imp_true, seval, Nat.reduceLeDiff, Nat.reduceEqDiff, reduceCtorEq, ↓reduceIte, cfg0, cfgG, slI, slR, slB, encT, ones_ints, ones_bools, encPt, encGs, slN, slW, slG, getV_map, getV_mapO, List.length_map, Nat.mul_one, one_Ws, hs1, hs2])
      refine callO.pc h27 ?_
      simp (maxSteps := 2000000) -implicitDefEqProofs +contextual (disch := first | assumption | omega | decide +kernel) only [push_cast, ↓capI, br2_true, br2_false, frk_tt, frk_tf, frk_f, frkD_tt, frkD_tf, frkD_f, pk2_true, pk2_false, imp_true, seval, Nat.reduceLeDiff, Nat.reduceEqDiff, reduceCtorEq, ↓reduceIte, cfg0, cfgG, slI, slR, slB, encT, ones_ints, ones_bools, encPt, encGs, slN, slW, slG, getV_map, getV_mapO, List.length_map, Nat.mul_one, one_Ws, hc]
      refine callO.pc h29 ?_
      simp (maxSteps := 2000000) -implicitDefEqProofs +contextual (disch := first | assumption | omega | decide +kernel) only [push_cast, ↓capI, br2_true, br2_false, frk_tt, frk_tf, frk_f, frkD_tt, frkD_tf, frkD_f, pk2_true, pk2_false, imp_true, seval, Nat.reduceLeDiff, Nat.reduceEqDiff, reduceCtorEq, ↓reduceIte, cfg0, cfgG, slI, slR, slB, encT, ones_ints, ones_bools, encPt, encGs, slN, slW, slG, getV_map, getV_mapO, List.length_map, Nat.mul_one, one_Ws]
      refine callO.pc h28 ?_
      simp (maxSteps := 2000000) -implicitDefEqProofs +contextual (disch := first | assumption | omega | decide +kernel) only [push_cast, ↓capI, br2_true, br2_false, frk_tt, frk_tf, frk_f, frkD_tt, frkD_tf, frkD_f, pk2_true, pk2_false, imp_true, seval, Nat.reduceLeDiff, Nat.reduceEqDiff, reduceCtorEq, ↓reduceIte, cfg0, cfgG, slI, slR, slB, encT, ones_ints, ones_bools, encPt, encGs, slN, slW, slG, getV_map, getV_mapO, List.length_map, Nat.mul_one, one_Ws]
      refine endK.ret ?_ (by first | rfl | simp [belN, bel_Ns, bel_slN, bel_Pt, bel_Gs, bel_Ws, bel_slW, bel_Gss, bel_slG, bel_ints, bel_bools, bel_rows, bel_slI, bel_slR, bel_slB, bel_encT, belAll_append, bel_mapW, bel_takeW, len_objN, bel_objN, len_objE, bel_objE]); simp [evRes, getT, retV, Try.f10,  zTb, tt_27, Res.then, ldT, ldR, getO, mkV, getV, imp, lenOK_iff, encT, slR, slB]
  · refine .inr (.inl ⟨hs, hc, ?_⟩)
    refine PC.walk tok mixed cfgG Try.func10 rfl Try.call10 (by simp [belN, bel_Ns, bel_slN, bel_Pt, bel_Gs, bel_Ws, bel_slW, bel_Gss, bel_slG, bel_ints, bel_bools, bel_rows, bel_slI, bel_slR, bel_slB, bel_encT, belAll_append, bel_mapW, bel_takeW, len_objN, bel_objN, len_objE, bel_objE]) (by first | rfl | simp [belN, bel_Ns, bel_slN, bel_Pt, bel_Gs, bel_Ws, bel_slW, bel_Gss, bel_slG, bel_ints, bel_bools, bel_rows, bel_slI, bel_slR, bel_slB, bel_encT, belAll_append, bel_mapW, bel_takeW, len_objN, bel_objN, len_objE, bel_objE]) ?_; simp (maxSteps := 2000000) -implicitDefEqProofs +contextual (disch := first | assumption | omega | decide +kernel) only [push_cast, ↓capI, br2_true, br2_false, frk_tt, frk_tf, frk_f, frkD_tt, frkD_tf, frkD_f, pk2_true, pk2_false, imp_true, seval, Nat.reduceLeDiff, Nat.reduceEqDiff, reduceCtorEq, ↓reduceIte, cfg0, cfgG, slI, slR, slB, encT, ones_ints, ones_bools, encPt, encGs, slN, slW, slG, getV_map, getV_mapO, List.length_map, Nat.mul_one, one_Ws, Try.ntmps10]
    (try simp (maxSteps := 2000000) -implicitDefEqProofs +contextual (disch := first | assumption | omega | decide +kernel) only [push_cast, ↓capI, br2_true, br2_false, frk_tt, frk_tf, frk_f, frkD_tt, frkD_tf, frkD_f, pk2_true, pk2_false, imp_true, seval, Nat.reduceLeDiff, Nat.reduceEqDiff, reduceCtorEq, ↓reduceIte, cfg0, cfgG, slI, slR, slB, encT, ones_ints, ones_bools, encPt, encGs, slN, slW, slG, getV_map, getV_mapO, List.length_map, Nat.mul_one, one_Ws, hs1, hs2])
    refine callO.pc h27 ?_
    simp (maxSteps := 2000000) -implicitDefEqProofs +contextual (disch := first | assumption | omega | decide +kernel) only [push_cast, ↓capI, br2_true, br2_false, frk_tt, frk_tf, frk_f, frkD_tt, frkD_tf, frkD_f, pk2_true, pk2_false, imp_true, seval, Nat.reduceLeDiff, Nat.reduceEqDiff, reduceCtorEq, ↓reduceIte, cfg0, cfgG, slI, slR, slB, encT, ones_ints, ones_bools, encPt, encGs, slN, slW, slG, getV_map, getV_mapO, List.length_map, Nat.mul_one, one_Ws, hc]
    refine endK.ret ?_ (by first | rfl | simp [belN, bel_Ns, bel_slN, bel_Pt, bel_Gs, bel_Ws, bel_slW, bel_Gss, bel_slG, bel_ints, bel_bools, bel_rows, bel_slI, bel_slR, bel_slB, bel_encT, belAll_append, bel_mapW, bel_takeW, len_objN, bel_objN, len_objE, bel_objE]); simp [evRes, getT, retV, Try.f10,  zTb, tt_27, Res.then, ldT, ldR, getO, mkV, getV, imp, lenOK_iff]
end Go.Proofs.Ytkjffppioddnpaa

/- Chapter 42: Build as defined. -/
set_option maxRecDepth 100000
set_option maxHeartbeats 4000000
set_option linter.all false
namespace Go.Proofs.Ytkjffppioddnpaa
open Go.Vm
theorem bld_both {r : List Nd} {sw : Int} (hr : r.length ≤ 4000000) : ∃ (x : V) (e : Int), PC Try.prog 9 [slN r, .int .i64 sw] (.tup [x, .int .i64 e]) ∧ PC Try.prog 10 [slN r, .int .i64 sw] (.tup [x, .int .i64 e]) ∧ (x = zTb ∨ ∃ (t : Tb) (m : Nat), okT t.next.length m t ∧ x = .agg (encT t)) := by
  rcases bld9 (sw := sw) hr with ⟨hs, h⟩ | ⟨hs, hc, h⟩ | ⟨hs, hc, p, hp, e, hl, h⟩
  · rcases bld10 (sw := sw) hr with ⟨_, h'⟩ | ⟨hs', _⟩ | ⟨hs', _⟩
    · exact ⟨_, _, h, h', .inl rfl⟩
    · exact absurd hs hs'
    · exact absurd hs hs'
  · rcases bld10 (sw := sw) hr with ⟨hs', _⟩ | ⟨_, _, h'⟩ | ⟨_, hc', _⟩
    · exact absurd hs' hs
    · exact ⟨_, _, h, h', .inl rfl⟩
    · exact absurd hc' hc
  · rcases bld10 (sw := sw) hr with ⟨hs', _⟩ | ⟨_, hc', _⟩ | ⟨_, _, q, hq, e', _, h'⟩
    · exact absurd hs' hs
    · exact absurd hc hc'
    · obtain ⟨e2, _⟩ := flat_inj sw p q [] [] hp hq (by rw [← e, ← e'])
      subst e2
      have hsz := siz_nx sw p hp
      rw [← e] at hsz
      have hD := cls_of (x := nxP p) (by omega)
      obtain ⟨m, rfl⟩ : ∃ m : Nat, sw = (m : Int) := ⟨sw.toNat, by omega⟩
      rw [Int.toNat_natCast] at h h'
      have hT := (detT_ok hD (x := nxP p) (by simp) (m := m) (by omega) (by omega)).1
      have hM := (minS_ok hT).1
      rw [bldV] at h h'
      by_cases h64 : 64 < (minS (detT (nxP p) m)).next.length
      · rw [if_pos h64] at h h'
        exact ⟨_, _, h, h', .inl rfl⟩
      · rw [if_neg h64] at h h'
        exact ⟨_, _, h, h', .inr ⟨_, m, hM, rfl⟩⟩
theorem pc3 {r : List Nd} {sw : Int} : PC Try.prog 3 [slN r, .int .i64 sw] (.bool true) := by
  by_cases h1 : 60 < r.length
  · refine PC.walk tok mixed cfg0 Try.func3 rfl Try.call3 (by simp [belAll_append, bel_ints, bel_bools, bel_rows, bel_slI, bel_slR, bel_slB, bel_encT, belN, bel_Ns, bel_slN]) (by first | rfl | simp [belAll_append, bel_ints, bel_bools, bel_rows, bel_slI, bel_slR, bel_slB, bel_encT, belN, bel_Ns, bel_slN]) ?_; simp (maxSteps := 2000000) -implicitDefEqProofs +contextual (disch := first | assumption | omega | decide +kernel) only [push_cast, ↓capI, br2_true, br2_false, frk_tt, frk_tf, frk_f, frkD_tt, frkD_tf, frkD_f, pk2_true, pk2_false, imp_true, seval, Nat.reduceLeDiff, Nat.reduceEqDiff, reduceCtorEq, ↓reduceIte, cfg0, slI, slR, slB, encT, ones_ints, ones_bools, getV_map, getV_mapO, List.length_map, Nat.mul_one, slN, Try.ntmps3]
    (try simp (maxSteps := 2000000) -implicitDefEqProofs +contextual (disch := first | assumption | omega | decide +kernel) only [push_cast, ↓capI, br2_true, br2_false, frk_tt, frk_tf, frk_f, frkD_tt, frkD_tf, frkD_f, pk2_true, pk2_false, imp_true, seval, Nat.reduceLeDiff, Nat.reduceEqDiff, reduceCtorEq, ↓reduceIte, cfg0, slI, slR, slB, encT, ones_ints, ones_bools, getV_map, getV_mapO, List.length_map, Nat.mul_one, slN, h1])
    refine callO.pc pc8 ?_
    simp (maxSteps := 2000000) -implicitDefEqProofs +contextual (disch := first | assumption | omega | decide +kernel) only [push_cast, ↓capI, br2_true, br2_false, frk_tt, frk_tf, frk_f, frkD_tt, frkD_tf, frkD_f, pk2_true, pk2_false, imp_true, seval, Nat.reduceLeDiff, Nat.reduceEqDiff, reduceCtorEq, ↓reduceIte, cfg0, slI, slR, slB, encT, ones_ints, ones_bools, getV_map, getV_mapO, List.length_map, Nat.mul_one, slN]
    refine endK.ret ?_ (by first | rfl | simp [belAll_append, bel_ints, bel_bools, bel_rows, bel_slI, bel_slR, bel_slB, bel_encT, belN, bel_Ns, bel_slN]); simp [evRes, getT, retV, Try.f3]
  obtain ⟨x, e, h, h', hx | ⟨t, m, ht, hx⟩⟩ := bld_both (r := r) (sw := sw) (by omega)
  · subst hx
    refine PC.walk tok mixed cfg0 Try.func3 rfl Try.call3 (by simp [belAll_append, bel_ints, bel_bools, bel_rows, bel_slI, bel_slR, bel_slB, bel_encT, belN, bel_Ns, bel_slN]) (by first | rfl | simp [belAll_append, bel_ints, bel_bools, bel_rows, bel_slI, bel_slR, bel_slB, bel_encT, belN, bel_Ns, bel_slN]) ?_; simp (maxSteps := 2000000) -implicitDefEqProofs +contextual (disch := first | assumption | omega | decide +kernel) only [push_cast, ↓capI, br2_true, br2_false, frk_tt, frk_tf, frk_f, frkD_tt, frkD_tf, frkD_f, pk2_true, pk2_false, imp_true, seval, Nat.reduceLeDiff, Nat.reduceEqDiff, reduceCtorEq, ↓reduceIte, cfg0, slI, slR, slB, encT, ones_ints, ones_bools, getV_map, getV_mapO, List.length_map, Nat.mul_one, slN, Try.ntmps3]
    (try simp (maxSteps := 2000000) -implicitDefEqProofs +contextual (disch := first | assumption | omega | decide +kernel) only [push_cast, ↓capI, br2_true, br2_false, frk_tt, frk_tf, frk_f, frkD_tt, frkD_tf, frkD_f, pk2_true, pk2_false, imp_true, seval, Nat.reduceLeDiff, Nat.reduceEqDiff, reduceCtorEq, ↓reduceIte, cfg0, slI, slR, slB, encT, ones_ints, ones_bools, getV_map, getV_mapO, List.length_map, Nat.mul_one, slN, h1])
    refine callO.pc h ?_
    simp (maxSteps := 2000000) -implicitDefEqProofs +contextual (disch := first | assumption | omega | decide +kernel) only [push_cast, ↓capI, br2_true, br2_false, frk_tt, frk_tf, frk_f, frkD_tt, frkD_tf, frkD_f, pk2_true, pk2_false, imp_true, seval, Nat.reduceLeDiff, Nat.reduceEqDiff, reduceCtorEq, ↓reduceIte, cfg0, slI, slR, slB, encT, ones_ints, ones_bools, getV_map, getV_mapO, List.length_map, Nat.mul_one, slN, zTb]
    refine callO.pc h' ?_
    simp (maxSteps := 2000000) -implicitDefEqProofs +contextual (disch := first | assumption | omega | decide +kernel) only [push_cast, ↓capI, br2_true, br2_false, frk_tt, frk_tf, frk_f, frkD_tt, frkD_tf, frkD_f, pk2_true, pk2_false, imp_true, seval, Nat.reduceLeDiff, Nat.reduceEqDiff, reduceCtorEq, ↓reduceIte, cfg0, slI, slR, slB, encT, ones_ints, ones_bools, getV_map, getV_mapO, List.length_map, Nat.mul_one, slN, zTb]
    refine callO.pc pc11z ?_
    simp (maxSteps := 2000000) -implicitDefEqProofs +contextual (disch := first | assumption | omega | decide +kernel) only [push_cast, ↓capI, br2_true, br2_false, frk_tt, frk_tf, frk_f, frkD_tt, frkD_tf, frkD_f, pk2_true, pk2_false, imp_true, seval, Nat.reduceLeDiff, Nat.reduceEqDiff, reduceCtorEq, ↓reduceIte, cfg0, slI, slR, slB, encT, ones_ints, ones_bools, getV_map, getV_mapO, List.length_map, Nat.mul_one, slN]
    refine callO.pc pc8 ?_
    simp (maxSteps := 2000000) -implicitDefEqProofs +contextual (disch := first | assumption | omega | decide +kernel) only [push_cast, ↓capI, br2_true, br2_false, frk_tt, frk_tf, frk_f, frkD_tt, frkD_tf, frkD_f, pk2_true, pk2_false, imp_true, seval, Nat.reduceLeDiff, Nat.reduceEqDiff, reduceCtorEq, ↓reduceIte, cfg0, slI, slR, slB, encT, ones_ints, ones_bools, getV_map, getV_mapO, List.length_map, Nat.mul_one, slN]
    refine endK.ret ?_ (by first | rfl | simp [belAll_append, bel_ints, bel_bools, bel_rows, bel_slI, bel_slR, bel_slB, bel_encT, belN, bel_Ns, bel_slN]); simp [evRes, getT, retV, Try.f3]
  · subst hx
    have h11 := pc11s ht
    clear ht
    obtain ⟨na, ca⟩ := t
    refine PC.walk tok mixed cfg0 Try.func3 rfl Try.call3 (by simp [belAll_append, bel_ints, bel_bools, bel_rows, bel_slI, bel_slR, bel_slB, bel_encT, belN, bel_Ns, bel_slN]) (by first | rfl | simp [belAll_append, bel_ints, bel_bools, bel_rows, bel_slI, bel_slR, bel_slB, bel_encT, belN, bel_Ns, bel_slN]) ?_; simp (maxSteps := 2000000) -implicitDefEqProofs +contextual (disch := first | assumption | omega | decide +kernel) only [push_cast, ↓capI, br2_true, br2_false, frk_tt, frk_tf, frk_f, frkD_tt, frkD_tf, frkD_f, pk2_true, pk2_false, imp_true, seval, Nat.reduceLeDiff, Nat.reduceEqDiff, reduceCtorEq, ↓reduceIte, cfg0, slI, slR, slB, encT, ones_ints, ones_bools, getV_map, getV_mapO, List.length_map, Nat.mul_one, slN, Try.ntmps3]
    (try simp (maxSteps := 2000000) -implicitDefEqProofs +contextual (disch := first | assumption | omega | decide +kernel) only [push_cast, ↓capI, br2_true, br2_false, frk_tt, frk_tf, frk_f, frkD_tt, frkD_tf, frkD_f, pk2_true, pk2_false, imp_true, seval, Nat.reduceLeDiff, Nat.reduceEqDiff, reduceCtorEq, ↓reduceIte, cfg0, slI, slR, slB, encT, ones_ints, ones_bools, getV_map, getV_mapO, List.length_map, Nat.mul_one, slN, h1])
    refine callO.pc h ?_
    simp (maxSteps := 2000000) -implicitDefEqProofs +contextual (disch := first | assumption | omega | decide +kernel) only [push_cast, ↓capI, br2_true, br2_false, frk_tt, frk_tf, frk_f, frkD_tt, frkD_tf, frkD_f, pk2_true, pk2_false, imp_true, seval, Nat.reduceLeDiff, Nat.reduceEqDiff, reduceCtorEq, ↓reduceIte, cfg0, slI, slR, slB, encT, ones_ints, ones_bools, getV_map, getV_mapO, List.length_map, Nat.mul_one, slN]
    refine callO.pc h' ?_
    simp (maxSteps := 2000000) -implicitDefEqProofs +contextual (disch := first | assumption | omega | decide +kernel) only [push_cast, ↓capI, br2_true, br2_false, frk_tt, frk_tf, frk_f, frkD_tt, frkD_tf, frkD_f, pk2_true, pk2_false, imp_true, seval, Nat.reduceLeDiff, Nat.reduceEqDiff, reduceCtorEq, ↓reduceIte, cfg0, slI, slR, slB, encT, ones_ints, ones_bools, getV_map, getV_mapO, List.length_map, Nat.mul_one, slN]
    refine callO.pc h11 ?_
    simp (maxSteps := 2000000) -implicitDefEqProofs +contextual (disch := first | assumption | omega | decide +kernel) only [push_cast, ↓capI, br2_true, br2_false, frk_tt, frk_tf, frk_f, frkD_tt, frkD_tf, frkD_f, pk2_true, pk2_false, imp_true, seval, Nat.reduceLeDiff, Nat.reduceEqDiff, reduceCtorEq, ↓reduceIte, cfg0, slI, slR, slB, encT, ones_ints, ones_bools, getV_map, getV_mapO, List.length_map, Nat.mul_one, slN]
    refine callO.pc pc8 ?_
    simp (maxSteps := 2000000) -implicitDefEqProofs +contextual (disch := first | assumption | omega | decide +kernel) only [push_cast, ↓capI, br2_true, br2_false, frk_tt, frk_tf, frk_f, frkD_tt, frkD_tf, frkD_f, pk2_true, pk2_false, imp_true, seval, Nat.reduceLeDiff, Nat.reduceEqDiff, reduceCtorEq, ↓reduceIte, cfg0, slI, slR, slB, encT, ones_ints, ones_bools, getV_map, getV_mapO, List.length_map, Nat.mul_one, slN]
    refine endK.ret ?_ (by first | rfl | simp [belAll_append, bel_ints, bel_bools, bel_rows, bel_slI, bel_slR, bel_slB, bel_encT, belN, bel_Ns, bel_slN]); simp [evRes, getT, retV, Try.f3]
theorem law3 (xs : List V) (h : TypA tt 8 [22, 3] xs) : PC Try.prog 3 xs (.bool true) := by
  obtain ⟨v1, vs, cs, rfl, rfl, h1, h⟩ := typA_cons h
  obtain ⟨v2, vs, cs2, rfl, rfl, h2, h⟩ := typA_cons h
  obtain rfl := typA_nil h
  obtain ⟨a, ha⟩ := typ_slN (m := 5) h1
  obtain ⟨x, hx⟩ := typ_J (m := 7) h2
  refine PC.lax ?_
  rw [laxs, laxs, laxs, ha, hx]
  exact pc3
end Go.Proofs.Ytkjffppioddnpaa


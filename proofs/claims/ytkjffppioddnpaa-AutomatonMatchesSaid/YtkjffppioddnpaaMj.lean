/-
  Joined by a program from the texts Bls Lg Drl.
-/
import Derived.Test.YtkjffppioddnpaaMc
import Derived.Test.YtkjffppioddnpaaMg
import Derived.Test.YtkjffppioddnpaaMa
/- Chapter 42: what Build answers, in plain terms. -/
set_option maxRecDepth 100000
set_option maxHeartbeats 4000000
set_option linter.all false
namespace Go.Proofs.Ytkjffppioddnpaa
open Go.Vm
/-- what Build answers: an error, or a minimal automaton -/
def BldS (f : Nat) (r : List Nd) (sw : Int) : Prop :=
  (∃ e, e ≠ 0 ∧ PC Try.prog f [slN r, .int .i64 sw] (.tup [zTb, .int .i64 e])) ∨
  (∃ (t : Tb) (m : Nat) (p : Pr), sw = (m : Int) ∧ okT t.next.length m t ∧ t.next.length ≤ 64 ∧ minS t = t ∧ okP sw p ∧ r = flat p ∧ (flat p).length ≤ 24 ∧ t = minS (detT (nxP p) m) ∧ PC Try.prog f [slN r, .int .i64 sw] (.tup [.agg (encT t), .int .i64 0]))
theorem bldS {r : List Nd} {sw : Int} (hr : r.length ≤ 4000000) : BldS 9 r sw := by
  rcases bld9 (sw := sw) hr with ⟨_, h⟩ | ⟨_, hc, h⟩ | ⟨hs, hc, p, hp, e, hl, h⟩
  · exact .inl ⟨9, by decide, h⟩
  · exact .inl ⟨_, hc, h⟩
  · have hsz := siz_nx sw p hp
    rw [← e] at hsz
    have hD := cls_of (x := nxP p) (by omega)
    obtain ⟨m, rfl⟩ : ∃ m : Nat, sw = (m : Int) := ⟨sw.toNat, by omega⟩
    rw [Int.toNat_natCast] at h
    have hT := (detT_ok hD (x := nxP p) (by simp) (m := m) (by omega) (by omega)).1
    have hM := (minS_ok hT).1
    have hmm := minS_min hT
    rw [bldV] at h
    by_cases h64 : 64 < (minS (detT (nxP p) m)).next.length
    · rw [if_pos h64] at h
      exact .inl ⟨12, by decide, h⟩
    · rw [if_neg h64] at h
      exact .inr ⟨_, m, p, rfl, hM, by omega, hmm, hp, e, by rw [← e]; exact hl, rfl, h⟩
end Go.Proofs.Ytkjffppioddnpaa

/- Chapter 41: the lists that an expression matches, in plain terms. -/
set_option maxRecDepth 100000
set_option maxHeartbeats 4000000
set_option linter.all false
namespace Go.Proofs.Ytkjffppioddnpaa
open Go.Vm

inductive Star (L : List Int → Prop) : List Int → Prop
  | nil : Star L []
  | app {u v : List Int} : L u → Star L v → Star L (u ++ v)
theorem Star.one {L : List Int → Prop} {u : List Int} (h : L u) : Star L u := by
  have := Star.app h Star.nil
  rwa [List.append_nil] at this
theorem Star.cat {L : List Int → Prop} {u v : List Int} (h : Star L u) (h2 : Star L v) : Star L (u ++ v) := by
  induction h with
  | nil => exact h2
  | app hu _ ih => rw [List.append_assoc]; exact .app hu ih
theorem Star.mono {L L' : List Int → Prop} (h : ∀ w, L w → L' w) {w : List Int} (hw : Star L w) : Star L' w := by
  induction hw with
  | nil => exact .nil
  | app hu _ ih => exact .app (h _ hu) ih
theorem Star.idem {L : List Int → Prop} {w : List Int} (hw : Star (Star L) w) : Star L w := by
  induction hw with
  | nil => exact .nil
  | app hu _ ih => exact hu.cat ih
theorem Star.last {L : List Int → Prop} {w : List Int} (h : Star L w) : w = [] ∨ ∃ u v, w = u ++ v ∧ Star L u ∧ L v ∧ v ≠ [] := by
  induction h with
  | nil => exact .inl rfl
  | @app u v hu hv ih =>
    rcases ih with rfl | ⟨a, b, rfl, ha, hb, hn⟩
    · cases u with
      | nil => exact .inl rfl
      | cons x u => exact .inr ⟨[], x :: u, by simp, .nil, hu, List.cons_ne_nil _ _⟩
    · exact .inr ⟨u ++ a, b, by rw [List.append_assoc], .app hu ha, hb, hn⟩
theorem Star.first {L : List Int → Prop} {w : List Int} (h : Star L w) : w = [] ∨ ∃ u v, w = u ++ v ∧ L u ∧ Star L v ∧ u ≠ [] := by
  induction h with
  | nil => exact .inl rfl
  | @app u v hu hv ih =>
    cases u with
    | nil => exact ih
    | cons x u => exact .inr ⟨x :: u, v, rfl, hu, hv, List.cons_ne_nil _ _⟩
/-- the lists that an expression matches -/
def Mt : Pr → List Int → Prop
  | .leaf x, w => if x.op = 1 then w = [] else if x.op = 2 then w.length = 1 else w = [nN x]
  | .un _ p, w => Star (Mt p) w
  | .bin x p q, w => if x.op = 5 then Mt p w ∨ Mt q w else ∃ u v, w = u ++ v ∧ Mt p u ∧ Mt q v
/-- a part of a list -/
def part (l : List Int) (i k : Nat) : List Int := (l.drop i).take (k - i)
theorem part_len {l : List Int} {i k : Nat} (hk : k ≤ l.length) : (part l i k).length = k - i := by
  rw [part, List.length_take, List.length_drop]
  omega
theorem part_self {l : List Int} {i : Nat} : part l i i = [] := by rw [part, Nat.sub_self, List.take_zero]
theorem part_all {l : List Int} : part l 0 l.length = l := by rw [part, List.drop_zero, Nat.sub_zero, List.take_length]
theorem part_app {l : List Int} {i j k : Nat} (h1 : i ≤ j) (h2 : j ≤ k) (hk : k ≤ l.length) : part l i j ++ part l j k = part l i k := by
  have e : k - i = (j - i) + (k - j) := by omega
  rw [part, part, part, e, List.take_add, List.drop_drop, show i + (j - i) = j by omega]
theorem part_cut {l : List Int} {i k : Nat} (hik : i ≤ k) (hk : k ≤ l.length) {u v : List Int} (h : part l i k = u ++ v) : ∃ j, i ≤ j ∧ j ≤ k ∧ j = i + u.length ∧ part l i j = u ∧ part l j k = v := by
  have hl := congrArg List.length h
  rw [part_len hk, List.length_append] at hl
  have h1 : i ≤ i + u.length := Nat.le_add_right _ _
  have h2 : i + u.length ≤ k := by omega
  have e := part_app h1 h2 hk
  rw [h] at e
  have hlen : (part l i (i + u.length)).length = u.length := by rw [part_len (by omega)]; omega
  obtain ⟨e1, e2⟩ := List.append_inj e hlen
  exact ⟨i + u.length, h1, h2, rfl, e1, e2⟩
theorem part_one {l : List Int} {i : Nat} (h : i < l.length) : part l i (i + 1) = [l[i]] := by
  rw [part, List.drop_eq_getElem_cons h, show i + 1 - i = 0 + 1 by omega, List.take_succ_cons, List.take_zero]
/-- where the parts end that an expression matches from one of some places -/
def Ends (p : Pr) (l : List Int) (f : Nat → Bool) (k : Nat) : Prop := ∃ i, i ≤ k ∧ f i = true ∧ Mt p (part l i k)
open Classical in
noncomputable def endsG (p : Pr) (l : List Int) (f : Nat → Bool) (k : Nat) : Bool := decide (Ends p l f k)
open Classical in
theorem endsG_iff {p : Pr} {l : List Int} {f : Nat → Bool} {k : Nat} : endsG p l f k = true ↔ Ends p l f k := by
  unfold endsG
  exact decide_eq_true_iff
theorem bool_ext {a b : Bool} {P : Prop} (ha : a = true ↔ P) (hb : b = true ↔ P) : a = b := Bool.eq_iff_iff.2 (ha.trans hb.symm)
theorem ends_cat {x : Nd} {p q : Pr} (h : ¬ x.op = 5) {l : List Int} {f : Nat → Bool} {k : Nat} (hk : k ≤ l.length) : endsG q l (endsG p l f) k = endsG (.bin x p q) l f k := by
  refine bool_ext endsG_iff (endsG_iff.trans ?_)
  simp only [Ends, endsG_iff, Mt, if_neg h]
  constructor
  · rintro ⟨i, hik, hf, u, v, e, h1, h2⟩
    obtain ⟨j, h3, h4, _, e1, e2⟩ := part_cut hik hk e
    exact ⟨j, h4, ⟨i, h3, hf, by rw [e1]; exact h1⟩, by rw [e2]; exact h2⟩
  · rintro ⟨j, hjk, ⟨i, hij, hf, h1⟩, h2⟩
    exact ⟨i, by omega, hf, part l i j, part l j k, (part_app hij hjk hk).symm, h1, h2⟩
theorem ends_alt {x : Nd} {p q : Pr} (h : x.op = 5) {l : List Int} {f : Nat → Bool} {k : Nat} : (endsG p l f k || endsG q l f k) = endsG (.bin x p q) l f k := by
  refine bool_ext Iff.rfl ?_
  rw [endsG_iff, Bool.or_eq_true, endsG_iff, endsG_iff]
  simp only [Ends, Mt, if_pos h]
  constructor
  · rintro ⟨i, hik, hf, h1 | h1⟩
    · exact .inl ⟨i, hik, hf, h1⟩
    · exact .inr ⟨i, hik, hf, h1⟩
  · rintro (⟨i, hik, hf, h1⟩ | ⟨i, hik, hf, h1⟩)
    · exact ⟨i, hik, hf, .inl h1⟩
    · exact ⟨i, hik, hf, .inr h1⟩
/-- the operand of repeated repetitions -/
def core : Pr → Pr
  | .un _ p => core p
  | p => p
theorem core_star : ∀ (p : Pr) (w : List Int), Star (Mt p) w ↔ Star (Mt (core p)) w
  | .leaf _, _ => Iff.rfl
  | .bin _ _ _, _ => Iff.rfl
  | .un x p, w => by
    rw [core]
    refine Iff.trans ?_ (core_star p w)
    constructor
    · intro h
      exact Star.idem (h.mono fun w hw => hw)
    · intro h
      exact Star.one (show Mt (.un x p) w from h)
/-- the places that any number of parts reach -/
def Reach (c : Pr) (l : List Int) (f : Nat → Bool) (k : Nat) : Prop := ∃ i, i ≤ k ∧ f i = true ∧ Star (Mt c) (part l i k)
theorem reach_all {c : Pr} {l : List Int} {f out : Nat → Bool} (h0 : ∀ k, k ≤ l.length → f k = true → out k = true)
    (h1 : ∀ j k, j ≤ k → k ≤ l.length → out j = true → Mt c (part l j k) → out k = true) : ∀ k, k ≤ l.length → Reach c l f k → out k = true := by
  intro k
  induction k using Nat.strongRecOn with
  | ind k ih =>
    rintro hk ⟨i, hik, hf, hs⟩
    rcases hs.last with h | ⟨u, v, e, hu, hv, hn⟩
    · have hl := congrArg List.length h
      rw [part_len hk, List.length_nil] at hl
      have : i = k := by omega
      rw [← this]
      exact h0 i (by omega) hf
    · obtain ⟨j, h3, h4, _, e1, e2⟩ := part_cut hik hk e
      have hjk : j < k := by
        apply Decidable.byContradiction
        intro hc
        have : j = k := by omega
        rw [this, part_self] at e2
        exact hn e2.symm
      exact h1 j k h4 hk (ih j hjk (by omega) ⟨i, h3, hf, by rw [e1]; exact hu⟩) (by rw [e2]; exact hv)
theorem reach_step {c : Pr} {l : List Int} {f : Nat → Bool} {j k : Nat} (hjk : j ≤ k) (hk : k ≤ l.length) (h : Reach c l f j) (h2 : Mt c (part l j k)) : Reach c l f k := by
  obtain ⟨i, hij, hf, hs⟩ := h
  exact ⟨i, by omega, hf, by rw [← part_app hij hjk hk]; exact hs.cat (.one h2)⟩
theorem reach_star {x : Nd} {p : Pr} {l : List Int} {f : Nat → Bool} {k : Nat} : Reach (core p) l f k ↔ Ends (.un x p) l f k := by
  unfold Reach Ends
  constructor
  · rintro ⟨i, h1, h2, h3⟩
    exact ⟨i, h1, h2, (core_star p _).2 h3⟩
  · rintro ⟨i, h1, h2, h3⟩
    exact ⟨i, h1, h2, (core_star p _).1 h3⟩
/-- places of a set that are not in it -/
def cntG (n : Nat) (g : Nat → Bool) : Nat := (List.range n).countP fun k => !g k
theorem cntG_mono {n : Nat} {g g' : Nat → Bool} (h : ∀ k, k < n → g k = true → g' k = true) : cntG n g' ≤ cntG n g := by
  unfold cntG
  refine List.countP_mono_left fun k hk he => ?_
  have := List.mem_range.1 hk
  cases hg : g k with
  | false => rfl
  | true => rw [h k this hg] at he; exact he
theorem cntG_lt : ∀ {n : Nat} {g g' : Nat → Bool}, (∀ k, k < n → g k = true → g' k = true) → (∃ k, k < n ∧ g k = false ∧ g' k = true) → cntG n g' < cntG n g
  | 0, _, _, _, ⟨_, h, _⟩ => absurd h (Nat.not_lt_zero _)
  | n + 1, g, g', h, ⟨k, hk, h1, h2⟩ => by
    have e : ∀ g : Nat → Bool, cntG (n + 1) g = cntG n g + (if g n = true then 0 else 1) := by
      intro g
      rw [cntG, List.range_succ, List.countP_append, List.countP_singleton, cntG]
      cases g n <;> rfl
    rw [e g, e g']
    by_cases hkn : k = n
    · subst hkn
      have := cntG_mono (n := k) (g := g) (g' := g') (fun j hj => h j (by omega))
      rw [h1, h2]
      simp only [if_true, if_neg Bool.false_ne_true]
      omega
    · have := cntG_lt (n := n) (g := g) (g' := g') (fun j hj => h j (by omega)) ⟨k, by omega, h1, h2⟩
      by_cases hg : g n = true
      · rw [if_pos hg, if_pos (h n (by omega) hg)]
        omega
      · rw [if_neg hg]
        split <;> omega
end Go.Proofs.Ytkjffppioddnpaa

/- Chapter 42: the automaton of partial derivatives accepts what the expression matches (plain). -/
set_option maxRecDepth 100000
set_option maxHeartbeats 4000000
set_option linter.all false
namespace Go.Proofs.Ytkjffppioddnpaa
open Go.Vm

/-- the lists that an expression of the program matches -/
def MN : Nx → List Int → Prop
  | .eps, w => w = []
  | .any, w => w.length = 1
  | .one n, w => w = [n]
  | .star a, w => Star (MN a) w
  | .cat a b, w => ∃ u v, w = u ++ v ∧ MN a u ∧ MN b v
  | .alt a b, w => MN a w ∨ MN b w
theorem MN_nx (sw : Int) : ∀ (p : Pr) (w : List Int), okP sw p → (MN (nxP p) w ↔ Mt p w)
  | .leaf x, w, hp => by
    rw [nxP, Mt]
    by_cases h1 : x.op = 1
    · rw [if_pos h1, if_pos h1, MN]
    · by_cases h2 : x.op = 2
      · rw [if_neg h1, if_neg h1, if_pos h2, if_pos h2, MN]
      · have h3 : x.op = 3 := by have := hp.1; omega
        rw [if_neg h1, if_neg h1, if_neg h2, if_neg h2, MN, nN, if_pos h3]
  | .un x p, w, hp => by
    have ih := fun w => MN_nx sw p w hp.2
    rw [nxP, Mt, MN]
    exact ⟨fun h => h.mono fun w hw => (ih w).1 hw, fun h => h.mono fun w hw => (ih w).2 hw⟩
  | .bin x p q, w, hp => by
    have ih1 := fun w => MN_nx sw p w hp.2.1
    have ih2 := fun w => MN_nx sw q w hp.2.2
    rw [nxP, Mt]
    by_cases h5 : x.op = 5
    · rw [if_pos h5, if_neg (by omega), MN, ih1, ih2]
    · have h4 : x.op = 4 := by have := hp.1; omega
      rw [if_neg h5, if_pos h4, MN]
      constructor
      · rintro ⟨u, v, e, h1, h2⟩
        exact ⟨u, v, e, (ih1 u).1 h1, (ih2 v).1 h2⟩
      · rintro ⟨u, v, e, h1, h2⟩
        exact ⟨u, v, e, (ih1 u).2 h1, (ih2 v).2 h2⟩
theorem nul_iff : ∀ x : Nx, nul x = true ↔ MN x []
  | .eps => by simp [nul, MN]
  | .any => by simp [nul, MN]
  | .one n => by simp [nul, MN]
  | .star a => by
    rw [nul, MN]
    exact ⟨fun _ => .nil, fun _ => rfl⟩
  | .cat a b => by
    have h1 := nul_iff a
    have h2 := nul_iff b
    rw [nul, MN, Bool.and_eq_true, h1, h2]
    constructor
    · rintro ⟨h1, h2⟩; exact ⟨[], [], rfl, h1, h2⟩
    · rintro ⟨u, v, e, h1, h2⟩
      have e := e.symm
      rw [List.append_eq_nil_iff] at e
      obtain ⟨rfl, rfl⟩ := e
      exact ⟨h1, h2⟩
  | .alt a b => by
    have h1 := nul_iff a
    have h2 := nul_iff b
    rw [nul, MN, Bool.or_eq_true, h1, h2]
theorem seq_iff {d b : Nx} {w : List Int} : MN (seqA d b) w ↔ ∃ u v, w = u ++ v ∧ MN d u ∧ MN b v := by
  rw [seqA]
  split
  · rename_i h
    subst h
    constructor
    · intro h; exact ⟨[], w, rfl, rfl, h⟩
    · rintro ⟨u, v, rfl, h1, h2⟩
      rw [MN] at h1
      subst h1
      exact h2
  · rw [MN]
theorem drv_iff (s : Int) : ∀ (x : Nx) (w : List Int), MN x (s :: w) ↔ ∃ y ∈ drv s x, MN y w
  | .eps, w => by simp [MN, drv]
  | .any, w => by simp [MN, drv]
  | .one n, w => by
    rw [MN, drv]
    split
    · rename_i h
      subst h
      simp [MN]
    · rename_i h
      constructor
      · intro e
        injection e with e1 e2
        exact absurd e1.symm h
      · rintro ⟨y, hy, _⟩
        cases hy
  | .star a, w => by
    have ih := drv_iff s a
    rw [drv]
    constructor
    · intro h
      rw [MN] at h
      rcases h.first with h | ⟨u, v, e, hu, hv, hn⟩
      · cases h
      · cases u with
        | nil => exact absurd rfl hn
        | cons c u =>
          injection e with e1 e2
          subst e1
          obtain ⟨y, hy, hm⟩ := (ih u).1 hu
          exact ⟨_, List.mem_map_of_mem hy, seq_iff.2 ⟨u, v, e2, hm, by rw [MN]; exact hv⟩⟩
    · rintro ⟨y, hy, hm⟩
      obtain ⟨d, hd, rfl⟩ := List.mem_map.1 hy
      obtain ⟨u, v, rfl, h1, h2⟩ := seq_iff.1 hm
      rw [MN] at h2 ⊢
      rw [← List.cons_append]
      exact .app ((ih u).2 ⟨d, hd, h1⟩) h2
  | .cat a b, w => by
    have ih1 := drv_iff s a
    have ih2 := drv_iff s b
    rw [drv, MN]
    constructor
    · rintro ⟨u, v, e, hu, hv⟩
      cases u with
      | nil =>
        rw [List.nil_append] at e
        subst e
        obtain ⟨y, hy, hm⟩ := (ih2 w).1 hv
        refine ⟨y, List.mem_append.2 (.inr ?_), hm⟩
        rw [if_pos ((nul_iff a).2 hu)]
        exact hy
      | cons c u =>
        injection e with e1 e2
        subst e1
        obtain ⟨y, hy, hm⟩ := (ih1 u).1 hu
        exact ⟨_, List.mem_append.2 (.inl (List.mem_map_of_mem hy)), seq_iff.2 ⟨u, v, e2, hm, hv⟩⟩
    · rintro ⟨y, hy, hm⟩
      rcases List.mem_append.1 hy with hy | hy
      · obtain ⟨d, hd, rfl⟩ := List.mem_map.1 hy
        obtain ⟨u, v, rfl, h1, h2⟩ := seq_iff.1 hm
        exact ⟨s :: u, v, rfl, (ih1 u).2 ⟨d, hd, h1⟩, h2⟩
      · split at hy
        · rename_i hn
          exact ⟨[], s :: w, rfl, (nul_iff a).1 hn, (ih2 w).2 ⟨y, hy, hm⟩⟩
        · cases hy
  | .alt a b, w => by
    have ih1 := drv_iff s a w
    have ih2 := drv_iff s b w
    rw [drv, MN, ih1, ih2]
    constructor
    · rintro (⟨y, hy, h⟩ | ⟨y, hy, h⟩)
      · exact ⟨y, List.mem_append.2 (.inl hy), h⟩
      · exact ⟨y, List.mem_append.2 (.inr hy), h⟩
    · rintro ⟨y, hy, h⟩
      rcases List.mem_append.1 hy with hy | hy
      · exact .inl ⟨y, hy, h⟩
      · exact .inr ⟨y, hy, h⟩
/-- the lists that a set of expressions matches -/
def SL (L : List Nx) (set : W64) (w : List Int) : Prop := ∃ (i : Nat) (x : Nx), set.getLsbD i = true ∧ L[i]? = some x ∧ MN x w
def Pre (L L' : List Nx) : Prop := ∀ (i : Nat) (y : Nx), L[i]? = some y → L'[i]? = some y
theorem SL_mono {L L' : List Nx} (h : Pre L L') {set : W64} (hb : bitsIn set L.length) {w : List Int} : SL L set w ↔ SL L' set w := by
  constructor
  · rintro ⟨i, x, h1, h2, h3⟩
    exact ⟨i, x, h1, h i x h2, h3⟩
  · rintro ⟨i, x, h1, h2, h3⟩
    have hl := hb i h1
    have := h i _ (List.getElem?_eq_getElem hl)
    rw [h2] at this
    cases this
    exact ⟨i, _, h1, List.getElem?_eq_getElem hl, h3⟩
theorem num_at (L : List Nx) (x : Nx) : (num L x).1[(num L x).2]? = some x := by
  have aux : ∀ (L : List Nx) (k : Nat), idx x L = some k → L[k]? = some x := by
    intro L
    induction L with
    | nil => intro k h; simp [idx] at h
    | cons y r ih =>
      intro k h
      simp only [idx] at h
      split at h
      · rename_i e; cases h; simp [e]
      · rw [Option.map_eq_some_iff] at h
        obtain ⟨j, hj, rfl⟩ := h
        simpa using ih j hj
  unfold num
  split
  · rename_i k hk; exact aux _ _ hk
  · rw [List.getElem?_append_right (Nat.le_refl _), Nat.sub_self]; rfl
theorem addD_SL {s : Ds} {x : Nx} (hb : bitsIn s.2 s.1.length) (hk : (num s.1 x).2 < 64) {w : List Int} : SL (addD s x).1 (addD s x).2 w ↔ SL s.1 s.2 w ∨ MN x w := by
  have hbit : ∀ i, (addD s x).2.getLsbD i = true ↔ s.2.getLsbD i = true ∨ i = (num s.1 x).2 := fun i => by
    simp only [addD, BitVec.getLsbD_or, Bool.or_eq_true]
    constructor
    · rintro (h | h)
      · exact .inl h
      · right
        simp only [BitVec.getLsbD_shiftLeft, Bool.and_eq_true, decide_eq_true_eq, Bool.not_eq_true', decide_eq_false_iff_not] at h
        have := h.2
        rw [BitVec.getLsbD_one] at this
        simp at this
        omega
    · rintro (h | rfl)
      · exact .inl h
      · right
        simp only [BitVec.getLsbD_shiftLeft, Bool.and_eq_true, decide_eq_true_eq, Bool.not_eq_true', decide_eq_false_iff_not]
        refine ⟨⟨hk, by omega⟩, ?_⟩
        rw [Nat.sub_self]
        rfl
  rw [SL_mono (L' := (addD s x).1) (fun i y h => num_get h) hb]
  constructor
  · rintro ⟨i, y, h1, h2, h3⟩
    rcases (hbit i).1 h1 with h | rfl
    · exact .inl ⟨i, y, h, h2, h3⟩
    · rw [show (addD s x).1 = (num s.1 x).1 from rfl, num_at] at h2
      cases h2
      exact .inr h3
  · rintro (⟨i, y, h1, h2, h3⟩ | h)
    · exact ⟨i, y, (hbit i).2 (.inl h1), h2, h3⟩
    · exact ⟨_, x, (hbit _).2 (.inr rfl), num_at s.1 x, h⟩
theorem num_lt {D L : List Nx} (hD : Cls D) {x : Nx} (h : goodL D L) (hx : x ∈ D) : (num L x).2 < 64 := by
  have h1 := (List.getElem?_eq_some_iff.1 (num_at L x)).1
  have h2 := (num_good h hx).len
  have h3 := hD.len
  omega
theorem addL_SL {D : List Nx} (hD : Cls D) {w : List Int} : ∀ (l : List Nx) (s : Ds), goodL D s.1 → bitsIn s.2 s.1.length → (∀ y ∈ l, y ∈ D) → (SL (addL s l).1 (addL s l).2 w ↔ SL s.1 s.2 w ∨ ∃ y ∈ l, MN y w)
  | [], s, _, _, _ => by simp [addL]
  | x :: r, s, hg, hb, hl => by
    have hx := hl x (by simp)
    have := addL_SL hD (w := w) r (addD s x) (num_good hg hx) (num_bits hb) (fun y hy => hl y (by simp [hy]))
    rw [show addL s (x :: r) = addL (addD s x) r from rfl, this, addD_SL hb (num_lt hD hg hx)]
    constructor
    · rintro ((h | h) | ⟨y, hy, h⟩)
      · exact .inl h
      · exact .inr ⟨x, by simp, h⟩
      · exact .inr ⟨y, by simp [hy], h⟩
    · rintro (h | ⟨y, hy, h⟩)
      · exact .inl (.inl h)
      · rcases List.mem_cons.1 hy with rfl | hy
        · exact .inl (.inr h)
        · exact .inr ⟨y, hy, h⟩
theorem stepN_SL {D : List Nx} (hD : Cls D) {sw : Int} {set : W64} {L : List Nx} (hg : goodL D L) (hb : bitsIn set L.length) {w : List Int} : ∀ n,
    SL (stepN sw set n (L, 0#64)).1 (stepN sw set n (L, 0#64)).2 w ↔ ∃ i x, i < n ∧ set.getLsbD i = true ∧ L[i]? = some x ∧ MN x (sw :: w)
  | 0 => by
    simp only [stepN, SL]
    constructor
    · rintro ⟨i, x, h, _⟩; simp at h
    · rintro ⟨i, x, h, _⟩; omega
  | n + 1 => by
    have ih := stepN_SL hD (sw := sw) hg hb (w := w) n
    have hgn := stepN_good hD (sw := sw) (set := set) (s := (L, 0#64)) hg n
    have hbn := stepN_bits (sw := sw) (set := set) (s := (L, 0#64)) (fun i hi => by simp at hi) n
    have hget := fun i y h => stepN_get (sw := sw) (set := set) (s := (L, 0#64)) (i := i) (y := y) h n
    rw [stepN]
    generalize stepN sw set n (L, 0#64) = s at ih hgn hbn hget
    rw [stepI]
    by_cases hn : set.getLsbD n = true
    · rw [if_pos hn]
      have hl := hb n hn
      have hx := hget n _ (List.getElem?_eq_getElem hl)
      rw [hx]
      simp only
      rw [addL_SL hD _ _ hgn hbn (hD.clos _ (hgn.2 _ (List.mem_of_getElem? hx)) sw), ih, ← drv_iff]
      constructor
      · rintro (⟨i, x, h1, h2, h3, h4⟩ | h)
        · exact ⟨i, x, by omega, h2, h3, h4⟩
        · exact ⟨n, _, by omega, hn, List.getElem?_eq_getElem hl, h⟩
      · rintro ⟨i, x, h1, h2, h3, h4⟩
        by_cases e : i = n
        · subst e
          rw [List.getElem?_eq_getElem hl] at h3
          cases h3
          exact .inr h4
        · exact .inl ⟨i, x, by omega, h2, h3, h4⟩
    · rw [if_neg hn, ih]
      constructor
      · rintro ⟨i, x, h1, h2⟩; exact ⟨i, x, by omega, h2⟩
      · rintro ⟨i, x, h1, h2⟩
        refine ⟨i, x, ?_, h2⟩
        by_cases e : i = n
        · subst e; exact absurd h2.1 hn
        · omega
theorem stepS_SL {D : List Nx} (hD : Cls D) {sw : Int} {set : W64} {L : List Nx} (hg : goodL D L) (hb : bitsIn set L.length) {w : List Int} :
    SL (stepS sw set L).1 (stepS sw set L).2 w ↔ SL L set (sw :: w) := by
  rw [stepS, stepN_SL hD hg hb]
  constructor
  · rintro ⟨i, x, _, h⟩; exact ⟨i, x, h⟩
  · rintro ⟨i, x, h⟩
    refine ⟨i, x, ?_, h⟩
    by_cases e : i < 64
    · exact e
    · have := BitVec.getLsbD_of_ge set i (by omega)
      rw [this] at h
      exact absurd h.1 (by decide)
theorem stepS_pre {sw : Int} {set : W64} {L : List Nx} : Pre L (stepS sw set L).1 := fun _ _ h => stepN_get (s := (L, 0#64)) h 64
theorem Pre.trans {L L' L'' : List Nx} (h : Pre L L') (h' : Pre L' L'') : Pre L L'' := fun i y hy => h' i y (h i y hy)
theorem accI_iff {set : W64} : ∀ (L : List Nx) (i : Nat), accI set i L = true ↔ ∃ (j : Nat) (x : Nx), set.getLsbD (i + j) = true ∧ L[j]? = some x ∧ nul x = true
  | [], i => by simp [accI]
  | x :: r, i => by
    have ih := accI_iff (set := set) r (i + 1)
    rw [accI, Bool.or_eq_true, Bool.and_eq_true, ih]
    constructor
    · rintro (⟨h1, h2⟩ | ⟨j, y, h1, h2, h3⟩)
      · exact ⟨0, x, h1, rfl, h2⟩
      · exact ⟨j + 1, y, by rw [show i + (j + 1) = i + 1 + j from by omega]; exact h1, by simpa using h2, h3⟩
    · rintro ⟨j, y, h1, h2, h3⟩
      cases j with
      | zero =>
        simp only [List.getElem?_cons_zero, Option.some.injEq] at h2
        subst h2
        exact .inl ⟨h1, h3⟩
      | succ j =>
        exact .inr ⟨j, y, by rw [show i + 1 + j = i + (j + 1) from by omega]; exact h1, by simpa using h2, h3⟩
theorem accS_SL {set : W64} {L : List Nx} : accS set L = true ↔ SL L set [] := by
  rw [accS, accI_iff]
  simp only [Nat.zero_add, SL, nul_iff]
/-- what an entry of a row says: the set of derivatives -/
def EntD (L : List Nx) (sets : List W64) (set : W64) (e : Int) (j : Nat) : Prop :=
  (e = -1 ∧ ∀ w, ¬ SL L set ((j : Int) :: w)) ∨ ∃ (k : Nat) (y : W64), e = (k : Int) ∧ sets[k]? = some y ∧ ∀ w, SL L y w ↔ SL L set ((j : Int) :: w)
theorem EntD.mono {D L L' : List Nx} {sets sets' : List W64} {set : W64} {e : Int} {j : Nat} (h : EntD L sets set e j) (hp : Pre L L') (hs : ∀ (i : Nat) (y : W64), sets[i]? = some y → sets'[i]? = some y) (hb : bitsIn set L.length) (hb2 : ∀ x ∈ sets, bitsIn x L.length) : EntD L' sets' set e j := by
  rcases h with ⟨h1, h2⟩ | ⟨k, y, h1, h2, h3⟩
  · exact .inl ⟨h1, fun w hw => h2 w ((SL_mono hp hb).2 hw)⟩
  · refine .inr ⟨k, y, h1, hs k y h2, fun w => ?_⟩
    rw [← SL_mono hp (hb2 y (List.mem_of_getElem? h2)), ← SL_mono hp hb]
    exact h3 w
theorem rowN_pre {set : W64} {L : List Nx} {sets : List W64} : ∀ n, Pre L (rowN set L sets n).L
  | 0 => fun _ _ h => h
  | n + 1 => by
    have ih := rowN_pre (set := set) (L := L) (sets := sets) n
    rw [rowN, rowI]
    split
    · exact ih.trans stepS_pre
    · split
      · exact ih.trans stepS_pre
      · exact ih.trans stepS_pre
theorem idxW_some {x : W64} : ∀ {l : List W64} {k : Nat}, idxW x l = some k → l[k]? = some x
  | [], k, h => by simp [idxW] at h
  | y :: r, k, h => by
    simp only [idxW] at h
    split at h
    · rename_i e; cases h; simp [e]
    · rw [Option.map_eq_some_iff] at h
      obtain ⟨j, hj, rfl⟩ := h
      simpa using idxW_some hj
theorem rowN_ent {D : List Nx} (hD : Cls D) {set : W64} {L : List Nx} {sets : List W64} (h : Rok D ⟨L, sets, []⟩) (hset : bitsIn set L.length) : ∀ n, ∀ j, j < n → EntD (rowN set L sets n).L (rowN set L sets n).sets set ((rowN set L sets n).row.getD j 0) j
  | 0, j, hj => by omega
  | n + 1, j, hj => by
    have ih := fun hj' => rowN_ent hD h hset n j hj'
    have hok := (rowN_ok hD (set := set) h n).1
    have hle := (rowN_ok hD (set := set) h n).2
    have hpre := rowN_pre (set := set) (L := L) (sets := sets) n
    have hlen := rowN_len set L sets n
    rw [rowN]
    generalize rowN set L sets n = s at ih hok hle hpre hlen
    obtain ⟨L1, sets1, row⟩ := s
    simp only at ih hok hle hpre hlen
    have hb1 : bitsIn set L1.length := hset.le hle
    have hst := stepS_ok hD (sw := (n : Int)) (set := set) hok.good
    have hSL := fun w => stepS_SL hD (sw := (n : Int)) hok.good hb1 (w := w)
    have hp2 : Pre L1 (stepS (n : Int) set L1).1 := stepS_pre
    have hlt : ∀ y : Int, j < n → (row ++ [y]).getD j 0 = row.getD j 0 := fun y h => by
      rw [List.getD_eq_getElem?_getD, List.getD_eq_getElem?_getD, List.getElem?_append_left (by omega)]
    have heq : ∀ y : Int, j = n → (row ++ [y]).getD j 0 = y := fun y h => by
      rw [List.getD_eq_getElem?_getD, List.getElem?_append_right (by omega), show j - row.length = 0 from by omega]; rfl
    rw [rowI]
    simp only
    split
    · rename_i h0
      simp only
      by_cases hjn : j < n
      · rw [hlt _ hjn]
        exact (ih hjn).mono (D := D) hp2 (fun _ _ h => h) hb1 hok.bits
      · rw [heq _ (by omega), show j = n from by omega]
        refine .inl ⟨rfl, fun w hw => ?_⟩
        rw [← SL_mono hp2 hb1] at hw
        have := (hSL w).2 hw
        rw [h0] at this
        obtain ⟨i, x, h1, _⟩ := this
        simp at h1
    · split
      · rename_i k hk
        simp only
        by_cases hjn : j < n
        · rw [hlt _ hjn]
          exact (ih hjn).mono (D := D) hp2 (fun _ _ h => h) hb1 hok.bits
        · rw [heq _ (by omega), show j = n from by omega]
          refine .inr ⟨k, _, rfl, idxW_some hk, fun w => ?_⟩
          rw [hSL w, SL_mono hp2 hb1]
      · simp only
        by_cases hjn : j < n
        · rw [hlt _ hjn]
          exact (ih hjn).mono (D := D) hp2 (fun i y h => by rw [List.getElem?_append_left (List.getElem?_eq_some_iff.1 h).1]; exact h) hb1 hok.bits
        · rw [heq _ (by omega), show j = n from by omega]
          refine .inr ⟨sets1.length, _, rfl, by rw [List.getElem?_append_right (Nat.le_refl _), Nat.sub_self]; rfl, fun w => ?_⟩
          rw [hSL w, SL_mono hp2 hb1]
structure Dlg (m : Nat) (x : Nx) (s : Ds2) : Prop where
  fst : s.L[0]? = some x ∧ s.sets[0]? = some 1#64
  ent : ∀ k, k < s.rows.length → ∀ y, s.sets[k]? = some y → ∀ j, j < m → EntD s.L s.sets y (gI (s.rows.getD k []) j) j
  acc : ∀ k, k < s.rows.length → ∀ y, s.sets[k]? = some y → (s.accs.getD k false = true ↔ SL s.L y [])
theorem detN_lg {D : List Nx} (hD : Cls D) {x : Nx} (hx : x ∈ D) {m : Nat} : ∀ i, Dlg m x (detN m x i)
  | 0 => ⟨⟨rfl, rfl⟩, fun k h => by simp [detN] at h, fun k h => by simp [detN] at h⟩
  | i + 1 => by
    have ih := detN_lg hD hx (m := m) i
    have hok := detN_ok hD hx (m := m) i
    have hinv := detN_inv hD hx (m := m) i
    rw [detN]
    generalize detN m x i = s at ih hok hinv
    obtain ⟨L, sets, rows, accs⟩ := s
    rw [detI]
    simp only at hok ⊢
    cases hs : sets[i]? with
    | none => exact ih
    | some set =>
      have hlt := (List.getElem?_eq_some_iff.1 hs).1
      have h1 := hinv.rows
      have h2 := hinv.accs
      simp only at h1 h2
      have hb := hok.bits set (List.mem_of_getElem? hs)
      have hen := rowN_ent hD hok hb m
      have hpre := rowN_pre (set := set) (L := L) (sets := sets) m
      obtain ⟨r, hr⟩ := rowN_sets set L sets m
      have hlen := rowN_len set L sets m
      show Dlg m x ⟨(rowN set L sets m).L, (rowN set L sets m).sets, rows ++ [(rowN set L sets m).row], accs ++ [accS set (rowN set L sets m).L]⟩
      generalize rowN set L sets m = q at hen hpre hr hlen
      obtain ⟨L1, sets1, row⟩ := q
      simp only at hen hpre hr hlen ⊢
      have hsub : ∀ (i : Nat) (y : W64), sets[i]? = some y → sets1[i]? = some y := fun i y h => by
        rw [hr, List.getElem?_append_left (List.getElem?_eq_some_iff.1 h).1]; exact h
      have hold : ∀ k, k < sets.length → ∀ y, sets1[k]? = some y → sets[k]? = some y := fun k hk y h => by
        rw [hr, List.getElem?_append_left hk] at h; exact h
      refine ⟨⟨hpre 0 x ih.fst.1, hsub 0 _ ih.fst.2⟩, fun k hk y hy j hj => ?_, fun k hk y hy => ?_⟩
      · simp only [List.length_append, List.length_singleton] at hk hy ⊢
        have hy0 := hold k (by omega) y hy
        have hby := hok.bits y (List.mem_of_getElem? hy0)
        by_cases hkr : k < rows.length
        · have := ih.ent k hkr y hy0 j hj
          rw [List.getD_eq_getElem?_getD, List.getElem?_append_left hkr, ← List.getD_eq_getElem?_getD]
          exact this.mono (D := D) hpre hsub hby hok.bits
        · have hki : k = i := by omega
          subst hki
          rw [hs] at hy0
          cases hy0
          rw [List.getD_eq_getElem?_getD, List.getElem?_append_right (by omega), show k - rows.length = 0 from by omega]
          have := hen j hj
          rw [gI, Int.toNat_natCast]
          exact this
      · simp only [List.length_append, List.length_singleton] at hk hy ⊢
        have hy0 := hold k (by omega) y hy
        have hby := hok.bits y (List.mem_of_getElem? hy0)
        by_cases hkr : k < rows.length
        · have := ih.acc k hkr y hy0
          rw [List.getD_eq_getElem?_getD, List.getElem?_append_left (by omega), ← List.getD_eq_getElem?_getD, this]
          exact SL_mono hpre hby
        · have hki : k = i := by omega
          subst hki
          rw [hs] at hy0
          cases hy0
          rw [List.getD_eq_getElem?_getD, List.getElem?_append_right (by omega), show k - accs.length = 0 from by omega]
          exact accS_SL
/-- the letters are switches -/
def ltrs (m : Nat) (w : List Int) : Prop := ∀ c ∈ w, 0 ≤ c ∧ c < (m : Int)
theorem detT_La {D : List Nx} (hD : Cls D) {x : Nx} (hx : x ∈ D) {m : Nat} (hm : m ≤ 16) (hm1 : 0 < m) {w : List Int} : La (detT x m) 0 w = true ↔ ltrs m w ∧ MN x w := by
  obtain ⟨hT, hsz⟩ := detT_ok hD hx hm hm1
  have hlg := detN_lg hD hx (m := m) bigN
  have hrl := hT.rows
  rw [detT] at hT hrl ⊢
  generalize detN m x bigN = s at hT hlg hrl
  obtain ⟨L, sets, rows, accs⟩ := s
  simp only at hT hrl
  have h1 := hlg.fst
  have h2 := hlg.ent
  have h3 := hlg.acc
  simp only at h1 h2 h3
  have key : ∀ (w : List Int) (k : Nat) (y : W64), sets[k]? = some y → (La ⟨rows, accs⟩ k w = true ↔ ltrs m w ∧ SL L y w) := by
    intro w
    induction w with
    | nil =>
      intro k y hy
      have hk := (List.getElem?_eq_some_iff.1 hy).1
      rw [La_nil, accq, gB, Int.toNat_natCast, decide_eq_true (by omega), Bool.true_and]
      simp only
      rw [h3 k (by omega) y hy]
      exact ⟨fun h => ⟨fun c hc => by simp at hc, h⟩, fun h => h.2⟩
    | cons c w ih =>
      intro k y hy
      have hk := (List.getElem?_eq_some_iff.1 hy).1
      rw [La_cons]
      by_cases hc : 0 ≤ c ∧ c < (m : Int)
      · obtain ⟨j, rfl⟩ : ∃ j : Nat, c = j := ⟨c.toNat, by omega⟩
        rw [suc_at hT hk (by omega)]
        have hl : ltrs m ((j : Int) :: w) ↔ ltrs m w := by
          simp only [ltrs, List.mem_cons, forall_eq_or_imp]
          exact ⟨fun h => h.2, fun h => ⟨hc, h⟩⟩
        rw [hl]
        rcases h2 k (by omega) y hy j (by omega) with ⟨e, hn⟩ | ⟨u, z, e, hz, hs⟩
        · rw [e, La_neg (by decide)]
          exact ⟨fun h => absurd h (by decide), fun h => absurd h.2 (hn w)⟩
        · rw [e, ih u z hz, hs w]
      · rw [suc_out hT (by omega) (by omega), La_neg (by decide)]
        exact ⟨fun h => absurd h (by decide), fun h => absurd (h.1 c (by simp)) hc⟩
  have := key w 0 1#64 h1.2
  rw [show ((0 : Nat) : Int) = 0 from rfl] at this
  rw [this]
  refine and_congr_right fun _ => ?_
  constructor
  · rintro ⟨i, z, hi, hz, hm⟩
    rw [BitVec.getLsbD_one] at hi
    simp at hi
    subst hi
    rw [h1.1] at hz
    cases hz
    exact hm
  · intro h
    exact ⟨0, x, by decide, h1.1, h⟩
end Go.Proofs.Ytkjffppioddnpaa


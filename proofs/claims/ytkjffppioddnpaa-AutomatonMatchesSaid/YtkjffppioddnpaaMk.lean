/-
  Joined by a program from the texts Rend Rpair Rrel Rrel2 Rpair2 Rpair3 Rmt Rmat.
-/
import Derived.Test.YtkjffppioddnpaaMc
import Derived.Test.YtkjffppioddnpaaMj
import Derived.Test.YtkjffppioddnpaaMd
/- Chapter 42: the reference's matching of chapter 41: rows of booleans. -/
set_option maxRecDepth 100000
set_option maxHeartbeats 4000000
set_option linter.all false
namespace Go.Proofs.Ytkjffppioddnpaa
open Go.Vm

def slT (n : Nat) (f : Nat → Bool) : V := .sl false (tab n fun i => .bool (f i)) n
theorem bel_tb {m n : Nat} {f : Nat → Bool} : belAll m (tab n fun i => V.bool (f i)) = true := belAll_tab fun _ _ => rfl
theorem bel_slT {m n : Nat} {f : Nat → Bool} : (slT n f).bel m = true := by rw [slT, bel_sl, bel_tb]
theorem bel_I {m : Nat} {l : List Int} : belAll m (l.map (V.int .i64)) = true := belAll_map (fun _ => rfl) l
theorem get_mapI {l : List Int} {i : Nat} (h : i < l.length) : getV ((l.map (V.int .i64)).drop (i * 1)) 0 1 = [.int .i64 l[i]] := get_map0 l i h
theorem get_mapI2 {l : List Int} {i : Nat} (h : i < l.length) : getV ((l.map (V.int .i64)).drop i) 0 1 = [.int .i64 l[i]] := getV_map h
theorem getV_tab1 {n i : Nat} {g : Nat → V} (h : i < n) : getV ((tab n g).drop i) 0 1 = [g i] := by
  have := getV_tab (g := g) h
  rwa [Nat.mul_one] at this
theorem slT_ext {n : Nat} {f g : Nat → Bool} (h : ∀ i, i < n → f i = g i) : slT n f = slT n g := by
  unfold slT
  rw [tab_ext fun i hi => by rw [h i hi]]
theorem cell_step {n i : Nat} {h : Nat → Bool} {b : Bool} (hb : b = h i) : (tab n fun k => if k = i then V.bool b else V.bool (decide (k < i) && h k)) = tab n fun k => V.bool (decide (k < i + 1) && h k) := by
  refine tab_ext fun k _ => ?_
  by_cases e : k = i
  · rw [if_pos e, e, hb, decide_eq_true (Nat.lt_succ_self i), Bool.true_and]
  · rw [if_neg e]
    congr 2
    rw [decide_eq_decide]
    omega
theorem cell_zero {n : Nat} {h : Nat → Bool} : (tab n fun k => V.bool (decide (k < 0) && h k)) = tab n fun _ => V.bool false := tab_ext fun k _ => by simp
theorem cell_end {n : Nat} {h : Nat → Bool} : (tab n fun k => V.bool (decide (k < n) && h k)) = tab n fun k => V.bool (h k) := tab_ext fun k hk => by simp [hk]
theorem pur_tb {n : Nat} {f : Nat → Bool} : purs (tab n fun k => .bool (f k)) = true := by
  have : ∀ xs : List V, (∀ x ∈ xs, x.pur = true) → purs xs = true := by
    intro xs
    induction xs with
    | nil => intro _; rfl
    | cons x xs ih => intro h; rw [purs, h x (by simp), ih fun y hy => h y (by simp [hy])]; rfl
  refine this _ fun x hx => ?_
  obtain ⟨i, _, rfl⟩ := tab_mem.1 hx
  rfl
theorem shs_tb {k n : Nat} {f : Nat → Bool} : shs k (tab n fun i => .bool (f i)) = tab n fun i => .bool (f i) := shs_ok bel_tb
theorem fzs_tb {id ver n : Nat} {c : List V} {f : Nat → Bool} : fzs id ver c (tab n fun i => .bool (f i)) = tab n fun i => .bool (f i) := fzs_lt _ bel_tb
theorem take_tb {n : Nat} {f : Nat → V} : (tab n f).take n = tab n f := List.take_of_length_le (by rw [tab_length]; exact Nat.le_refl _)
theorem cell_stepN {n i : Nat} {h : Nat → Bool} (hb : h (i + 1) = false) : (tab n fun k => V.bool (decide (k < i + 1) && h k)) = tab n fun k => V.bool (decide (k < i + 2) && h k) := by
  refine tab_ext fun k _ => ?_
  by_cases e : k = i + 1
  · rw [e, hb, Bool.and_false, Bool.and_false]
  · congr 2
    rw [decide_eq_decide]
    omega
theorem cell_keep {n i : Nat} {h : Nat → Bool} (hb : h i = false) : (tab n fun k => V.bool (decide (k < i) && h k)) = tab n fun k => V.bool (decide (k < i + 1) && h k) := by
  refine tab_ext fun k _ => ?_
  by_cases e : k = i
  · rw [e, hb, Bool.and_false, Bool.and_false]
  · congr 2
    rw [decide_eq_decide]
    omega
theorem fzs_Ns {id ver : Nat} {c : List V} {l : List Nd} : fzs id ver c (l.flatMap encN) = l.flatMap encN := fzs_lt _ (bel_Ns l)
theorem fzs_I {id ver : Nat} {c : List V} {l : List Int} : fzs id ver c (l.map (V.int .i64)) = l.map (V.int .i64) := fzs_lt _ bel_I
open Classical in
noncomputable def mtL (r : List Nd) (l : List Int) : Bool := decide (checkP 1000000000 r = 0 ∧ ∃ p, okP 1000000000 p ∧ r = flat p ∧ Mt p l)
open Classical in
theorem mtL_iff {p : Pr} {l : List Int} (hp : okP 1000000000 p) (hc : checkP 1000000000 (flat p) = 0) : mtL (flat p) l = true ↔ Mt p l := by
  unfold mtL
  rw [decide_eq_true_iff]
  constructor
  · rintro ⟨_, q, hq, e, hm⟩
    obtain ⟨e2, _⟩ := flat_inj 1000000000 p q [] [] hp hq (by rw [e])
    rw [e2]
    exact hm
  · intro h
    exact ⟨hc, p, hp, rfl, h⟩
open Classical in
theorem mtL_no {r : List Nd} {l : List Int} (h : checkP 1000000000 r ≠ 0) : mtL r l = false := by
  unfold mtL
  rw [decide_eq_false_iff_not]
  exact fun g => h g.1
end Go.Proofs.Ytkjffppioddnpaa

/- Chapter 41: the reference's matching: one pair of places. -/
set_option maxRecDepth 100000
set_option maxHeartbeats 4000000
set_option linter.all false
namespace Go.Proofs.Ytkjffppioddnpaa
open Go.Vm

/-- a matrix, row by row -/
def rowsV (n : Nat) (T : Nat → Nat → Bool) : V := .sl false (tab n fun i => slT n (T i)) n
/-- the matrices of the later expressions -/
def nxV (m : Nat) (g : Nat → V) : V := .sl false (tab m g) m
theorem bel_rowsV {k n : Nat} {T : Nat → Nat → Bool} : (rowsV n T).bel k = true := by rw [rowsV, bel_sl]; exact belAll_tab fun _ _ => bel_slT
theorem bel_nx {k m : Nat} {g : Nat → V} (hg : ∀ k j, (g j).bel k = true) : belAll k (tab m g) = true := belAll_tab fun j _ => hg k j
theorem bel_nxV {k m : Nat} {g : Nat → V} (hg : ∀ k j, (g j).bel k = true) : (nxV m g).bel k = true := by rw [nxV, bel_sl]; exact bel_nx hg
theorem drop_top {r : List Nd} {a : Nat} {x : Nd} {t : List Nd} (h : r.drop a = x :: t) : a < r.length := (drop_cons h).1
/-- leaves -/
theorem pair_leaf (r : List Nd) (l : List Int) (m n a i k : Nat) (g : Nat → V) (hg : ∀ k j, (g j).bel k = true) (x : Nd) (t : List Nd) (hx : r.drop a = x :: t) (hop : x.op = 1 ∨ x.op = 2 ∨ x.op = 3)
    (hn : n = l.length + 1) (hi : i < n) (hk : k < n) (hl : l.length ≤ 900) (b : Bool) (hb : b = true ↔ (i ≤ k ∧ Mt (.leaf x) (part l i k))) :
    PC Try.prog 48 [slN r, .int .i64 a, slI l, nxV m g, .int .i64 i, .int .i64 k] (.bool b) := by
  obtain ⟨ha, hX, _⟩ := drop_cons hx
  have hlen : (part l i k).length = k - i := part_len (by omega)
  rcases hop with h | h | h
  · have e : b = decide ((i : Int) = k) := by
      refine bool_ext hb (decide_eq_true_iff.trans ?_)
      rw [Mt, if_pos h]
      constructor
      · intro e
        have : i = k := by omega
        subst this
        exact ⟨Nat.le_refl _, part_self⟩
      · rintro ⟨h1, h2⟩
        rw [h2, List.length_nil] at hlen
        omega
    rw [e]
    refine PC.walk tok mixed cfg0 Try.func48 rfl Try.call48 (by simp [fmN, fm0, belN, bel_Ns, bel_slN, bel_slT, bel_tb, bel_slI, bel_I, bel_rowsV, bel_nx hg, bel_nxV hg]) (by first | rfl | simp [fmN, fm0, belN, bel_Ns, bel_slN, bel_slT, bel_tb, bel_slI, bel_I, bel_rowsV, bel_nx hg, bel_nxV hg]) ?_; simp (maxSteps := 2000000) -implicitDefEqProofs +contextual (disch := first | assumption | omega | decide +kernel) only [push_cast, ↓capI, br2_true, br2_false, frk_tt, frk_tf, frk_f, frkD_tt, frkD_tf, frkD_f, pk2_true, pk2_false, imp_true, seval, Nat.reduceLeDiff, Nat.reduceEqDiff, reduceCtorEq, ↓reduceIte, fmN, fm0, take_N, toN1, slN_nil, encN, slN, cfg0, get_flat_part lenN, get_flat_drop lenN, len_flat lenN, slT, slI, rowsV, nxV, Nat.mul_one, tab_length, putV_tab, getV_tab, getV_tabO, getV_tabP, getV_tab1, get_mapI, get_mapI2, List.length_map, ibeq_dec, Try.ntmps48]
    simp (maxSteps := 2000000) -implicitDefEqProofs +contextual (disch := first | assumption | omega | decide +kernel) only [push_cast, ↓capI, br2_true, br2_false, frk_tt, frk_tf, frk_f, frkD_tt, frkD_tf, frkD_f, pk2_true, pk2_false, imp_true, seval, Nat.reduceLeDiff, Nat.reduceEqDiff, reduceCtorEq, ↓reduceIte, fmN, fm0, take_N, toN1, slN_nil, encN, slN, cfg0, get_flat_part lenN, get_flat_drop lenN, len_flat lenN, slT, slI, rowsV, nxV, Nat.mul_one, tab_length, putV_tab, getV_tab, getV_tabO, getV_tabP, getV_tab1, get_mapI, get_mapI2, List.length_map, ibeq_dec, hX, h]
    refine endK.ret ?_ (by first | rfl | simp [fmN, fm0, belN, bel_Ns, bel_slN, bel_slT, bel_tb, bel_slI, bel_I, bel_rowsV, bel_nx hg, bel_nxV hg]); simp [evRes, getT, retV, Try.f48]
  · have e : b = decide ((k : Int) = (i : Int) + 1) := by
      refine bool_ext hb (decide_eq_true_iff.trans ?_)
      rw [Mt, if_neg (by omega), if_pos h]
      constructor
      · intro e
        exact ⟨by omega, by omega⟩
      · rintro ⟨h1, h2⟩
        omega
    rw [e]
    refine PC.walk tok mixed cfg0 Try.func48 rfl Try.call48 (by simp [fmN, fm0, belN, bel_Ns, bel_slN, bel_slT, bel_tb, bel_slI, bel_I, bel_rowsV, bel_nx hg, bel_nxV hg]) (by first | rfl | simp [fmN, fm0, belN, bel_Ns, bel_slN, bel_slT, bel_tb, bel_slI, bel_I, bel_rowsV, bel_nx hg, bel_nxV hg]) ?_; simp (maxSteps := 2000000) -implicitDefEqProofs +contextual (disch := first | assumption | omega | decide +kernel) only [push_cast, ↓capI, br2_true, br2_false, frk_tt, frk_tf, frk_f, frkD_tt, frkD_tf, frkD_f, pk2_true, pk2_false, imp_true, seval, Nat.reduceLeDiff, Nat.reduceEqDiff, reduceCtorEq, ↓reduceIte, fmN, fm0, take_N, toN1, slN_nil, encN, slN, cfg0, get_flat_part lenN, get_flat_drop lenN, len_flat lenN, slT, slI, rowsV, nxV, Nat.mul_one, tab_length, putV_tab, getV_tab, getV_tabO, getV_tabP, getV_tab1, get_mapI, get_mapI2, List.length_map, ibeq_dec, Try.ntmps48]
    simp (maxSteps := 2000000) -implicitDefEqProofs +contextual (disch := first | assumption | omega | decide +kernel) only [push_cast, ↓capI, br2_true, br2_false, frk_tt, frk_tf, frk_f, frkD_tt, frkD_tf, frkD_f, pk2_true, pk2_false, imp_true, seval, Nat.reduceLeDiff, Nat.reduceEqDiff, reduceCtorEq, ↓reduceIte, fmN, fm0, take_N, toN1, slN_nil, encN, slN, cfg0, get_flat_part lenN, get_flat_drop lenN, len_flat lenN, slT, slI, rowsV, nxV, Nat.mul_one, tab_length, putV_tab, getV_tab, getV_tabO, getV_tabP, getV_tab1, get_mapI, get_mapI2, List.length_map, ibeq_dec, hX, h]
    refine endK.ret ?_ (by first | rfl | simp [fmN, fm0, belN, bel_Ns, bel_slN, bel_slT, bel_tb, bel_slI, bel_I, bel_rowsV, bel_nx hg, bel_nxV hg]); simp [evRes, getT, retV, Try.f48]
  · by_cases hki : (k : Int) = (i : Int) + 1
    · have hki2 : k = i + 1 := by omega
      subst hki2
      have hil : i < l.length := by omega
      have e : b = decide (l[i] = x.n) := by
        refine bool_ext hb (decide_eq_true_iff.trans ?_)
        rw [Mt, if_neg (by omega), if_neg (by omega), part_one hil, nN, if_pos h]
        constructor
        · intro e
          exact ⟨by omega, by rw [e]⟩
        · rintro ⟨_, h2⟩
          injection h2
      rw [e]
      refine PC.walk tok mixed cfg0 Try.func48 rfl Try.call48 (by simp [fmN, fm0, belN, bel_Ns, bel_slN, bel_slT, bel_tb, bel_slI, bel_I, bel_rowsV, bel_nx hg, bel_nxV hg]) (by first | rfl | simp [fmN, fm0, belN, bel_Ns, bel_slN, bel_slT, bel_tb, bel_slI, bel_I, bel_rowsV, bel_nx hg, bel_nxV hg]) ?_; simp (maxSteps := 2000000) -implicitDefEqProofs +contextual (disch := first | assumption | omega | decide +kernel) only [push_cast, ↓capI, br2_true, br2_false, frk_tt, frk_tf, frk_f, frkD_tt, frkD_tf, frkD_f, pk2_true, pk2_false, imp_true, seval, Nat.reduceLeDiff, Nat.reduceEqDiff, reduceCtorEq, ↓reduceIte, fmN, fm0, take_N, toN1, slN_nil, encN, slN, cfg0, get_flat_part lenN, get_flat_drop lenN, len_flat lenN, slT, slI, rowsV, nxV, Nat.mul_one, tab_length, putV_tab, getV_tab, getV_tabO, getV_tabP, getV_tab1, get_mapI, get_mapI2, List.length_map, ibeq_dec, Try.ntmps48]
      simp (maxSteps := 2000000) -implicitDefEqProofs +contextual (disch := first | assumption | omega | decide +kernel) only [push_cast, ↓capI, br2_true, br2_false, frk_tt, frk_tf, frk_f, frkD_tt, frkD_tf, frkD_f, pk2_true, pk2_false, imp_true, seval, Nat.reduceLeDiff, Nat.reduceEqDiff, reduceCtorEq, ↓reduceIte, fmN, fm0, take_N, toN1, slN_nil, encN, slN, cfg0, get_flat_part lenN, get_flat_drop lenN, len_flat lenN, slT, slI, rowsV, nxV, Nat.mul_one, tab_length, putV_tab, getV_tab, getV_tabO, getV_tabP, getV_tab1, get_mapI, get_mapI2, List.length_map, ibeq_dec, hX, h, hki, hil]
      refine endK.ret ?_ (by first | rfl | simp [fmN, fm0, belN, bel_Ns, bel_slN, bel_slT, bel_tb, bel_slI, bel_I, bel_rowsV, bel_nx hg, bel_nxV hg]); simp [evRes, getT, retV, Try.f48]
    · have e : b = false := by
        rw [← Bool.not_eq_true, hb, Mt, if_neg (by omega), if_neg (by omega)]
        rintro ⟨h1, h2⟩
        rw [h2, List.length_singleton] at hlen
        omega
      rw [e]
      refine PC.walk tok mixed cfg0 Try.func48 rfl Try.call48 (by simp [fmN, fm0, belN, bel_Ns, bel_slN, bel_slT, bel_tb, bel_slI, bel_I, bel_rowsV, bel_nx hg, bel_nxV hg]) (by first | rfl | simp [fmN, fm0, belN, bel_Ns, bel_slN, bel_slT, bel_tb, bel_slI, bel_I, bel_rowsV, bel_nx hg, bel_nxV hg]) ?_; simp (maxSteps := 2000000) -implicitDefEqProofs +contextual (disch := first | assumption | omega | decide +kernel) only [push_cast, ↓capI, br2_true, br2_false, frk_tt, frk_tf, frk_f, frkD_tt, frkD_tf, frkD_f, pk2_true, pk2_false, imp_true, seval, Nat.reduceLeDiff, Nat.reduceEqDiff, reduceCtorEq, ↓reduceIte, fmN, fm0, take_N, toN1, slN_nil, encN, slN, cfg0, get_flat_part lenN, get_flat_drop lenN, len_flat lenN, slT, slI, rowsV, nxV, Nat.mul_one, tab_length, putV_tab, getV_tab, getV_tabO, getV_tabP, getV_tab1, get_mapI, get_mapI2, List.length_map, ibeq_dec, Try.ntmps48]
      simp (maxSteps := 2000000) -implicitDefEqProofs +contextual (disch := first | assumption | omega | decide +kernel) only [push_cast, ↓capI, br2_true, br2_false, frk_tt, frk_tf, frk_f, frkD_tt, frkD_tf, frkD_f, pk2_true, pk2_false, imp_true, seval, Nat.reduceLeDiff, Nat.reduceEqDiff, reduceCtorEq, ↓reduceIte, fmN, fm0, take_N, toN1, slN_nil, encN, slN, cfg0, get_flat_part lenN, get_flat_drop lenN, len_flat lenN, slT, slI, rowsV, nxV, Nat.mul_one, tab_length, putV_tab, getV_tab, getV_tabO, getV_tabP, getV_tab1, get_mapI, get_mapI2, List.length_map, ibeq_dec, hX, h, hki]
      refine endK.ret ?_ (by first | rfl | simp [fmN, fm0, belN, bel_Ns, bel_slN, bel_slT, bel_tb, bel_slI, bel_I, bel_rowsV, bel_nx hg, bel_nxV hg]); simp [evRes, getT, retV, Try.f48]
/-- a repetition, of at most one part -/
theorem pair_star (r : List Nd) (l : List Int) (m n a i k : Nat) (g : Nat → V) (hg : ∀ k j, (g j).bel k = true) (x : Nd) (t : List Nd) (hx : r.drop a = x :: t) (hop : x.op = 6) (T : Nat → Nat → Bool) (ham : a + 1 < m) (hT : g (a + 1) = rowsV n T)
    (hn : n = l.length + 1) (hi : i < n) (hk : k < n) (hl : l.length ≤ 900) (hr : r.length ≤ 4000000) :
    PC Try.prog 48 [slN r, .int .i64 a, slI l, nxV m g, .int .i64 i, .int .i64 k] (.bool (decide (i = k) || T i k)) := by
  obtain ⟨ha, hX, _⟩ := drop_cons hx
  have e1 : ((a : Int) + 1).toNat = a + 1 := by omega
  by_cases hik : i = k
  · subst hik
    rw [decide_eq_true rfl, Bool.true_or]
    refine PC.walk tok mixed cfg0 Try.func48 rfl Try.call48 (by simp [fmN, fm0, belN, bel_Ns, bel_slN, bel_slT, bel_tb, bel_slI, bel_I, bel_rowsV, bel_nx hg, bel_nxV hg]) (by first | rfl | simp [fmN, fm0, belN, bel_Ns, bel_slN, bel_slT, bel_tb, bel_slI, bel_I, bel_rowsV, bel_nx hg, bel_nxV hg]) ?_; simp (maxSteps := 2000000) -implicitDefEqProofs +contextual (disch := first | assumption | omega | decide +kernel) only [push_cast, ↓capI, br2_true, br2_false, frk_tt, frk_tf, frk_f, frkD_tt, frkD_tf, frkD_f, pk2_true, pk2_false, imp_true, seval, Nat.reduceLeDiff, Nat.reduceEqDiff, reduceCtorEq, ↓reduceIte, fmN, fm0, take_N, toN1, slN_nil, encN, slN, cfg0, get_flat_part lenN, get_flat_drop lenN, len_flat lenN, slT, slI, rowsV, nxV, Nat.mul_one, tab_length, putV_tab, getV_tab, getV_tabO, getV_tabP, getV_tab1, get_mapI, get_mapI2, List.length_map, ibeq_dec, Try.ntmps48]
    simp (maxSteps := 2000000) -implicitDefEqProofs +contextual (disch := first | assumption | omega | decide +kernel) only [push_cast, ↓capI, br2_true, br2_false, frk_tt, frk_tf, frk_f, frkD_tt, frkD_tf, frkD_f, pk2_true, pk2_false, imp_true, seval, Nat.reduceLeDiff, Nat.reduceEqDiff, reduceCtorEq, ↓reduceIte, fmN, fm0, take_N, toN1, slN_nil, encN, slN, cfg0, get_flat_part lenN, get_flat_drop lenN, len_flat lenN, slT, slI, rowsV, nxV, Nat.mul_one, tab_length, putV_tab, getV_tab, getV_tabO, getV_tabP, getV_tab1, get_mapI, get_mapI2, List.length_map, ibeq_dec, hX, hop]
    refine endK.ret ?_ (by first | rfl | simp [fmN, fm0, belN, bel_Ns, bel_slN, bel_slT, bel_tb, bel_slI, bel_I, bel_rowsV, bel_nx hg, bel_nxV hg]); simp [evRes, getT, retV, Try.f48]
  · have hne : ¬ (i : Int) = k := by omega
    rw [decide_eq_false hik, Bool.false_or]
    refine PC.walk tok mixed cfg0 Try.func48 rfl Try.call48 (by simp [fmN, fm0, belN, bel_Ns, bel_slN, bel_slT, bel_tb, bel_slI, bel_I, bel_rowsV, bel_nx hg, bel_nxV hg]) (by first | rfl | simp [fmN, fm0, belN, bel_Ns, bel_slN, bel_slT, bel_tb, bel_slI, bel_I, bel_rowsV, bel_nx hg, bel_nxV hg]) ?_; simp (maxSteps := 2000000) -implicitDefEqProofs +contextual (disch := first | assumption | omega | decide +kernel) only [push_cast, ↓capI, br2_true, br2_false, frk_tt, frk_tf, frk_f, frkD_tt, frkD_tf, frkD_f, pk2_true, pk2_false, imp_true, seval, Nat.reduceLeDiff, Nat.reduceEqDiff, reduceCtorEq, ↓reduceIte, fmN, fm0, take_N, toN1, slN_nil, encN, slN, cfg0, get_flat_part lenN, get_flat_drop lenN, len_flat lenN, slT, slI, rowsV, nxV, Nat.mul_one, tab_length, putV_tab, getV_tab, getV_tabO, getV_tabP, getV_tab1, get_mapI, get_mapI2, List.length_map, ibeq_dec, Try.ntmps48]
    simp (maxSteps := 2000000) -implicitDefEqProofs +contextual (disch := first | assumption | omega | decide +kernel) only [push_cast, ↓capI, br2_true, br2_false, frk_tt, frk_tf, frk_f, frkD_tt, frkD_tf, frkD_f, pk2_true, pk2_false, imp_true, seval, Nat.reduceLeDiff, Nat.reduceEqDiff, reduceCtorEq, ↓reduceIte, fmN, fm0, take_N, toN1, slN_nil, encN, slN, cfg0, get_flat_part lenN, get_flat_drop lenN, len_flat lenN, slT, slI, rowsV, nxV, Nat.mul_one, tab_length, putV_tab, getV_tab, getV_tabO, getV_tabP, getV_tab1, get_mapI, get_mapI2, List.length_map, ibeq_dec, hX, hop, hne, e1, hT]
    (try simp (maxSteps := 2000000) -implicitDefEqProofs +contextual (disch := first | assumption | omega | decide +kernel) only [push_cast, ↓capI, br2_true, br2_false, frk_tt, frk_tf, frk_f, frkD_tt, frkD_tf, frkD_f, pk2_true, pk2_false, imp_true, seval, Nat.reduceLeDiff, Nat.reduceEqDiff, reduceCtorEq, ↓reduceIte, fmN, fm0, take_N, toN1, slN_nil, encN, slN, cfg0, get_flat_part lenN, get_flat_drop lenN, len_flat lenN, slT, slI, rowsV, nxV, Nat.mul_one, tab_length, putV_tab, getV_tab, getV_tabO, getV_tabP, getV_tab1, get_mapI, get_mapI2, List.length_map, ibeq_dec, hT])
    refine endK.ret ?_ (by first | rfl | simp [fmN, fm0, belN, bel_Ns, bel_slN, bel_slT, bel_tb, bel_slI, bel_I, bel_rowsV, bel_nx hg, bel_nxV hg]); simp [evRes, getT, retV, Try.f48]
end Go.Proofs.Ytkjffppioddnpaa

/- Chapter 41: the reference's matching: the matrix of an expression that is no repetition. -/
set_option maxRecDepth 100000
set_option maxHeartbeats 4000000
set_option linter.all false
namespace Go.Proofs.Ytkjffppioddnpaa
open Go.Vm

def bufR (n j : Nat) : V := .buf (j + 1) 0 0 n 1
def rowO (n : Nat) (R : Nat → Nat → Bool) (j : Nat) : Ob := .cells 0 (tab n fun k => .bool (R j k))
theorem bel_bufR {n k m : Nat} (h : k + 1 ≤ m) : belAll m (tab k (bufR n)) = true := belAll_tab fun i _ => by simp [bufR, bel_buf]; omega
theorem bel_rowO {n k m : Nat} {R : Nat → Nat → Bool} : belObs m (tab k (rowO n R)) = true := belObs_tabN fun _ _ => bel_tb
theorem bel_rowOA {n k m : Nat} {R : Nat → Nat → Bool} {B : List Ob} : belObs m (tab k (rowO n R) ++ B) = belObs m B := belObs_tab fun _ _ => bel_tb
theorem rel_plain (r : List Nd) (l : List Int) (m n a : Nat) (g : Nat → V) (hg : ∀ k j, (g j).bel k = true) (x : Nd) (t : List Nd) (hx : r.drop a = x :: t) (hop : ¬ x.op = 6) (R : Nat → Nat → Bool) (hn : n = l.length + 1) (hl : l.length ≤ 900)
    (hp : ∀ i k, i < n → k < n → PC Try.prog 48 [slN r, .int .i64 a, slI l, nxV m g, .int .i64 i, .int .i64 k] (.bool (R i k))) :
    PCJ Try.prog 32 [slN r, .int .i64 a, slI l, nxV m g] (.buf 0 n 0 n 1) (.cells n (tab n (bufR n)) :: tab n (rowO n R)) := by
  obtain ⟨ha, hX, _⟩ := drop_cons hx
  have hn2 : (l.length : Int) + 1 = n := by omega
  refine PCJ.walk tok mixed cfg0 Try.func32 rfl Try.call32 (by simp [fmN, fm0, belN, bel_Ns, bel_slN, bel_slT, bel_tb, bel_slI, bel_I, bel_nx hg, bel_nxV hg, bel_bufR, bel_rowO, bel_rowOA, tab_length]) ?_; simp (maxSteps := 2000000) -implicitDefEqProofs +contextual (disch := first | assumption | omega | decide +kernel) only [push_cast, ↓capI, br2_true, br2_false, frk_tt, frk_tf, frk_f, frkD_tt, frkD_tf, frkD_f, pk2_true, pk2_false, imp_true, seval, Nat.reduceLeDiff, Nat.reduceEqDiff, reduceCtorEq, ↓reduceIte, fmN, fm0, take_N, toN1, slN_nil, encN, slN, cfg0, get_flat_part lenN, get_flat_drop lenN, len_flat lenN, slT, slI, nxV, Nat.mul_one, tab_length, putV_tab, getV_tab, getV_tabO, getV_tabP, getV_tab1, get_mapI, get_mapI2, List.length_map, ibeq_dec, place_tabN, place_tab0, place_tabK, getO_tab, getO_tab0, getO_tabK, getO_tabN, setO_tab, setO_tab0, setO_tabK, setO_tabN, Try.ntmps32]
  simp (maxSteps := 2000000) -implicitDefEqProofs +contextual (disch := first | assumption | omega | decide +kernel) only [push_cast, ↓capI, br2_true, br2_false, frk_tt, frk_tf, frk_f, frkD_tt, frkD_tf, frkD_f, pk2_true, pk2_false, imp_true, seval, Nat.reduceLeDiff, Nat.reduceEqDiff, reduceCtorEq, ↓reduceIte, fmN, fm0, take_N, toN1, slN_nil, encN, slN, cfg0, get_flat_part lenN, get_flat_drop lenN, len_flat lenN, slT, slI, nxV, Nat.mul_one, tab_length, putV_tab, getV_tab, getV_tabO, getV_tabP, getV_tab1, get_mapI, get_mapI2, List.length_map, ibeq_dec, place_tabN, place_tab0, place_tabK, getO_tab, getO_tab0, getO_tabK, getO_tabN, setO_tab, setO_tab0, setO_tabK, setO_tabN, hn2]
  refine T.lp tok mixed cfg0 (fun (i : Nat) => kp 4 (dd 5 (kp 1 (sv (.buf 0 i 0 i 1) (sv (.int .i64 i) (dd 88 (nl))))))) (fun H0 (i : Nat) => .cells i (tab i (bufR n)) :: tab i (rowO n R)) (fun (i : Nat) => i ≤ n) (fun (i : Nat) => n - i) (0) ?_ ?_ ?_
  · exact Nat.zero_le _
  · refine (Gn.ownNil (t := 10) (sz := 1) rfl).trans ?_
    exact Gn.canon (J := []) (by first | rfl | (simp [slT, tab_length, rep_tab]; done) | (simp [slT, tab_length, rep_tab]; rfl)) (by simp [wk, slN, slT, slI, nxV, putT, kp, dd, sv, nl]) (by simp [tab_length]) (by simp [fmN, fm0, belN, bel_Ns, bel_slN, bel_slT, bel_tb, bel_slI, bel_I, bel_nx hg, bel_nxV hg, bel_bufR, bel_rowO, bel_rowOA, tab_length, kp, dd, sv, nl]) (by simp [fmN, fm0, belN, bel_Ns, bel_slN, bel_slT, bel_tb, bel_slI, bel_I, bel_nx hg, bel_nxV hg, bel_bufR, bel_rowO, bel_rowOA, tab_length])
  intro i hi
  by_cases hlt : i < n
  · simp (maxSteps := 2000000) -implicitDefEqProofs +contextual (disch := first | assumption | omega | decide +kernel) only [push_cast, ↓capI, br2_true, br2_false, frk_tt, frk_tf, frk_f, frkD_tt, frkD_tf, frkD_f, pk2_true, pk2_false, imp_true, seval, Nat.reduceLeDiff, Nat.reduceEqDiff, reduceCtorEq, ↓reduceIte, fmN, fm0, take_N, toN1, slN_nil, encN, slN, cfg0, get_flat_part lenN, get_flat_drop lenN, len_flat lenN, slT, slI, nxV, Nat.mul_one, tab_length, putV_tab, getV_tab, getV_tabO, getV_tabP, getV_tab1, get_mapI, get_mapI2, List.length_map, ibeq_dec, place_tabN, place_tab0, place_tabK, getO_tab, getO_tab0, getO_tabK, getO_tabN, setO_tab, setO_tab0, setO_tabK, setO_tabN, hlt, rep_tab, List.length_cons]
    refine T.lp tok mixed cfg0 (fun (k : Nat) => kp 4 (dd 5 (kp 4 (sv (.int .i64 k) (dd 86 (nl)))))) (fun H0 (k : Nat) => .cells i (tab i (bufR n)) :: (tab i (rowO n R) ++ [.cells 0 (tab n fun k' => .bool (decide (k' < k) && R i k'))])) (fun (k : Nat) => k ≤ n) (fun (k : Nat) => n - k) (0) ?_ ?_ ?_
    · exact Nat.zero_le _
    · rw [cell_zero]
      exact Gn.canon (J := []) (by first | rfl | (simp [slT, tab_length, rep_tab]; done) | (simp [slT, tab_length, rep_tab]; rfl)) (by simp [wk, slN, slT, slI, nxV, putT, kp, dd, sv, nl]) (by simp [tab_length]) (by simp [fmN, fm0, belN, bel_Ns, bel_slN, bel_slT, bel_tb, bel_slI, bel_I, bel_nx hg, bel_nxV hg, bel_bufR, bel_rowO, bel_rowOA, tab_length, kp, dd, sv, nl]) (by simp [fmN, fm0, belN, bel_Ns, bel_slN, bel_slT, bel_tb, bel_slI, bel_I, bel_nx hg, bel_nxV hg, bel_bufR, bel_rowO, bel_rowOA, tab_length])
    intro k hk
    by_cases hlk : k < n
    · simp (maxSteps := 2000000) -implicitDefEqProofs +contextual (disch := first | assumption | omega | decide +kernel) only [push_cast, ↓capI, br2_true, br2_false, frk_tt, frk_tf, frk_f, frkD_tt, frkD_tf, frkD_f, pk2_true, pk2_false, imp_true, seval, Nat.reduceLeDiff, Nat.reduceEqDiff, reduceCtorEq, ↓reduceIte, fmN, fm0, take_N, toN1, slN_nil, encN, slN, cfg0, get_flat_part lenN, get_flat_drop lenN, len_flat lenN, slT, slI, nxV, Nat.mul_one, tab_length, putV_tab, getV_tab, getV_tabO, getV_tabP, getV_tab1, get_mapI, get_mapI2, List.length_map, ibeq_dec, place_tabN, place_tab0, place_tabK, getO_tab, getO_tab0, getO_tabK, getO_tabN, setO_tab, setO_tab0, setO_tabK, setO_tabN, hlt, hlk]
      refine callO.pc (hp i k hlt hlk) ?_
      simp (maxSteps := 2000000) -implicitDefEqProofs +contextual (disch := first | assumption | omega | decide +kernel) only [push_cast, ↓capI, br2_true, br2_false, frk_tt, frk_tf, frk_f, frkD_tt, frkD_tf, frkD_f, pk2_true, pk2_false, imp_true, seval, Nat.reduceLeDiff, Nat.reduceEqDiff, reduceCtorEq, ↓reduceIte, fmN, fm0, take_N, toN1, slN_nil, encN, slN, cfg0, get_flat_part lenN, get_flat_drop lenN, len_flat lenN, slT, slI, nxV, Nat.mul_one, tab_length, putV_tab, getV_tab, getV_tabO, getV_tabP, getV_tab1, get_mapI, get_mapI2, List.length_map, ibeq_dec, place_tabN, place_tab0, place_tabK, getO_tab, getO_tab0, getO_tabK, getO_tabN, setO_tab, setO_tab0, setO_tabK, setO_tabN, hlt, hlk]
      refine ⟨k + 1, hlk, by (try simp only); omega, ?_⟩
      refine Gn.canon (J := []) ?_ (by simp [wk, slN, slT, slI, nxV]) (by simp [tab_length]) (by simp [fmN, fm0, belN, bel_Ns, bel_slN, bel_slT, bel_tb, bel_slI, bel_I, bel_nx hg, bel_nxV hg, bel_bufR, bel_rowO, bel_rowOA, tab_length]) (by simp [fmN, fm0, belN, bel_Ns, bel_slN, bel_slT, bel_tb, bel_slI, bel_I, bel_nx hg, bel_nxV hg, bel_bufR, bel_rowO, bel_rowOA, tab_length])
      rw [List.append_nil, cell_step (h := R i) rfl]
    · have hke : k = n := by omega
      subst hke
      rw [cell_end]
      simp (maxSteps := 2000000) -implicitDefEqProofs +contextual (disch := first | assumption | omega | decide +kernel) only [push_cast, ↓capI, br2_true, br2_false, frk_tt, frk_tf, frk_f, frkD_tt, frkD_tf, frkD_f, pk2_true, pk2_false, imp_true, seval, Nat.reduceLeDiff, Nat.reduceEqDiff, reduceCtorEq, ↓reduceIte, fmN, fm0, take_N, toN1, slN_nil, encN, slN, cfg0, get_flat_part lenN, get_flat_drop lenN, len_flat lenN, slT, slI, nxV, Nat.mul_one, tab_length, putV_tab, getV_tab, getV_tabO, getV_tabP, getV_tab1, get_mapI, get_mapI2, List.length_map, ibeq_dec, place_tabN, place_tab0, place_tabK, getO_tab, getO_tab0, getO_tabK, getO_tabN, setO_tab, setO_tab0, setO_tabK, setO_tabN, hlk]
      refine ⟨i + 1, hlt, by (try simp only); omega, ?_⟩
      refine Gn.canon (J := []) ?_ (by simp [wk, slN, slT, slI, nxV]) (by simp [tab_length]) (by simp [fmN, fm0, belN, bel_Ns, bel_slN, bel_slT, bel_tb, bel_slI, bel_I, bel_nx hg, bel_nxV hg, bel_bufR, bel_rowO, bel_rowOA, tab_length]) (by simp [fmN, fm0, belN, bel_Ns, bel_slN, bel_slT, bel_tb, bel_slI, bel_I, bel_nx hg, bel_nxV hg, bel_bufR, bel_rowO, bel_rowOA, tab_length])
      simp [tab_succ, bufR, rowO]
  · have hie : i = n := by omega
    subst hie
    simp (maxSteps := 2000000) -implicitDefEqProofs +contextual (disch := first | assumption | omega | decide +kernel) only [push_cast, ↓capI, br2_true, br2_false, frk_tt, frk_tf, frk_f, frkD_tt, frkD_tf, frkD_f, pk2_true, pk2_false, imp_true, seval, Nat.reduceLeDiff, Nat.reduceEqDiff, reduceCtorEq, ↓reduceIte, fmN, fm0, take_N, toN1, slN_nil, encN, slN, cfg0, get_flat_part lenN, get_flat_drop lenN, len_flat lenN, slT, slI, nxV, Nat.mul_one, tab_length, putV_tab, getV_tab, getV_tabO, getV_tabP, getV_tab1, get_mapI, get_mapI2, List.length_map, ibeq_dec, place_tabN, place_tab0, place_tabK, getO_tab, getO_tab0, getO_tabK, getO_tabN, setO_tab, setO_tab0, setO_tabK, setO_tabN, hlt, hX, hop]
    refine endJ.ret ([]) (by simp [fmN, fm0, belN, bel_Ns, bel_slN, bel_slT, bel_tb, bel_slI, bel_I, bel_nx hg, bel_nxV hg, bel_bufR, bel_rowO, bel_rowOA, tab_length, fzs_ok, getO, setO, fzs, fz, fzH, Nat.beq, fmN, fm0, take_N, toN1, slN_nil, encN, slN, cfg0, get_flat_part lenN, get_flat_drop lenN, len_flat lenN, slT, slI, nxV, Nat.mul_one, tab_length, putV_tab, getV_tab, getV_tabO, getV_tabP, getV_tab1, get_mapI, get_mapI2, List.length_map, ibeq_dec, place_tabN, place_tab0, place_tabK, getO_tab, getO_tab0, getO_tabK, getO_tabN, setO_tab, setO_tab0, setO_tabK, setO_tabN, tab_length]) (by simp [fmN, fm0, belN, bel_Ns, bel_slN, bel_slT, bel_tb, bel_slI, bel_I, bel_nx hg, bel_nxV hg, bel_bufR, bel_rowO, bel_rowOA, tab_length, fzs_ok, imp, lenOK_iff, List.take_of_length_le, evRes, getT, getO, setO, fzs, fz, fzH, Nat.beq, retV, Res.then, ldT, ldR, mkV, getV, fmN, fm0, take_N, toN1, slN_nil, encN, slN, cfg0, get_flat_part lenN, get_flat_drop lenN, len_flat lenN, slT, slI, nxV, Nat.mul_one, tab_length, putV_tab, getV_tab, getV_tabO, getV_tabP, getV_tab1, get_mapI, get_mapI2, List.length_map, ibeq_dec, place_tabN, place_tab0, place_tabK, getO_tab, getO_tab0, getO_tabK, getO_tabN, setO_tab, setO_tab0, setO_tabK, setO_tabN, Try.f32, tab_length]) (by first | rfl | simp [fmN, fm0, belN, bel_Ns, bel_slN, bel_slT, bel_tb, bel_slI, bel_I, bel_nx hg, bel_nxV hg, bel_bufR, bel_rowO, bel_rowOA, tab_length, tab_length]) (by first | rfl | simp [fmN, fm0, belN, bel_Ns, bel_slN, bel_slT, bel_tb, bel_slI, bel_I, bel_nx hg, bel_nxV hg, bel_bufR, bel_rowO, bel_rowOA, tab_length, tab_length])
end Go.Proofs.Ytkjffppioddnpaa

/- Chapter 41: the reference's matching: the matrix of a repetition. -/
set_option maxRecDepth 100000
set_option maxHeartbeats 4000000
set_option linter.all false
namespace Go.Proofs.Ytkjffppioddnpaa
open Go.Vm

/-- one more place to pass -/
def Wst (R : Nat → Nat → Bool) (m i k : Nat) : Bool := R i k || R i m && R m k
def Wit (R : Nat → Nat → Bool) : Nat → Nat → Nat → Bool
  | 0 => R
  | m + 1 => Wst (Wit R m) m
/-- the matrix on the way -/
def Wmid (M : Nat → Nat → Bool) (b c d j k : Nat) : Bool := if j < c ∨ (j = c ∧ k < d) then Wst M b j k else M j k
theorem mid1 {M : Nat → Nat → Bool} {b c d : Nat} : Wmid M b c d c d = M c d := by rw [Wmid, if_neg (by omega)]
theorem Wst_col {M : Nat → Nat → Bool} {b j : Nat} : Wst M b j b = M j b := by rw [Wst]; cases M j b <;> rfl
theorem Wst_row {M : Nat → Nat → Bool} {b k : Nat} : Wst M b b k = M b k := by rw [Wst]; cases M b k <;> cases M b b <;> rfl
theorem mid2 {M : Nat → Nat → Bool} {b c d : Nat} : Wmid M b c d c b = M c b := by
  rw [Wmid]
  split
  · exact Wst_col
  · rfl
theorem mid3 {M : Nat → Nat → Bool} {b c d : Nat} : Wmid M b c d b d = M b d := by
  rw [Wmid]
  split
  · exact Wst_row
  · rfl
theorem mid_zero {M : Nat → Nat → Bool} {b n : Nat} : tab n (rowO n M) = tab n (rowO n (Wmid M b 0 0)) := by
  refine tab_ext fun j _ => ?_
  unfold rowO
  refine congrArg (Ob.cells 0) (tab_ext fun k _ => ?_)
  rw [Wmid, if_neg (by omega)]
theorem mid_next {M : Nat → Nat → Bool} {b c n : Nat} : tab n (rowO n (Wmid M b c n)) = tab n (rowO n (Wmid M b (c + 1) 0)) := by
  refine tab_ext fun j _ => ?_
  unfold rowO
  refine congrArg (Ob.cells 0) (tab_ext fun k hk => ?_)
  rw [Wmid, Wmid]
  by_cases h : j < c ∨ j = c
  · rw [if_pos (by omega), if_pos (by omega)]
  · rw [if_neg (by omega), if_neg (by omega)]
theorem mid_end {M : Nat → Nat → Bool} {b n : Nat} : tab n (rowO n (Wmid M b n 0)) = tab n (rowO n (Wst M b)) := by
  refine tab_ext fun j hj => ?_
  unfold rowO
  refine congrArg (Ob.cells 0) (tab_ext fun k hk => ?_)
  rw [Wmid, if_pos (by omega)]
theorem mid_step {M : Nat → Nat → Bool} {b c d n : Nat} {v : Bool} (hv : v = Wst M b c d) :
    (tab n fun j => if j = c then Ob.cells 0 (tab n fun k => if k = d then V.bool v else V.bool (Wmid M b c d c k)) else rowO n (Wmid M b c d) j) = tab n (rowO n (Wmid M b c (d + 1))) := by
  refine tab_ext fun j _ => ?_
  by_cases hj : j = c
  · rw [if_pos hj, hj]
    unfold rowO
    refine congrArg (Ob.cells 0) (tab_ext fun k _ => ?_)
    by_cases hk : k = d
    · rw [if_pos hk, hk, hv, Wmid, if_pos (by omega)]
    · rw [if_neg hk, Wmid, Wmid]
      by_cases h : k < d
      · rw [if_pos (by omega), if_pos (by omega)]
      · rw [if_neg (by omega), if_neg (by omega)]
  · rw [if_neg hj]
    unfold rowO
    refine congrArg (Ob.cells 0) (tab_ext fun k _ => ?_)
    rw [Wmid, Wmid]
    by_cases h : j < c
    · rw [if_pos (by omega), if_pos (by omega)]
    · rw [if_neg (by omega), if_neg (by omega)]
theorem rel_star (r : List Nd) (l : List Int) (m n a : Nat) (g : Nat → V) (hg : ∀ k j, (g j).bel k = true) (x : Nd) (t : List Nd) (hx : r.drop a = x :: t) (hop : x.op = 6) (R : Nat → Nat → Bool) (hn : n = l.length + 1) (hl : l.length ≤ 900)
    (hp : ∀ i k, i < n → k < n → PC Try.prog 48 [slN r, .int .i64 a, slI l, nxV m g, .int .i64 i, .int .i64 k] (.bool (R i k))) :
    PCJ Try.prog 32 [slN r, .int .i64 a, slI l, nxV m g] (.buf 0 n 0 n 1) (.cells n (tab n (bufR n)) :: tab n (rowO n (Wit R n))) := by
  obtain ⟨ha, hX, _⟩ := drop_cons hx
  have hn2 : (l.length : Int) + 1 = n := by omega
  refine PCJ.walk tok mixed cfg0 Try.func32 rfl Try.call32 (by simp [fmN, fm0, belN, bel_Ns, bel_slN, bel_slT, bel_tb, bel_slI, bel_I, bel_nx hg, bel_nxV hg, bel_bufR, bel_rowO, bel_rowOA, tab_length]) ?_; simp (maxSteps := 2000000) -implicitDefEqProofs +contextual (disch := first | assumption | omega | decide +kernel) only [push_cast, ↓capI, br2_true, br2_false, frk_tt, frk_tf, frk_f, frkD_tt, frkD_tf, frkD_f, pk2_true, pk2_false, imp_true, seval, Nat.reduceLeDiff, Nat.reduceEqDiff, reduceCtorEq, ↓reduceIte, fmN, fm0, take_N, toN1, slN_nil, encN, slN, cfg0, get_flat_part lenN, get_flat_drop lenN, len_flat lenN, slT, slI, nxV, Nat.mul_one, tab_length, putV_tab, getV_tab, getV_tabO, getV_tabP, getV_tab1, get_mapI, get_mapI2, List.length_map, ibeq_dec, place_tabN, place_tab0, place_tabK, getO_tab, getO_tab0, getO_tabK, getO_tabN, setO_tab, setO_tab0, setO_tabK, setO_tabN, Try.ntmps32]
  simp (maxSteps := 2000000) -implicitDefEqProofs +contextual (disch := first | assumption | omega | decide +kernel) only [push_cast, ↓capI, br2_true, br2_false, frk_tt, frk_tf, frk_f, frkD_tt, frkD_tf, frkD_f, pk2_true, pk2_false, imp_true, seval, Nat.reduceLeDiff, Nat.reduceEqDiff, reduceCtorEq, ↓reduceIte, fmN, fm0, take_N, toN1, slN_nil, encN, slN, cfg0, get_flat_part lenN, get_flat_drop lenN, len_flat lenN, slT, slI, nxV, Nat.mul_one, tab_length, putV_tab, getV_tab, getV_tabO, getV_tabP, getV_tab1, get_mapI, get_mapI2, List.length_map, ibeq_dec, place_tabN, place_tab0, place_tabK, getO_tab, getO_tab0, getO_tabK, getO_tabN, setO_tab, setO_tab0, setO_tabK, setO_tabN, hn2]
  refine T.lp tok mixed cfg0 (fun (i : Nat) => kp 4 (dd 5 (kp 1 (sv (.buf 0 i 0 i 1) (sv (.int .i64 i) (dd 88 (nl))))))) (fun H0 (i : Nat) => .cells i (tab i (bufR n)) :: tab i (rowO n R)) (fun (i : Nat) => i ≤ n) (fun (i : Nat) => n - i) (0) ?_ ?_ ?_
  · exact Nat.zero_le _
  · refine (Gn.ownNil (t := 10) (sz := 1) rfl).trans ?_
    exact Gn.canon (J := []) (by first | rfl | (simp [slT, tab_length, rep_tab]; done) | (simp [slT, tab_length, rep_tab]; rfl)) (by simp [wk, slN, slT, slI, nxV, putT, kp, dd, sv, nl]) (by simp [tab_length]) (by simp [fmN, fm0, belN, bel_Ns, bel_slN, bel_slT, bel_tb, bel_slI, bel_I, bel_nx hg, bel_nxV hg, bel_bufR, bel_rowO, bel_rowOA, tab_length, kp, dd, sv, nl]) (by simp [fmN, fm0, belN, bel_Ns, bel_slN, bel_slT, bel_tb, bel_slI, bel_I, bel_nx hg, bel_nxV hg, bel_bufR, bel_rowO, bel_rowOA, tab_length])
  intro i hi
  by_cases hlt : i < n
  · simp (maxSteps := 2000000) -implicitDefEqProofs +contextual (disch := first | assumption | omega | decide +kernel) only [push_cast, ↓capI, br2_true, br2_false, frk_tt, frk_tf, frk_f, frkD_tt, frkD_tf, frkD_f, pk2_true, pk2_false, imp_true, seval, Nat.reduceLeDiff, Nat.reduceEqDiff, reduceCtorEq, ↓reduceIte, fmN, fm0, take_N, toN1, slN_nil, encN, slN, cfg0, get_flat_part lenN, get_flat_drop lenN, len_flat lenN, slT, slI, nxV, Nat.mul_one, tab_length, putV_tab, getV_tab, getV_tabO, getV_tabP, getV_tab1, get_mapI, get_mapI2, List.length_map, ibeq_dec, place_tabN, place_tab0, place_tabK, getO_tab, getO_tab0, getO_tabK, getO_tabN, setO_tab, setO_tab0, setO_tabK, setO_tabN, hlt, rep_tab, List.length_cons]
    refine T.lp tok mixed cfg0 (fun (k : Nat) => kp 4 (dd 5 (kp 4 (sv (.int .i64 k) (dd 86 (nl)))))) (fun H0 (k : Nat) => .cells i (tab i (bufR n)) :: (tab i (rowO n R) ++ [.cells 0 (tab n fun k' => .bool (decide (k' < k) && R i k'))])) (fun (k : Nat) => k ≤ n) (fun (k : Nat) => n - k) (0) ?_ ?_ ?_
    · exact Nat.zero_le _
    · rw [cell_zero]
      exact Gn.canon (J := []) (by first | rfl | (simp [slT, tab_length, rep_tab]; done) | (simp [slT, tab_length, rep_tab]; rfl)) (by simp [wk, slN, slT, slI, nxV, putT, kp, dd, sv, nl]) (by simp [tab_length]) (by simp [fmN, fm0, belN, bel_Ns, bel_slN, bel_slT, bel_tb, bel_slI, bel_I, bel_nx hg, bel_nxV hg, bel_bufR, bel_rowO, bel_rowOA, tab_length, kp, dd, sv, nl]) (by simp [fmN, fm0, belN, bel_Ns, bel_slN, bel_slT, bel_tb, bel_slI, bel_I, bel_nx hg, bel_nxV hg, bel_bufR, bel_rowO, bel_rowOA, tab_length])
    intro k hk
    by_cases hlk : k < n
    · simp (maxSteps := 2000000) -implicitDefEqProofs +contextual (disch := first | assumption | omega | decide +kernel) only [push_cast, ↓capI, br2_true, br2_false, frk_tt, frk_tf, frk_f, frkD_tt, frkD_tf, frkD_f, pk2_true, pk2_false, imp_true, seval, Nat.reduceLeDiff, Nat.reduceEqDiff, reduceCtorEq, ↓reduceIte, fmN, fm0, take_N, toN1, slN_nil, encN, slN, cfg0, get_flat_part lenN, get_flat_drop lenN, len_flat lenN, slT, slI, nxV, Nat.mul_one, tab_length, putV_tab, getV_tab, getV_tabO, getV_tabP, getV_tab1, get_mapI, get_mapI2, List.length_map, ibeq_dec, place_tabN, place_tab0, place_tabK, getO_tab, getO_tab0, getO_tabK, getO_tabN, setO_tab, setO_tab0, setO_tabK, setO_tabN, hlt, hlk]
      refine callO.pc (hp i k hlt hlk) ?_
      simp (maxSteps := 2000000) -implicitDefEqProofs +contextual (disch := first | assumption | omega | decide +kernel) only [push_cast, ↓capI, br2_true, br2_false, frk_tt, frk_tf, frk_f, frkD_tt, frkD_tf, frkD_f, pk2_true, pk2_false, imp_true, seval, Nat.reduceLeDiff, Nat.reduceEqDiff, reduceCtorEq, ↓reduceIte, fmN, fm0, take_N, toN1, slN_nil, encN, slN, cfg0, get_flat_part lenN, get_flat_drop lenN, len_flat lenN, slT, slI, nxV, Nat.mul_one, tab_length, putV_tab, getV_tab, getV_tabO, getV_tabP, getV_tab1, get_mapI, get_mapI2, List.length_map, ibeq_dec, place_tabN, place_tab0, place_tabK, getO_tab, getO_tab0, getO_tabK, getO_tabN, setO_tab, setO_tab0, setO_tabK, setO_tabN, hlt, hlk]
      refine ⟨k + 1, hlk, by (try simp only); omega, ?_⟩
      refine Gn.canon (J := []) ?_ (by simp [wk, slN, slT, slI, nxV]) (by simp [tab_length]) (by simp [fmN, fm0, belN, bel_Ns, bel_slN, bel_slT, bel_tb, bel_slI, bel_I, bel_nx hg, bel_nxV hg, bel_bufR, bel_rowO, bel_rowOA, tab_length]) (by simp [fmN, fm0, belN, bel_Ns, bel_slN, bel_slT, bel_tb, bel_slI, bel_I, bel_nx hg, bel_nxV hg, bel_bufR, bel_rowO, bel_rowOA, tab_length])
      rw [List.append_nil, cell_step (h := R i) rfl]
    · have hke : k = n := by omega
      subst hke
      rw [cell_end]
      simp (maxSteps := 2000000) -implicitDefEqProofs +contextual (disch := first | assumption | omega | decide +kernel) only [push_cast, ↓capI, br2_true, br2_false, frk_tt, frk_tf, frk_f, frkD_tt, frkD_tf, frkD_f, pk2_true, pk2_false, imp_true, seval, Nat.reduceLeDiff, Nat.reduceEqDiff, reduceCtorEq, ↓reduceIte, fmN, fm0, take_N, toN1, slN_nil, encN, slN, cfg0, get_flat_part lenN, get_flat_drop lenN, len_flat lenN, slT, slI, nxV, Nat.mul_one, tab_length, putV_tab, getV_tab, getV_tabO, getV_tabP, getV_tab1, get_mapI, get_mapI2, List.length_map, ibeq_dec, place_tabN, place_tab0, place_tabK, getO_tab, getO_tab0, getO_tabK, getO_tabN, setO_tab, setO_tab0, setO_tabK, setO_tabN, hlk]
      refine ⟨i + 1, hlt, by (try simp only); omega, ?_⟩
      refine Gn.canon (J := []) ?_ (by simp [wk, slN, slT, slI, nxV]) (by simp [tab_length]) (by simp [fmN, fm0, belN, bel_Ns, bel_slN, bel_slT, bel_tb, bel_slI, bel_I, bel_nx hg, bel_nxV hg, bel_bufR, bel_rowO, bel_rowOA, tab_length]) (by simp [fmN, fm0, belN, bel_Ns, bel_slN, bel_slT, bel_tb, bel_slI, bel_I, bel_nx hg, bel_nxV hg, bel_bufR, bel_rowO, bel_rowOA, tab_length])
      simp [tab_succ, bufR, rowO]
  · have hie : i = n := by omega
    subst hie
    clear hi
    simp (maxSteps := 2000000) -implicitDefEqProofs +contextual (disch := first | assumption | omega | decide +kernel) only [push_cast, ↓capI, br2_true, br2_false, frk_tt, frk_tf, frk_f, frkD_tt, frkD_tf, frkD_f, pk2_true, pk2_false, imp_true, seval, Nat.reduceLeDiff, Nat.reduceEqDiff, reduceCtorEq, ↓reduceIte, fmN, fm0, take_N, toN1, slN_nil, encN, slN, cfg0, get_flat_part lenN, get_flat_drop lenN, len_flat lenN, slT, slI, nxV, Nat.mul_one, tab_length, putV_tab, getV_tab, getV_tabO, getV_tabP, getV_tab1, get_mapI, get_mapI2, List.length_map, ibeq_dec, place_tabN, place_tab0, place_tabK, getO_tab, getO_tab0, getO_tabK, getO_tabN, setO_tab, setO_tab0, setO_tabK, setO_tabN, hlt, hX, hop]
    refine T.lp tok mixed cfg0 (fun (b : Nat) => dd 9 (kp 2 (dd 3 (sv (.int .i64 b) (dd 85 (nl)))))) (fun H0 (b : Nat) => .cells i (tab i (bufR i)) :: tab i (rowO i (Wit R b))) (fun (b : Nat) => b ≤ i) (fun (b : Nat) => i - b) (0) ?_ ?_ ?_
    · exact Nat.zero_le _
    · exact Gn.canon (J := []) (by first | rfl | (simp [slT, tab_length, rep_tab]; done) | (simp [slT, tab_length, rep_tab]; rfl)) (by simp [wk, slN, slT, slI, nxV, putT, kp, dd, sv, nl]) (by simp [tab_length]) (by simp [fmN, fm0, belN, bel_Ns, bel_slN, bel_slT, bel_tb, bel_slI, bel_I, bel_nx hg, bel_nxV hg, bel_bufR, bel_rowO, bel_rowOA, tab_length, kp, dd, sv, nl]) (by simp [fmN, fm0, belN, bel_Ns, bel_slN, bel_slT, bel_tb, bel_slI, bel_I, bel_nx hg, bel_nxV hg, bel_bufR, bel_rowO, bel_rowOA, tab_length])
    intro b hb
    by_cases hlb : b < i
    case neg =>
      have hbe : b = i := by omega
      subst hbe
      simp (maxSteps := 2000000) -implicitDefEqProofs +contextual (disch := first | assumption | omega | decide +kernel) only [push_cast, ↓capI, br2_true, br2_false, frk_tt, frk_tf, frk_f, frkD_tt, frkD_tf, frkD_f, pk2_true, pk2_false, imp_true, seval, Nat.reduceLeDiff, Nat.reduceEqDiff, reduceCtorEq, ↓reduceIte, fmN, fm0, take_N, toN1, slN_nil, encN, slN, cfg0, get_flat_part lenN, get_flat_drop lenN, len_flat lenN, slT, slI, nxV, Nat.mul_one, tab_length, putV_tab, getV_tab, getV_tabO, getV_tabP, getV_tab1, get_mapI, get_mapI2, List.length_map, ibeq_dec, place_tabN, place_tab0, place_tabK, getO_tab, getO_tab0, getO_tabK, getO_tabN, setO_tab, setO_tab0, setO_tabK, setO_tabN, hlb]
      refine endJ.ret ([]) (by simp [fmN, fm0, belN, bel_Ns, bel_slN, bel_slT, bel_tb, bel_slI, bel_I, bel_nx hg, bel_nxV hg, bel_bufR, bel_rowO, bel_rowOA, tab_length, fzs_ok, getO, setO, fzs, fz, fzH, Nat.beq, fmN, fm0, take_N, toN1, slN_nil, encN, slN, cfg0, get_flat_part lenN, get_flat_drop lenN, len_flat lenN, slT, slI, nxV, Nat.mul_one, tab_length, putV_tab, getV_tab, getV_tabO, getV_tabP, getV_tab1, get_mapI, get_mapI2, List.length_map, ibeq_dec, place_tabN, place_tab0, place_tabK, getO_tab, getO_tab0, getO_tabK, getO_tabN, setO_tab, setO_tab0, setO_tabK, setO_tabN, tab_length]) (by simp [fmN, fm0, belN, bel_Ns, bel_slN, bel_slT, bel_tb, bel_slI, bel_I, bel_nx hg, bel_nxV hg, bel_bufR, bel_rowO, bel_rowOA, tab_length, fzs_ok, imp, lenOK_iff, List.take_of_length_le, evRes, getT, getO, setO, fzs, fz, fzH, Nat.beq, retV, Res.then, ldT, ldR, mkV, getV, fmN, fm0, take_N, toN1, slN_nil, encN, slN, cfg0, get_flat_part lenN, get_flat_drop lenN, len_flat lenN, slT, slI, nxV, Nat.mul_one, tab_length, putV_tab, getV_tab, getV_tabO, getV_tabP, getV_tab1, get_mapI, get_mapI2, List.length_map, ibeq_dec, place_tabN, place_tab0, place_tabK, getO_tab, getO_tab0, getO_tabK, getO_tabN, setO_tab, setO_tab0, setO_tabK, setO_tabN, Try.f32, tab_length]) (by first | rfl | simp [fmN, fm0, belN, bel_Ns, bel_slN, bel_slT, bel_tb, bel_slI, bel_I, bel_nx hg, bel_nxV hg, bel_bufR, bel_rowO, bel_rowOA, tab_length, tab_length]) (by first | rfl | simp [fmN, fm0, belN, bel_Ns, bel_slN, bel_slT, bel_tb, bel_slI, bel_I, bel_nx hg, bel_nxV hg, bel_bufR, bel_rowO, bel_rowOA, tab_length, tab_length])
    simp (maxSteps := 2000000) -implicitDefEqProofs +contextual (disch := first | assumption | omega | decide +kernel) only [push_cast, ↓capI, br2_true, br2_false, frk_tt, frk_tf, frk_f, frkD_tt, frkD_tf, frkD_f, pk2_true, pk2_false, imp_true, seval, Nat.reduceLeDiff, Nat.reduceEqDiff, reduceCtorEq, ↓reduceIte, fmN, fm0, take_N, toN1, slN_nil, encN, slN, cfg0, get_flat_part lenN, get_flat_drop lenN, len_flat lenN, slT, slI, nxV, Nat.mul_one, tab_length, putV_tab, getV_tab, getV_tabO, getV_tabP, getV_tab1, get_mapI, get_mapI2, List.length_map, ibeq_dec, place_tabN, place_tab0, place_tabK, getO_tab, getO_tab0, getO_tabK, getO_tabN, setO_tab, setO_tab0, setO_tabK, setO_tabN, hlb]
    generalize hM : Wit R b = M
    refine T.lp tok mixed cfg0 (fun (c : Nat) => dd 9 (kp 2 (dd 3 (kp 1 (sv (.int .i64 c) (dd 84 (nl))))))) (fun H0 (c : Nat) => .cells i (tab i (bufR i)) :: tab i (rowO i (Wmid M b c 0))) (fun (c : Nat) => c ≤ i) (fun (c : Nat) => i - c) (0) ?_ ?_ ?_
    · exact Nat.zero_le _
    · rw [mid_zero (b := b)]
      exact Gn.canon (J := []) (by first | rfl | (simp [slT, tab_length, rep_tab]; done) | (simp [slT, tab_length, rep_tab]; rfl)) (by simp [wk, slN, slT, slI, nxV, putT, kp, dd, sv, nl]) (by simp [tab_length]) (by simp [fmN, fm0, belN, bel_Ns, bel_slN, bel_slT, bel_tb, bel_slI, bel_I, bel_nx hg, bel_nxV hg, bel_bufR, bel_rowO, bel_rowOA, tab_length, kp, dd, sv, nl]) (by simp [fmN, fm0, belN, bel_Ns, bel_slN, bel_slT, bel_tb, bel_slI, bel_I, bel_nx hg, bel_nxV hg, bel_bufR, bel_rowO, bel_rowOA, tab_length])
    intro c hc
    by_cases hlc : c < i
    case neg =>
      have hce : c = i := by omega
      subst hce
      simp (maxSteps := 2000000) -implicitDefEqProofs +contextual (disch := first | assumption | omega | decide +kernel) only [push_cast, ↓capI, br2_true, br2_false, frk_tt, frk_tf, frk_f, frkD_tt, frkD_tf, frkD_f, pk2_true, pk2_false, imp_true, seval, Nat.reduceLeDiff, Nat.reduceEqDiff, reduceCtorEq, ↓reduceIte, fmN, fm0, take_N, toN1, slN_nil, encN, slN, cfg0, get_flat_part lenN, get_flat_drop lenN, len_flat lenN, slT, slI, nxV, Nat.mul_one, tab_length, putV_tab, getV_tab, getV_tabO, getV_tabP, getV_tab1, get_mapI, get_mapI2, List.length_map, ibeq_dec, place_tabN, place_tab0, place_tabK, getO_tab, getO_tab0, getO_tabK, getO_tabN, setO_tab, setO_tab0, setO_tabK, setO_tabN, hlc]
      refine ⟨b + 1, hlb, by (try simp only); omega, ?_⟩
      refine Gn.canon (J := []) ?_ (by simp [wk, slN, slT, slI, nxV]) (by simp [tab_length]) (by simp [fmN, fm0, belN, bel_Ns, bel_slN, bel_slT, bel_tb, bel_slI, bel_I, bel_nx hg, bel_nxV hg, bel_bufR, bel_rowO, bel_rowOA, tab_length]) (by simp [fmN, fm0, belN, bel_Ns, bel_slN, bel_slT, bel_tb, bel_slI, bel_I, bel_nx hg, bel_nxV hg, bel_bufR, bel_rowO, bel_rowOA, tab_length])
      rw [List.append_nil, mid_end, ← hM]
      rfl
    simp (maxSteps := 2000000) -implicitDefEqProofs +contextual (disch := first | assumption | omega | decide +kernel) only [push_cast, ↓capI, br2_true, br2_false, frk_tt, frk_tf, frk_f, frkD_tt, frkD_tf, frkD_f, pk2_true, pk2_false, imp_true, seval, Nat.reduceLeDiff, Nat.reduceEqDiff, reduceCtorEq, ↓reduceIte, fmN, fm0, take_N, toN1, slN_nil, encN, slN, cfg0, get_flat_part lenN, get_flat_drop lenN, len_flat lenN, slT, slI, nxV, Nat.mul_one, tab_length, putV_tab, getV_tab, getV_tabO, getV_tabP, getV_tab1, get_mapI, get_mapI2, List.length_map, ibeq_dec, place_tabN, place_tab0, place_tabK, getO_tab, getO_tab0, getO_tabK, getO_tabN, setO_tab, setO_tab0, setO_tabK, setO_tabN, hlc]
    refine T.lp tok mixed cfg0 (fun (d : Nat) => dd 9 (kp 2 (dd 3 (kp 2 (sv (.int .i64 d) (dd 83 (nl))))))) (fun H0 (d : Nat) => .cells i (tab i (bufR i)) :: tab i (rowO i (Wmid M b c d))) (fun (d : Nat) => d ≤ i) (fun (d : Nat) => i - d) (0) ?_ ?_ ?_
    · exact Nat.zero_le _
    · exact Gn.canon (J := []) (by first | rfl | (simp [slT, tab_length, rep_tab]; done) | (simp [slT, tab_length, rep_tab]; rfl)) (by simp [wk, slN, slT, slI, nxV, putT, kp, dd, sv, nl]) (by simp [tab_length]) (by simp [fmN, fm0, belN, bel_Ns, bel_slN, bel_slT, bel_tb, bel_slI, bel_I, bel_nx hg, bel_nxV hg, bel_bufR, bel_rowO, bel_rowOA, tab_length, kp, dd, sv, nl]) (by simp [fmN, fm0, belN, bel_Ns, bel_slN, bel_slT, bel_tb, bel_slI, bel_I, bel_nx hg, bel_nxV hg, bel_bufR, bel_rowO, bel_rowOA, tab_length])
    intro d hd
    by_cases hld : d < i
    case neg =>
      have hde : d = i := by omega
      subst hde
      rw [mid_next]
      simp (maxSteps := 2000000) -implicitDefEqProofs +contextual (disch := first | assumption | omega | decide +kernel) only [push_cast, ↓capI, br2_true, br2_false, frk_tt, frk_tf, frk_f, frkD_tt, frkD_tf, frkD_f, pk2_true, pk2_false, imp_true, seval, Nat.reduceLeDiff, Nat.reduceEqDiff, reduceCtorEq, ↓reduceIte, fmN, fm0, take_N, toN1, slN_nil, encN, slN, cfg0, get_flat_part lenN, get_flat_drop lenN, len_flat lenN, slT, slI, nxV, Nat.mul_one, tab_length, putV_tab, getV_tab, getV_tabO, getV_tabP, getV_tab1, get_mapI, get_mapI2, List.length_map, ibeq_dec, place_tabN, place_tab0, place_tabK, getO_tab, getO_tab0, getO_tabK, getO_tabN, setO_tab, setO_tab0, setO_tabK, setO_tabN, hld]
      refine ⟨c + 1, hlc, by (try simp only); omega, ?_⟩
      refine Gn.canon (J := []) ?_ (by simp [wk, slN, slT, slI, nxV]) (by simp [tab_length]) (by simp [fmN, fm0, belN, bel_Ns, bel_slN, bel_slT, bel_tb, bel_slI, bel_I, bel_nx hg, bel_nxV hg, bel_bufR, bel_rowO, bel_rowOA, tab_length]) (by simp [fmN, fm0, belN, bel_Ns, bel_slN, bel_slT, bel_tb, bel_slI, bel_I, bel_nx hg, bel_nxV hg, bel_bufR, bel_rowO, bel_rowOA, tab_length])
      rw [List.append_nil]
    have w1 := @mid1 M b c d
    have w2 := @mid2 M b c d
    have w3 := @mid3 M b c d
    have wv : Wst M b c d = (M c d || M c b && M b d) := rfl
    cases h1 : M c d
    case true =>
      rw [h1] at w1 wv
      simp (maxSteps := 2000000) -implicitDefEqProofs +contextual (disch := first | assumption | omega | decide +kernel) only [push_cast, ↓capI, br2_true, br2_false, frk_tt, frk_tf, frk_f, frkD_tt, frkD_tf, frkD_f, pk2_true, pk2_false, imp_true, seval, Nat.reduceLeDiff, Nat.reduceEqDiff, reduceCtorEq, ↓reduceIte, fmN, fm0, take_N, toN1, slN_nil, encN, slN, cfg0, get_flat_part lenN, get_flat_drop lenN, len_flat lenN, slT, slI, nxV, Nat.mul_one, tab_length, putV_tab, getV_tab, getV_tabO, getV_tabP, getV_tab1, get_mapI, get_mapI2, List.length_map, ibeq_dec, place_tabN, place_tab0, place_tabK, getO_tab, getO_tab0, getO_tabK, getO_tabN, setO_tab, setO_tab0, setO_tabK, setO_tabN, hld, hlc, hlb, bufR, rowO, w1, w2, w3]
      refine ⟨d + 1, hld, by (try simp only); omega, ?_⟩
      refine Gn.canon (J := []) ?_ (by simp [wk, slN, slT, slI, nxV]) (by simp [tab_length]) (by simp [fmN, fm0, belN, bel_Ns, bel_slN, bel_slT, bel_tb, bel_slI, bel_I, bel_nx hg, bel_nxV hg, bel_bufR, bel_rowO, bel_rowOA, tab_length]) (by simp [fmN, fm0, belN, bel_Ns, bel_slN, bel_slT, bel_tb, bel_slI, bel_I, bel_nx hg, bel_nxV hg, bel_bufR, bel_rowO, bel_rowOA, tab_length])
      rw [List.append_nil]
      exact congrArg (Ob.cells i (tab i (bufR i)) :: ·) (mid_step (by rw [wv]; rfl))
    cases h2 : M c b
    case false =>
      rw [h1] at w1 wv
      rw [h2] at w2 wv
      simp (maxSteps := 2000000) -implicitDefEqProofs +contextual (disch := first | assumption | omega | decide +kernel) only [push_cast, ↓capI, br2_true, br2_false, frk_tt, frk_tf, frk_f, frkD_tt, frkD_tf, frkD_f, pk2_true, pk2_false, imp_true, seval, Nat.reduceLeDiff, Nat.reduceEqDiff, reduceCtorEq, ↓reduceIte, fmN, fm0, take_N, toN1, slN_nil, encN, slN, cfg0, get_flat_part lenN, get_flat_drop lenN, len_flat lenN, slT, slI, nxV, Nat.mul_one, tab_length, putV_tab, getV_tab, getV_tabO, getV_tabP, getV_tab1, get_mapI, get_mapI2, List.length_map, ibeq_dec, place_tabN, place_tab0, place_tabK, getO_tab, getO_tab0, getO_tabK, getO_tabN, setO_tab, setO_tab0, setO_tabK, setO_tabN, hld, hlc, hlb, bufR, rowO, w1, w2, w3]
      refine ⟨d + 1, hld, by (try simp only); omega, ?_⟩
      refine Gn.canon (J := []) ?_ (by simp [wk, slN, slT, slI, nxV]) (by simp [tab_length]) (by simp [fmN, fm0, belN, bel_Ns, bel_slN, bel_slT, bel_tb, bel_slI, bel_I, bel_nx hg, bel_nxV hg, bel_bufR, bel_rowO, bel_rowOA, tab_length]) (by simp [fmN, fm0, belN, bel_Ns, bel_slN, bel_slT, bel_tb, bel_slI, bel_I, bel_nx hg, bel_nxV hg, bel_bufR, bel_rowO, bel_rowOA, tab_length])
      rw [List.append_nil]
      exact congrArg (Ob.cells i (tab i (bufR i)) :: ·) (mid_step (by rw [wv]; rfl))
    rw [h1] at w1 wv
    rw [h2] at w2 wv
    simp (maxSteps := 2000000) -implicitDefEqProofs +contextual (disch := first | assumption | omega | decide +kernel) only [push_cast, ↓capI, br2_true, br2_false, frk_tt, frk_tf, frk_f, frkD_tt, frkD_tf, frkD_f, pk2_true, pk2_false, imp_true, seval, Nat.reduceLeDiff, Nat.reduceEqDiff, reduceCtorEq, ↓reduceIte, fmN, fm0, take_N, toN1, slN_nil, encN, slN, cfg0, get_flat_part lenN, get_flat_drop lenN, len_flat lenN, slT, slI, nxV, Nat.mul_one, tab_length, putV_tab, getV_tab, getV_tabO, getV_tabP, getV_tab1, get_mapI, get_mapI2, List.length_map, ibeq_dec, place_tabN, place_tab0, place_tabK, getO_tab, getO_tab0, getO_tabK, getO_tabN, setO_tab, setO_tab0, setO_tabK, setO_tabN, hld, hlc, hlb, bufR, rowO, w1, w2, w3]
    refine ⟨d + 1, hld, by (try simp only); omega, ?_⟩
    refine Gn.canon (J := []) ?_ (by simp [wk, slN, slT, slI, nxV]) (by simp [tab_length]) (by simp [fmN, fm0, belN, bel_Ns, bel_slN, bel_slT, bel_tb, bel_slI, bel_I, bel_nx hg, bel_nxV hg, bel_bufR, bel_rowO, bel_rowOA, tab_length]) (by simp [fmN, fm0, belN, bel_Ns, bel_slN, bel_slT, bel_tb, bel_slI, bel_I, bel_nx hg, bel_nxV hg, bel_bufR, bel_rowO, bel_rowOA, tab_length])
    rw [List.append_nil]
    exact congrArg (Ob.cells i (tab i (bufR i)) :: ·) (mid_step (by rw [wv]; rfl))
end Go.Proofs.Ytkjffppioddnpaa

/- Chapter 41: the reference's matching: one pair of places: alternatives and concatenations. -/
set_option maxRecDepth 100000
set_option maxHeartbeats 4000000
set_option linter.all false
namespace Go.Proofs.Ytkjffppioddnpaa
open Go.Vm

/-- an alternative -/
theorem pair_alt (r : List Nd) (l : List Int) (m n a i k : Nat) (g : Nat → V) (hg : ∀ k j, (g j).bel k = true) (x : Nd) (p q : Pr) (t : List Nd) (hp : okP 1000000000 p) (hx : r.drop a = flat (.bin x p q) ++ t) (hop : x.op = 5) (T U : Nat → Nat → Bool) (ham : a + 1 + (flat p).length < m) (hT : g (a + 1) = rowsV n T)
    (hU : g (a + 1 + (flat p).length) = rowsV n U) (hi : i < n) (hk : k < n) (hr : r.length ≤ 4000000) :
    PC Try.prog 48 [slN r, .int .i64 a, slI l, nxV m g, .int .i64 i, .int .i64 k] (.bool (T i k || U i k)) := by
  obtain ⟨ha, hX, h2⟩ := drop_cons (x := x) (r := flat p ++ (flat q ++ t)) (by rw [hx, flat, List.cons_append, List.append_assoc])
  have i3 := end40 p r (a + 1) _ hp h2 ha hr
  rw [show ((a + 1 : Nat) : Int) = a + 1 from rfl] at i3
  have hlr := drop_len ha h2
  have e1 : ((a : Int) + 1).toNat = a + 1 := by omega
  have e2 : ((a : Int) + 1 + (flat p).length).toNat = a + 1 + (flat p).length := by omega
  cases hb : T i k
  · rw [Bool.false_or]
    refine PC.walk tok mixed cfg0 Try.func48 rfl Try.call48 (by simp [fmN, fm0, belN, bel_Ns, bel_slN, bel_slT, bel_tb, bel_slI, bel_I, bel_rowsV, bel_nx hg, bel_nxV hg]) (by first | rfl | simp [fmN, fm0, belN, bel_Ns, bel_slN, bel_slT, bel_tb, bel_slI, bel_I, bel_rowsV, bel_nx hg, bel_nxV hg]) ?_; simp (maxSteps := 2000000) -implicitDefEqProofs +contextual (disch := first | assumption | omega | decide +kernel) only [push_cast, ↓capI, br2_true, br2_false, frk_tt, frk_tf, frk_f, frkD_tt, frkD_tf, frkD_f, pk2_true, pk2_false, imp_true, seval, Nat.reduceLeDiff, Nat.reduceEqDiff, reduceCtorEq, ↓reduceIte, fmN, fm0, take_N, toN1, slN_nil, encN, slN, cfg0, get_flat_part lenN, get_flat_drop lenN, len_flat lenN, slT, slI, rowsV, nxV, Nat.mul_one, tab_length, putV_tab, getV_tab, getV_tabO, getV_tabP, getV_tab1, get_mapI, get_mapI2, List.length_map, ibeq_dec, Try.ntmps48]
    simp (maxSteps := 2000000) -implicitDefEqProofs +contextual (disch := first | assumption | omega | decide +kernel) only [push_cast, ↓capI, br2_true, br2_false, frk_tt, frk_tf, frk_f, frkD_tt, frkD_tf, frkD_f, pk2_true, pk2_false, imp_true, seval, Nat.reduceLeDiff, Nat.reduceEqDiff, reduceCtorEq, ↓reduceIte, fmN, fm0, take_N, toN1, slN_nil, encN, slN, cfg0, get_flat_part lenN, get_flat_drop lenN, len_flat lenN, slT, slI, rowsV, nxV, Nat.mul_one, tab_length, putV_tab, getV_tab, getV_tabO, getV_tabP, getV_tab1, get_mapI, get_mapI2, List.length_map, ibeq_dec, hX, hop, e1, hT, hb]
    (try simp (maxSteps := 2000000) -implicitDefEqProofs +contextual (disch := first | assumption | omega | decide +kernel) only [push_cast, ↓capI, br2_true, br2_false, frk_tt, frk_tf, frk_f, frkD_tt, frkD_tf, frkD_f, pk2_true, pk2_false, imp_true, seval, Nat.reduceLeDiff, Nat.reduceEqDiff, reduceCtorEq, ↓reduceIte, fmN, fm0, take_N, toN1, slN_nil, encN, slN, cfg0, get_flat_part lenN, get_flat_drop lenN, len_flat lenN, slT, slI, rowsV, nxV, Nat.mul_one, tab_length, putV_tab, getV_tab, getV_tabO, getV_tabP, getV_tab1, get_mapI, get_mapI2, List.length_map, ibeq_dec, hT, hb])
    first | refine callO.pc i3 ?_ | refine callG.pc1 i3 ?_ | trace_state
    simp (maxSteps := 2000000) -implicitDefEqProofs +contextual (disch := first | assumption | omega | decide +kernel) only [push_cast, ↓capI, br2_true, br2_false, frk_tt, frk_tf, frk_f, frkD_tt, frkD_tf, frkD_f, pk2_true, pk2_false, imp_true, seval, Nat.reduceLeDiff, Nat.reduceEqDiff, reduceCtorEq, ↓reduceIte, fmN, fm0, take_N, toN1, slN_nil, encN, slN, cfg0, get_flat_part lenN, get_flat_drop lenN, len_flat lenN, slT, slI, rowsV, nxV, Nat.mul_one, tab_length, putV_tab, getV_tab, getV_tabO, getV_tabP, getV_tab1, get_mapI, get_mapI2, List.length_map, ibeq_dec, e2, hU]
    (try simp (maxSteps := 2000000) -implicitDefEqProofs +contextual (disch := first | assumption | omega | decide +kernel) only [push_cast, ↓capI, br2_true, br2_false, frk_tt, frk_tf, frk_f, frkD_tt, frkD_tf, frkD_f, pk2_true, pk2_false, imp_true, seval, Nat.reduceLeDiff, Nat.reduceEqDiff, reduceCtorEq, ↓reduceIte, fmN, fm0, take_N, toN1, slN_nil, encN, slN, cfg0, get_flat_part lenN, get_flat_drop lenN, len_flat lenN, slT, slI, rowsV, nxV, Nat.mul_one, tab_length, putV_tab, getV_tab, getV_tabO, getV_tabP, getV_tab1, get_mapI, get_mapI2, List.length_map, ibeq_dec, hU])
    refine endK.ret ?_ (by first | rfl | simp [fmN, fm0, belN, bel_Ns, bel_slN, bel_slT, bel_tb, bel_slI, bel_I, bel_rowsV, bel_nx hg, bel_nxV hg]); simp [evRes, getT, retV, Try.f48]
  · rw [Bool.true_or]
    refine PC.walk tok mixed cfg0 Try.func48 rfl Try.call48 (by simp [fmN, fm0, belN, bel_Ns, bel_slN, bel_slT, bel_tb, bel_slI, bel_I, bel_rowsV, bel_nx hg, bel_nxV hg]) (by first | rfl | simp [fmN, fm0, belN, bel_Ns, bel_slN, bel_slT, bel_tb, bel_slI, bel_I, bel_rowsV, bel_nx hg, bel_nxV hg]) ?_; simp (maxSteps := 2000000) -implicitDefEqProofs +contextual (disch := first | assumption | omega | decide +kernel) only [push_cast, ↓capI, br2_true, br2_false, frk_tt, frk_tf, frk_f, frkD_tt, frkD_tf, frkD_f, pk2_true, pk2_false, imp_true, seval, Nat.reduceLeDiff, Nat.reduceEqDiff, reduceCtorEq, ↓reduceIte, fmN, fm0, take_N, toN1, slN_nil, encN, slN, cfg0, get_flat_part lenN, get_flat_drop lenN, len_flat lenN, slT, slI, rowsV, nxV, Nat.mul_one, tab_length, putV_tab, getV_tab, getV_tabO, getV_tabP, getV_tab1, get_mapI, get_mapI2, List.length_map, ibeq_dec, Try.ntmps48]
    simp (maxSteps := 2000000) -implicitDefEqProofs +contextual (disch := first | assumption | omega | decide +kernel) only [push_cast, ↓capI, br2_true, br2_false, frk_tt, frk_tf, frk_f, frkD_tt, frkD_tf, frkD_f, pk2_true, pk2_false, imp_true, seval, Nat.reduceLeDiff, Nat.reduceEqDiff, reduceCtorEq, ↓reduceIte, fmN, fm0, take_N, toN1, slN_nil, encN, slN, cfg0, get_flat_part lenN, get_flat_drop lenN, len_flat lenN, slT, slI, rowsV, nxV, Nat.mul_one, tab_length, putV_tab, getV_tab, getV_tabO, getV_tabP, getV_tab1, get_mapI, get_mapI2, List.length_map, ibeq_dec, hX, hop, e1, hT, hb]
    (try simp (maxSteps := 2000000) -implicitDefEqProofs +contextual (disch := first | assumption | omega | decide +kernel) only [push_cast, ↓capI, br2_true, br2_false, frk_tt, frk_tf, frk_f, frkD_tt, frkD_tf, frkD_f, pk2_true, pk2_false, imp_true, seval, Nat.reduceLeDiff, Nat.reduceEqDiff, reduceCtorEq, ↓reduceIte, fmN, fm0, take_N, toN1, slN_nil, encN, slN, cfg0, get_flat_part lenN, get_flat_drop lenN, len_flat lenN, slT, slI, rowsV, nxV, Nat.mul_one, tab_length, putV_tab, getV_tab, getV_tabO, getV_tabP, getV_tab1, get_mapI, get_mapI2, List.length_map, ibeq_dec, hT, hb])
    refine endK.ret ?_ (by first | rfl | simp [fmN, fm0, belN, bel_Ns, bel_slN, bel_slT, bel_tb, bel_slI, bel_I, bel_rowsV, bel_nx hg, bel_nxV hg]); simp [evRes, getT, retV, Try.f48]
end Go.Proofs.Ytkjffppioddnpaa

/- Chapter 41: the reference's matching: one pair of places: concatenations. -/
set_option maxRecDepth 100000
set_option maxHeartbeats 4000000
set_option linter.all false
namespace Go.Proofs.Ytkjffppioddnpaa
open Go.Vm

/-- a concatenation -/
theorem pair_cat (r : List Nd) (l : List Int) (m n a i k : Nat) (g : Nat → V) (hg : ∀ k j, (g j).bel k = true) (x : Nd) (p q : Pr) (t : List Nd) (hp : okP 1000000000 p) (hx : r.drop a = flat (.bin x p q) ++ t) (hop : x.op = 4) (M1 M2 : Nat → Nat → Bool) (ham : a + 1 + (flat p).length < m) (hT : g (a + 1) = rowsV n M1)
    (hU : g (a + 1 + (flat p).length) = rowsV n M2) (hi : i < n) (hk : k < n) (hn : n ≤ 1000) (hr : r.length ≤ 4000000) (b : Bool) (hb : b = true ↔ ∃ j, i ≤ j ∧ j ≤ k ∧ M1 i j = true ∧ M2 j k = true) :
    PC Try.prog 48 [slN r, .int .i64 a, slI l, nxV m g, .int .i64 i, .int .i64 k] (.bool b) := by
  obtain ⟨ha, hX, h2⟩ := drop_cons (x := x) (r := flat p ++ (flat q ++ t)) (by rw [hx, flat, List.cons_append, List.append_assoc])
  have i3 := end40 p r (a + 1) _ hp h2 ha hr
  rw [show ((a + 1 : Nat) : Int) = a + 1 from rfl] at i3
  have hlr := drop_len ha h2
  have e1 : ((a : Int) + 1).toNat = a + 1 := by omega
  have e2 : ((a : Int) + 1 + (flat p).length).toNat = a + 1 + (flat p).length := by omega
  refine PC.walk tok mixed cfg0 Try.func48 rfl Try.call48 (by simp [fmN, fm0, belN, bel_Ns, bel_slN, bel_slT, bel_tb, bel_slI, bel_I, bel_rowsV, bel_nx hg, bel_nxV hg]) (by first | rfl | simp [fmN, fm0, belN, bel_Ns, bel_slN, bel_slT, bel_tb, bel_slI, bel_I, bel_rowsV, bel_nx hg, bel_nxV hg]) ?_; simp (maxSteps := 2000000) -implicitDefEqProofs +contextual (disch := first | assumption | omega | decide +kernel) only [push_cast, ↓capI, br2_true, br2_false, frk_tt, frk_tf, frk_f, frkD_tt, frkD_tf, frkD_f, pk2_true, pk2_false, imp_true, seval, Nat.reduceLeDiff, Nat.reduceEqDiff, reduceCtorEq, ↓reduceIte, fmN, fm0, take_N, toN1, slN_nil, encN, slN, cfg0, get_flat_part lenN, get_flat_drop lenN, len_flat lenN, slT, slI, rowsV, nxV, Nat.mul_one, tab_length, putV_tab, getV_tab, getV_tabO, getV_tabP, getV_tab1, get_mapI, get_mapI2, List.length_map, ibeq_dec, Try.ntmps48]
  simp (maxSteps := 2000000) -implicitDefEqProofs +contextual (disch := first | assumption | omega | decide +kernel) only [push_cast, ↓capI, br2_true, br2_false, frk_tt, frk_tf, frk_f, frkD_tt, frkD_tf, frkD_f, pk2_true, pk2_false, imp_true, seval, Nat.reduceLeDiff, Nat.reduceEqDiff, reduceCtorEq, ↓reduceIte, fmN, fm0, take_N, toN1, slN_nil, encN, slN, cfg0, get_flat_part lenN, get_flat_drop lenN, len_flat lenN, slT, slI, rowsV, nxV, Nat.mul_one, tab_length, putV_tab, getV_tab, getV_tabO, getV_tabP, getV_tab1, get_mapI, get_mapI2, List.length_map, ibeq_dec, hX, hop]
  refine T.lp tok mixed cfg0 (fun (j : Nat) => kp 2 (dd 1 (kp 3 (dd 7 (sv (.int .i64 j) (dd 112 (nl))))))) (fun H0 (j : Nat) => []) (fun (j : Nat) => i ≤ j ∧ ∀ j', i ≤ j' → j' < j → j' ≤ k → ¬ (M1 i j' = true ∧ M2 j' k = true)) (fun (j : Nat) => k + 1 - j) (i) ?_ ?_ ?_
  · exact ⟨Nat.le_refl _, fun j' h1 h2 => absurd h2 (by omega)⟩
  · exact Gn.canon (J := []) (by first | rfl | (simp [slT, tab_length, rep_tab]; done) | (simp [slT, tab_length, rep_tab]; rfl)) (by simp [wk, slN, slT, slI, rowsV, nxV, putT, kp, dd, sv, nl]) (by simp [tab_length]) (by simp [fmN, fm0, belN, bel_Ns, bel_slN, bel_slT, bel_tb, bel_slI, bel_I, bel_rowsV, bel_nx hg, bel_nxV hg, kp, dd, sv, nl]) (by simp [fmN, fm0, belN, bel_Ns, bel_slN, bel_slT, bel_tb, bel_slI, bel_I, bel_rowsV, bel_nx hg, bel_nxV hg])
  rintro j ⟨hij, hno⟩
  by_cases hjk : j ≤ k
  case neg =>
    have e : b = false := by
      rw [← Bool.not_eq_true, hb]
      rintro ⟨j', h1, h2, h3⟩
      exact hno j' h1 (by omega) h2 h3
    rw [e]
    simp (maxSteps := 2000000) -implicitDefEqProofs +contextual (disch := first | assumption | omega | decide +kernel) only [push_cast, ↓capI, br2_true, br2_false, frk_tt, frk_tf, frk_f, frkD_tt, frkD_tf, frkD_f, pk2_true, pk2_false, imp_true, seval, Nat.reduceLeDiff, Nat.reduceEqDiff, reduceCtorEq, ↓reduceIte, fmN, fm0, take_N, toN1, slN_nil, encN, slN, cfg0, get_flat_part lenN, get_flat_drop lenN, len_flat lenN, slT, slI, rowsV, nxV, Nat.mul_one, tab_length, putV_tab, getV_tab, getV_tabO, getV_tabP, getV_tab1, get_mapI, get_mapI2, List.length_map, ibeq_dec, hjk]
    refine endK.ret ?_ (by first | rfl | simp [fmN, fm0, belN, bel_Ns, bel_slN, bel_slT, bel_tb, bel_slI, bel_I, bel_rowsV, bel_nx hg, bel_nxV hg]); simp [evRes, getT, retV, Try.f48]
  have hjn : j < n := by omega
  cases h1 : M1 i j
  · simp (maxSteps := 2000000) -implicitDefEqProofs +contextual (disch := first | assumption | omega | decide +kernel) only [push_cast, ↓capI, br2_true, br2_false, frk_tt, frk_tf, frk_f, frkD_tt, frkD_tf, frkD_f, pk2_true, pk2_false, imp_true, seval, Nat.reduceLeDiff, Nat.reduceEqDiff, reduceCtorEq, ↓reduceIte, fmN, fm0, take_N, toN1, slN_nil, encN, slN, cfg0, get_flat_part lenN, get_flat_drop lenN, len_flat lenN, slT, slI, rowsV, nxV, Nat.mul_one, tab_length, putV_tab, getV_tab, getV_tabO, getV_tabP, getV_tab1, get_mapI, get_mapI2, List.length_map, ibeq_dec, hjk, e1, hT, h1]
    (try simp (maxSteps := 2000000) -implicitDefEqProofs +contextual (disch := first | assumption | omega | decide +kernel) only [push_cast, ↓capI, br2_true, br2_false, frk_tt, frk_tf, frk_f, frkD_tt, frkD_tf, frkD_f, pk2_true, pk2_false, imp_true, seval, Nat.reduceLeDiff, Nat.reduceEqDiff, reduceCtorEq, ↓reduceIte, fmN, fm0, take_N, toN1, slN_nil, encN, slN, cfg0, get_flat_part lenN, get_flat_drop lenN, len_flat lenN, slT, slI, rowsV, nxV, Nat.mul_one, tab_length, putV_tab, getV_tab, getV_tabO, getV_tabP, getV_tab1, get_mapI, get_mapI2, List.length_map, ibeq_dec, hT, h1])
    refine ⟨j + 1, ⟨by omega, fun j' g1 g2 g3 => by rcases Nat.lt_succ_iff_lt_or_eq.1 g2 with h | h; exact hno j' g1 h g3; rw [h, h1]; simp⟩, by (try simp only); omega, ?_⟩; exact Gn.canon (by first | rfl | (simp [slT, tab_length, rep_tab]; rfl)) (by simp [wk, slN, slT, slI, rowsV, nxV]) (by simp [tab_length]) (by simp [fmN, fm0, belN, bel_Ns, bel_slN, bel_slT, bel_tb, bel_slI, bel_I, bel_rowsV, bel_nx hg, bel_nxV hg]) (by simp [fmN, fm0, belN, bel_Ns, bel_slN, bel_slT, bel_tb, bel_slI, bel_I, bel_rowsV, bel_nx hg, bel_nxV hg])
  cases hu : M2 j k
  · simp (maxSteps := 2000000) -implicitDefEqProofs +contextual (disch := first | assumption | omega | decide +kernel) only [push_cast, ↓capI, br2_true, br2_false, frk_tt, frk_tf, frk_f, frkD_tt, frkD_tf, frkD_f, pk2_true, pk2_false, imp_true, seval, Nat.reduceLeDiff, Nat.reduceEqDiff, reduceCtorEq, ↓reduceIte, fmN, fm0, take_N, toN1, slN_nil, encN, slN, cfg0, get_flat_part lenN, get_flat_drop lenN, len_flat lenN, slT, slI, rowsV, nxV, Nat.mul_one, tab_length, putV_tab, getV_tab, getV_tabO, getV_tabP, getV_tab1, get_mapI, get_mapI2, List.length_map, ibeq_dec, hjk, e1, hT, h1]
    (try simp (maxSteps := 2000000) -implicitDefEqProofs +contextual (disch := first | assumption | omega | decide +kernel) only [push_cast, ↓capI, br2_true, br2_false, frk_tt, frk_tf, frk_f, frkD_tt, frkD_tf, frkD_f, pk2_true, pk2_false, imp_true, seval, Nat.reduceLeDiff, Nat.reduceEqDiff, reduceCtorEq, ↓reduceIte, fmN, fm0, take_N, toN1, slN_nil, encN, slN, cfg0, get_flat_part lenN, get_flat_drop lenN, len_flat lenN, slT, slI, rowsV, nxV, Nat.mul_one, tab_length, putV_tab, getV_tab, getV_tabO, getV_tabP, getV_tab1, get_mapI, get_mapI2, List.length_map, ibeq_dec, hT, h1])
    first | refine callO.pc i3 ?_ | refine callG.pc1 i3 ?_ | trace_state
    simp (maxSteps := 2000000) -implicitDefEqProofs +contextual (disch := first | assumption | omega | decide +kernel) only [push_cast, ↓capI, br2_true, br2_false, frk_tt, frk_tf, frk_f, frkD_tt, frkD_tf, frkD_f, pk2_true, pk2_false, imp_true, seval, Nat.reduceLeDiff, Nat.reduceEqDiff, reduceCtorEq, ↓reduceIte, fmN, fm0, take_N, toN1, slN_nil, encN, slN, cfg0, get_flat_part lenN, get_flat_drop lenN, len_flat lenN, slT, slI, rowsV, nxV, Nat.mul_one, tab_length, putV_tab, getV_tab, getV_tabO, getV_tabP, getV_tab1, get_mapI, get_mapI2, List.length_map, ibeq_dec, e2, hU, hu]
    (try simp (maxSteps := 2000000) -implicitDefEqProofs +contextual (disch := first | assumption | omega | decide +kernel) only [push_cast, ↓capI, br2_true, br2_false, frk_tt, frk_tf, frk_f, frkD_tt, frkD_tf, frkD_f, pk2_true, pk2_false, imp_true, seval, Nat.reduceLeDiff, Nat.reduceEqDiff, reduceCtorEq, ↓reduceIte, fmN, fm0, take_N, toN1, slN_nil, encN, slN, cfg0, get_flat_part lenN, get_flat_drop lenN, len_flat lenN, slT, slI, rowsV, nxV, Nat.mul_one, tab_length, putV_tab, getV_tab, getV_tabO, getV_tabP, getV_tab1, get_mapI, get_mapI2, List.length_map, ibeq_dec, hU, hu])
    refine ⟨j + 1, ⟨by omega, fun j' g1 g2 g3 => by rcases Nat.lt_succ_iff_lt_or_eq.1 g2 with h | h; exact hno j' g1 h g3; rw [h, hu]; simp⟩, by (try simp only); omega, ?_⟩; exact Gn.canon (by first | rfl | (simp [slT, tab_length, rep_tab]; rfl)) (by simp [wk, slN, slT, slI, rowsV, nxV]) (by simp [tab_length]) (by simp [fmN, fm0, belN, bel_Ns, bel_slN, bel_slT, bel_tb, bel_slI, bel_I, bel_rowsV, bel_nx hg, bel_nxV hg]) (by simp [fmN, fm0, belN, bel_Ns, bel_slN, bel_slT, bel_tb, bel_slI, bel_I, bel_rowsV, bel_nx hg, bel_nxV hg])
  · have e : b = true := hb.2 ⟨j, hij, hjk, h1, hu⟩
    rw [e]
    simp (maxSteps := 2000000) -implicitDefEqProofs +contextual (disch := first | assumption | omega | decide +kernel) only [push_cast, ↓capI, br2_true, br2_false, frk_tt, frk_tf, frk_f, frkD_tt, frkD_tf, frkD_f, pk2_true, pk2_false, imp_true, seval, Nat.reduceLeDiff, Nat.reduceEqDiff, reduceCtorEq, ↓reduceIte, fmN, fm0, take_N, toN1, slN_nil, encN, slN, cfg0, get_flat_part lenN, get_flat_drop lenN, len_flat lenN, slT, slI, rowsV, nxV, Nat.mul_one, tab_length, putV_tab, getV_tab, getV_tabO, getV_tabP, getV_tab1, get_mapI, get_mapI2, List.length_map, ibeq_dec, hjk, e1, hT, h1]
    (try simp (maxSteps := 2000000) -implicitDefEqProofs +contextual (disch := first | assumption | omega | decide +kernel) only [push_cast, ↓capI, br2_true, br2_false, frk_tt, frk_tf, frk_f, frkD_tt, frkD_tf, frkD_f, pk2_true, pk2_false, imp_true, seval, Nat.reduceLeDiff, Nat.reduceEqDiff, reduceCtorEq, ↓reduceIte, fmN, fm0, take_N, toN1, slN_nil, encN, slN, cfg0, get_flat_part lenN, get_flat_drop lenN, len_flat lenN, slT, slI, rowsV, nxV, Nat.mul_one, tab_length, putV_tab, getV_tab, getV_tabO, getV_tabP, getV_tab1, get_mapI, get_mapI2, List.length_map, ibeq_dec, hT, h1])
    first | refine callO.pc i3 ?_ | refine callG.pc1 i3 ?_ | trace_state
    simp (maxSteps := 2000000) -implicitDefEqProofs +contextual (disch := first | assumption | omega | decide +kernel) only [push_cast, ↓capI, br2_true, br2_false, frk_tt, frk_tf, frk_f, frkD_tt, frkD_tf, frkD_f, pk2_true, pk2_false, imp_true, seval, Nat.reduceLeDiff, Nat.reduceEqDiff, reduceCtorEq, ↓reduceIte, fmN, fm0, take_N, toN1, slN_nil, encN, slN, cfg0, get_flat_part lenN, get_flat_drop lenN, len_flat lenN, slT, slI, rowsV, nxV, Nat.mul_one, tab_length, putV_tab, getV_tab, getV_tabO, getV_tabP, getV_tab1, get_mapI, get_mapI2, List.length_map, ibeq_dec, e2, hU, hu]
    (try simp (maxSteps := 2000000) -implicitDefEqProofs +contextual (disch := first | assumption | omega | decide +kernel) only [push_cast, ↓capI, br2_true, br2_false, frk_tt, frk_tf, frk_f, frkD_tt, frkD_tf, frkD_f, pk2_true, pk2_false, imp_true, seval, Nat.reduceLeDiff, Nat.reduceEqDiff, reduceCtorEq, ↓reduceIte, fmN, fm0, take_N, toN1, slN_nil, encN, slN, cfg0, get_flat_part lenN, get_flat_drop lenN, len_flat lenN, slT, slI, rowsV, nxV, Nat.mul_one, tab_length, putV_tab, getV_tab, getV_tabO, getV_tabP, getV_tab1, get_mapI, get_mapI2, List.length_map, ibeq_dec, hU, hu])
    refine endK.ret ?_ (by first | rfl | simp [fmN, fm0, belN, bel_Ns, bel_slN, bel_slT, bel_tb, bel_slI, bel_I, bel_rowsV, bel_nx hg, bel_nxV hg]); simp [evRes, getT, retV, Try.f48]
end Go.Proofs.Ytkjffppioddnpaa

/- Chapter 41: the matrices of the reference in plain terms. -/
set_option maxRecDepth 100000
set_option maxHeartbeats 4000000
set_option linter.all false
namespace Go.Proofs.Ytkjffppioddnpaa
open Go.Vm

open Classical in
/-- the matrix of an expression -/
noncomputable def Tq (p : Pr) (l : List Int) (i k : Nat) : Bool := decide (i ≤ k ∧ Mt p (part l i k))
open Classical in
theorem Tb_iff {p : Pr} {l : List Int} {i k : Nat} : Tq p l i k = true ↔ i ≤ k ∧ Mt p (part l i k) := by unfold Tq; exact decide_eq_true_iff
open Classical in
/-- the matrix of the expression at a place -/
noncomputable def TT (r : List Nd) (l : List Int) (j i k : Nat) : Bool := decide (∃ p t, okP 1000000000 p ∧ r.drop j = flat p ++ t ∧ i ≤ k ∧ Mt p (part l i k))
open Classical in
theorem TT_eq {r : List Nd} {l : List Int} {j : Nat} {p : Pr} {t : List Nd} (hp : okP 1000000000 p) (h : r.drop j = flat p ++ t) : TT r l j = Tq p l := by
  funext i k
  refine bool_ext (P := i ≤ k ∧ Mt p (part l i k)) ?_ Tb_iff
  unfold TT
  rw [decide_eq_true_iff]
  constructor
  · rintro ⟨q, u, hq, h2, h3⟩
    obtain ⟨e, _⟩ := flat_inj 1000000000 q p u t hq hp (by rw [← h2, h])
    rw [← e]
    exact h3
  · intro h3
    exact ⟨p, t, hp, h, h3⟩
theorem sub_ex : ∀ (p : Pr), okP 1000000000 p → ∀ j, j < (flat p).length → ∃ q t, okP 1000000000 q ∧ (flat p).drop j = flat q ++ t
  | p, hp, 0, _ => ⟨p, [], hp, by rw [List.drop_zero, List.append_nil]⟩
  | .leaf x, _, j + 1, h => by rw [flat, List.length_singleton] at h; omega
  | .un x p, hp, j + 1, h => by
    rw [flat, List.length_cons] at h
    obtain ⟨q, t, hq, e⟩ := sub_ex p hp.2 j (by omega)
    exact ⟨q, t, hq, by rw [flat, List.drop_succ_cons, e]⟩
  | .bin x p q, hp, j + 1, h => by
    rw [flat, List.length_cons, List.length_append] at h
    rw [flat, List.drop_succ_cons]
    show ∃ q' t, okP 1000000000 q' ∧ (flat p ++ flat q).drop j = flat q' ++ t
    by_cases hj : j < (flat p).length
    · obtain ⟨y, t, hy, e⟩ := sub_ex p hp.2.1 j hj
      exact ⟨y, t ++ flat q, hy, by rw [List.drop_append_of_le_length (by omega), e, List.append_assoc]⟩
    · obtain ⟨y, t, hy, e⟩ := sub_ex q hp.2.2 (j - (flat p).length) (by omega)
      refine ⟨y, t, hy, ?_⟩
      rw [List.drop_append, List.drop_of_length_le (by omega), List.nil_append, e]
theorem Wit_mono {R : Nat → Nat → Bool} {i k : Nat} : ∀ {m m' : Nat}, m ≤ m' → Wit R m i k = true → Wit R m' i k = true
  | m, 0, h, e => by
    have : m = 0 := by omega
    rw [this] at e
    exact e
  | m, m' + 1, h, e => by
    by_cases h2 : m = m' + 1
    · rw [← h2]; exact e
    · have := Wit_mono (m := m) (m' := m') (by omega) e
      rw [Wit, Wst, this]
      rfl
/-- closing a matrix gives the repetitions -/
theorem Wit_star {p : Pr} {l : List Int} {n : Nat} (hn : n = l.length + 1) {i k : Nat} (hi : i < n) (hk : k < n) :
    Wit (fun i k => decide (i = k) || Tq p l i k) n i k = true ↔ i ≤ k ∧ Star (Mt p) (part l i k) := by
  have R0 : ∀ i k, Wit (fun i k => decide (i = k) || Tq p l i k) 0 i k = true ↔ (i = k ∨ (i ≤ k ∧ Mt p (part l i k))) := by
    intro i k
    rw [Wit, Bool.or_eq_true, decide_eq_true_iff, Tb_iff]
  generalize hR : (fun i k => decide (i = k) || Tq p l i k) = R at R0 ⊢
  constructor
  · have key : ∀ m, m ≤ n → ∀ i k, i < n → k < n → Wit R m i k = true → i ≤ k ∧ Star (Mt p) (part l i k) := by
      intro m
      induction m with
      | zero =>
        intro _ i k hi hk h
        rcases (R0 i k).1 h with rfl | ⟨h1, h2⟩
        · exact ⟨Nat.le_refl _, by rw [part_self]; exact .nil⟩
        · exact ⟨h1, .one h2⟩
      | succ m ih =>
        intro hm i k hi hk h
        rw [Wit, Wst, Bool.or_eq_true, Bool.and_eq_true] at h
        rcases h with h | ⟨h1, h2⟩
        · exact ih (by omega) i k hi hk h
        · obtain ⟨a1, a2⟩ := ih (by omega) i m hi (by omega) h1
          obtain ⟨b1, b2⟩ := ih (by omega) m k (by omega) hk h2
          exact ⟨by omega, by rw [← part_app a1 b1 (by omega)]; exact a2.cat b2⟩
    exact key n (Nat.le_refl _) i k hi hk
  · rintro ⟨hik, hs⟩
    have key : ∀ k, k < n → ∀ i, i ≤ k → Star (Mt p) (part l i k) → ∀ m, k ≤ m → Wit R m i k = true := by
      intro k
      induction k using Nat.strongRecOn with
      | ind k ih =>
        intro hk i hik hs m hm
        rcases hs.last with h | ⟨u, v, e, hu, hv, hv0⟩
        · have hl := congrArg List.length h
          rw [part_len (by omega), List.length_nil] at hl
          exact Wit_mono (Nat.zero_le _) ((R0 i k).2 (.inl (by omega)))
        · obtain ⟨j, h3, h4, _, e1, e2⟩ := part_cut hik (by omega) e
          have hjk : j < k := by
            apply Decidable.byContradiction
            intro hc
            have : j = k := by omega
            rw [this, part_self] at e2
            exact hv0 e2.symm
          have w1 := ih j hjk (by omega) i h3 (by rw [e1]; exact hu) j (Nat.le_refl _)
          have w2 := Wit_mono (Nat.zero_le j) ((R0 j k).2 (.inr ⟨h4, by rw [e2]; exact hv⟩))
          refine Wit_mono (m := j + 1) (by omega) ?_
          rw [Wit, Wst, w1, w2, Bool.or_eq_true]
          exact .inr rfl
    exact key k hk i hik hs n (by omega)
theorem rows_ext {n : Nat} {R R' : Nat → Nat → Bool} (h : ∀ i k, i < n → k < n → R i k = R' i k) : tab n (rowO n R) = tab n (rowO n R') := by
  refine tab_ext fun i hi => ?_
  unfold rowO
  exact congrArg (Ob.cells 0) (tab_ext fun k hk => by rw [h i k hi hk])
/-- the matrix of the expression at a place, from those of the later ones -/
theorem rel33 (r : List Nd) (l : List Int) (n a : Nat) (g : Nat → V) (hg : ∀ k j, (g j).bel k = true) (p : Pr) (t : List Nd) (hp : okP 1000000000 p) (hx : r.drop a = flat p ++ t) (hgT : ∀ j, a < j → j < r.length → g j = rowsV n (TT r l j))
    (hn : n = l.length + 1) (hl : l.length ≤ 900) (hr : r.length ≤ 4000000) :
    PCJ Try.prog 32 [slN r, .int .i64 a, slI l, nxV r.length g] (.buf 0 n 0 n 1) (.cells n (tab n (bufR n)) :: tab n (rowO n (Tq p l))) := by
  have hlen := fun ha => drop_len (a := a) (l := r) ha hx
  cases p with
  | leaf x =>
    exact rel_plain r l r.length n a g hg x t hx (by have := hp.1; omega) (Tq (.leaf x) l) hn hl fun i k hi hk => pair_leaf r l r.length n a i k g hg x t hx hp.1 hn hi hk hl _ Tb_iff
  | un x q =>
    obtain ⟨ha, hX, h2⟩ := drop_cons (x := x) (r := flat q ++ t) (by rw [hx, flat, List.cons_append])
    have hl2 := drop_len ha h2
    have hq := flat_pos q
    have hT : g (a + 1) = rowsV n (Tq q l) := by rw [hgT (a + 1) (by omega) (by omega), TT_eq hp.2 h2]
    have h := rel_star r l r.length n a g hg x (flat q ++ t) (by rw [hx, flat, List.cons_append]) hp.1 (fun i k => decide (i = k) || Tq q l i k) hn hl fun i k hi hk => pair_star r l r.length n a i k g hg x (flat q ++ t) (by rw [hx, flat, List.cons_append]) hp.1 (Tq q l) (by omega) hT hn hi hk hl hr
    rw [rows_ext (R' := Tq (.un x q) l) fun i k hi hk => bool_ext (Wit_star hn hi hk) Tb_iff] at h
    exact h
  | bin x q s =>
    obtain ⟨ha, hX, h2⟩ := drop_cons (x := x) (r := flat q ++ (flat s ++ t)) (by rw [hx, flat, List.cons_append, List.append_assoc])
    have hl2 := drop_len ha h2
    have h3 := drop_app h2
    have hq := flat_pos q
    have hs := flat_pos s
    have hl3 := drop_len (by omega) h3
    have hT : g (a + 1) = rowsV n (Tq q l) := by rw [hgT (a + 1) (by omega) (by omega), TT_eq hp.2.1 h2]
    have hU : g (a + 1 + (flat q).length) = rowsV n (Tq s l) := by rw [hgT _ (by omega) (by omega), TT_eq hp.2.2 h3]
    refine rel_plain r l r.length n a g hg x (flat q ++ (flat s ++ t)) (by rw [hx, flat, List.cons_append, List.append_assoc]) (by have := hp.1; omega) (Tq (.bin x q s) l) hn hl fun i k hi hk => ?_
    by_cases h5 : x.op = 5
    · have h := pair_alt r l r.length n a i k g hg x q s t hp.2.1 hx h5 (Tq q l) (Tq s l) (by omega) hT hU hi hk hr
      have e : (Tq q l i k || Tq s l i k) = Tq (.bin x q s) l i k := by
        refine bool_ext Iff.rfl ?_
        rw [Bool.or_eq_true, Tb_iff, Tb_iff, Tb_iff, Mt, if_pos h5]
        constructor
        · rintro ⟨h1, h | h⟩
          · exact .inl ⟨h1, h⟩
          · exact .inr ⟨h1, h⟩
        · rintro (⟨h1, h⟩ | ⟨h1, h⟩)
          · exact ⟨h1, .inl h⟩
          · exact ⟨h1, .inr h⟩
      rw [e] at h
      exact h
    · refine pair_cat r l r.length n a i k g hg x q s t hp.2.1 hx (by have := hp.1; omega) (Tq q l) (Tq s l) (by omega) hT hU hi hk (by omega) hr _ (Tb_iff.trans ?_)
      rw [Mt, if_neg h5]
      simp only [Tb_iff]
      constructor
      · rintro ⟨h1, u, v, e, h4, h5⟩
        obtain ⟨j, h6, h7, _, e1, e2⟩ := part_cut h1 (by omega) e
        exact ⟨j, h6, h7, ⟨h6, by rw [e1]; exact h4⟩, h7, by rw [e2]; exact h5⟩
      · rintro ⟨j, h6, h7, ⟨_, h4⟩, _, h5⟩
        exact ⟨by omega, _, _, (part_app h6 h7 (by omega)).symm, h4, h5⟩
end Go.Proofs.Ytkjffppioddnpaa

/- Chapter 41: Matches, by the reference. -/
set_option maxRecDepth 100000
set_option maxHeartbeats 4000000
set_option linter.all false
namespace Go.Proofs.Ytkjffppioddnpaa
open Go.Vm

mutual
theorem V.bel_le {n m : Nat} (h : n ≤ m) : ∀ x : V, x.bel n = true → x.bel m = true
  | .buf i a b c d, hb => by rw [bel_buf, decide_eq_true_eq] at hb ⊢; omega
  | .ptr i a b, hb => by rw [bel_ptr, decide_eq_true_eq] at hb ⊢; omega
  | .mp i, hb => by rw [bel_mp, decide_eq_true_eq] at hb ⊢; omega
  | .agg vs, hb => by rw [bel_agg] at hb ⊢; exact belAll_le h vs hb
  | .tup vs, hb => by rw [bel_tup] at hb ⊢; exact belAll_le h vs hb
  | .sl b vs k, hb => by rw [bel_sl] at hb ⊢; exact belAll_le h vs hb
  | .fp vs, hb => by rw [bel_fp] at hb ⊢; exact belAll_le h vs hb
  | .ifc t v, hb => by rw [bel_ifc] at hb ⊢; exact V.bel_le h v hb
  | .opt t v, hb => by rw [bel_opt] at hb ⊢; exact V.bel_le h v hb
  | .fn f a b, hb => by
    rw [bel_fn, Bool.and_eq_true] at hb ⊢
    exact ⟨belAll_le h a hb.1, belAll_le h b hb.2⟩
  | .int _ _, _ => by simp only [V.bel]
  | .bool _, _ => by simp only [V.bel]
  | .str _, _ => by simp only [V.bel]
  | .nilp, _ => by simp only [V.bel]
  | .nili, _ => by simp only [V.bel]
  | .nilf, _ => by simp only [V.bel]
  | .nilm, _ => by simp only [V.bel]
  | .dead, _ => by simp only [V.bel]
theorem belAll_le {n m : Nat} (h : n ≤ m) : ∀ xs : List V, belAll n xs = true → belAll m xs = true
  | [], _ => belAll_nil
  | x :: xs, hb => by
    rw [belAll_cons, Bool.and_eq_true] at hb ⊢
    exact ⟨V.bel_le h x hb.1, belAll_le h xs hb.2⟩
end
theorem shs_tab {k n : Nat} {f : Nat → V} : shs k (tab n f) = tab n fun i => (f i).sh k := by rw [shs_map, tab_map]
theorem shOs_map {k : Nat} : ∀ xs : List Ob, shOs k xs = xs.map (Ob.sh k)
  | [] => rfl
  | x :: xs => by rw [shOs, shOs_map xs]; rfl
theorem shOs_tab {k n : Nat} {f : Nat → Ob} : shOs k (tab n f) = tab n fun i => (f i).sh k := by rw [shOs_map, tab_map]
theorem sh_cells {k v : Nat} {l : List V} : (Ob.cells v l).sh k = .cells v (shs k l) := by rw [Ob.sh]
theorem sh_rowO {k n : Nat} {R : Nat → Nat → Bool} {i : Nat} : (rowO n R i).sh k = rowO n R i := by rw [rowO, Ob.sh, shs_tb]
/-- the rows of a matrix let go, one behind the other -/
theorem frzRows {m n ver : Nat} {tm L : List V} {R : Nat → Nat → Bool} (ht : belAll 2 tm = true) (hL : belAll 2 L = true) : ∀ j, j ≤ n →
    Gn m ⟨tm, .cells 0 L :: .cells ver (tab n fun i => .buf (2 + i) 0 0 n 1) :: tab n (rowO n R)⟩
      ⟨tm, .cells 0 L :: .cells ver (tab n fun i => if i < j then slT n (R i) else .buf (2 + i) 0 0 n 1) :: tab n fun i => if i < j then .dead else rowO n R i⟩
  | 0, _ => by
    have e1 : (tab n fun i => if i < 0 then slT n (R i) else V.buf (2 + i) 0 0 n 1) = tab n fun i => V.buf (2 + i) 0 0 n 1 := tab_ext fun i _ => if_neg (Nat.not_lt_zero i)
    have e2 : (tab n fun i => if i < 0 then Ob.dead else rowO n R i) = tab n (rowO n R) := tab_ext fun i _ => if_neg (Nat.not_lt_zero i)
    rw [e1, e2]
    exact Gn.refl _ _
  | j + 1, hj => by
    refine (frzRows ht hL j (by omega)).trans ?_
    have hg : getO (.cells 0 L :: .cells ver (tab n fun i => if i < j then slT n (R i) else .buf (2 + i) 0 0 n 1) :: tab n fun i => if i < j then .dead else rowO n R i) (2 + j) = .cells 0 (tab n fun k => .bool (R j k)) := by
      rw [show 2 + j = j + 1 + 1 by omega, getO, getO, getO_tabN (by omega), if_neg (Nat.lt_irrefl j)]
      rfl
    refine (Gn.freeze (id := 2 + j) hg).trans ?_
    have e0 : fzs (2 + j) 0 (tab n fun k => .bool (R j k)) tm = tm := fzs_lt _ (belAll_le (by omega) _ ht)
    have e1 : fzs (2 + j) 0 (tab n fun k => .bool (R j k)) L = L := fzs_lt _ (belAll_le (by omega) _ hL)
    have e2 : fzs (2 + j) 0 (tab n fun k => .bool (R j k)) (tab n fun i => if i < j then slT n (R i) else .buf (2 + i) 0 0 n 1) = tab n fun i => if i < j + 1 then slT n (R i) else .buf (2 + i) 0 0 n 1 := by
      rw [fzs_tab]
      refine tab_ext fun i hi => ?_
      by_cases h : i < j
      · rw [if_pos h, if_pos (by omega), fz_lt _ bel_slT]
      · rw [if_neg h]
        by_cases h2 : i = j
        · subst h2
          rw [if_pos (by omega)]
          simp only [fz, Nat.beq_refl, List.drop_zero, Nat.mul_one, take_tb]
          rfl
        · have hb : Nat.beq (2 + i) (2 + j) = false := by
            cases hb : Nat.beq (2 + i) (2 + j) with
            | false => rfl
            | true => have := Nat.eq_of_beq_eq_true hb; omega
          rw [if_neg (by omega)]
          simp only [fz, hb]
    have e3 : fzH (2 + j) 0 (tab n fun k => .bool (R j k)) (tab n fun i => if i < j then Ob.dead else rowO n R i) = tab n fun i => if i < j then Ob.dead else rowO n R i := by
      refine fzH_lt (belObs_tabN fun i _ => ?_)
      split
      · exact belO_dead
      · exact bel_tb
    rw [e0, fzH, e1, fzH, e2, e3, show 2 + j = j + 1 + 1 by omega, setO, setO, setO_tabN]
    have e4 : (tab n fun k => if k = j then Ob.dead else if k < j then Ob.dead else rowO n R k) = tab n fun i => if i < j + 1 then Ob.dead else rowO n R i := by
      refine tab_ext fun i _ => ?_
      by_cases h : i = j
      · rw [if_pos h, if_pos (by omega)]
      · rw [if_neg h]
        by_cases h2 : i < j
        · rw [if_pos h2, if_pos (by omega)]
        · rw [if_neg h2, if_neg (by omega)]
    rw [e4]
    exact Gn.refl _ _
theorem frzMat {m n ver : Nat} {tm tm2 L L2 : List V} {R : Nat → Nat → Bool} (hw : wk tm tm2) (ht : belAll 1 tm2 = true) (hL : belAll 2 L = true) (hL2 : fzs 1 ver (tab n fun i => slT n (R i)) L = L2) (hb : belAll 1 L2 = true) (hm : m ≤ 1) :
    Gn m ⟨tm, .cells 0 L :: .cells ver (tab n fun i => .buf (2 + i) 0 0 n 1) :: tab n (rowO n R)⟩ ⟨tm2, [.cells 0 L2]⟩ := by
  refine (Gn.weak hw).trans ((frzRows (belAll_le (by omega) _ ht) hL n (Nat.le_refl n)).trans ?_)
  have e1 : (tab n fun i => if i < n then slT n (R i) else V.buf (2 + i) 0 0 n 1) = tab n fun i => slT n (R i) := tab_ext fun i hi => if_pos hi
  have e2 : (tab n fun i => if i < n then Ob.dead else rowO n R i) = tab n fun _ => Ob.dead := tab_ext fun i hi => if_pos hi
  rw [e1, e2]
  refine (Gn.freeze (id := 1) (ver := ver) (l := tab n fun i => slT n (R i)) rfl).trans ?_
  have e0 : fzs 1 ver (tab n fun i => slT n (R i)) tm2 = tm2 := fzs_lt _ ht
  have e3 : fzH 1 ver (tab n fun i => slT n (R i)) (tab n fun _ => Ob.dead) = tab n fun _ => Ob.dead := fzH_lt (belObs_tabN fun _ _ => belO_dead)
  rw [e0, fzH, hL2, fzH, e3, setO, setO]
  exact Gn.canon (J := .dead :: tab n fun _ => .dead) rfl (by
    have : ∀ xs : List V, wk xs xs := by
      intro xs
      induction xs with
      | nil => exact trivial
      | cons x xs ih => exact ⟨.inr rfl, ih⟩
    exact this _) (by simpa using hm) ht (by simp only [List.length_singleton, belObs_cons, belObs_nil, belO_cells, hb, Bool.and_true])
/-- the matrices that are there from a place on -/
def allM (r : List Nd) (n : Nat) (T : Nat → Nat → Nat → Bool) (a j : Nat) : V := if a ≤ j then rowsV n (T j) else .sl true [] 0
theorem bel_allV {r : List Nd} {n k a j : Nat} {T : Nat → Nat → Nat → Bool} : (allM r n T a j).bel k = true := by
  unfold allM
  split
  · exact bel_rowsV
  · rfl
theorem bel_allM {r : List Nd} {n k a m : Nat} {T : Nat → Nat → Nat → Bool} : belAll k (tab m (allM r n T a)) = true := belAll_tab fun _ _ => bel_allV
theorem pur_buf {n k : Nat} : purs (tab k (bufR n)) = true := by
  have : ∀ xs : List V, (∀ x ∈ xs, x.pur = true) → purs xs = true := by
    intro xs
    induction xs with
    | nil => intro _; rfl
    | cons x xs ih => intro h; rw [purs, h x (by simp), ih fun y hy => h y (by simp [hy])]; rfl
  refine this _ fun x hx => ?_
  obtain ⟨i, _, rfl⟩ := tab_mem.1 hx
  rfl
theorem pur_rows {n k : Nat} {R : Nat → Nat → Bool} : pursO (tab k (rowO n R)) = true := by
  have : ∀ xs : List Ob, (∀ x ∈ xs, x.pur = true) → pursO xs = true := by
    intro xs
    induction xs with
    | nil => intro _; rfl
    | cons x xs ih => intro h; rw [pursO, h x (by simp), ih fun y hy => h y (by simp [hy])]; rfl
  refine this _ fun x hx => ?_
  obtain ⟨i, _, rfl⟩ := tab_mem.1 hx
  exact pur_tb
theorem pc13 (r : List Nd) (l : List Int) (hr : r.length ≤ 4000000) (hl : l.length ≤ 900) : PC Try.prog 13 [slN r, slI l] (.bool (mtL r l)) := by
  have h30 := pc31 r hr
  by_cases hc : checkP 1000000000 r = 0
  case neg =>
    rw [mtL_no hc]
    rw [decide_eq_false hc] at h30
    refine PC.walk tok mixed cfg0 Try.func13 rfl Try.call13 (by simp [fmN, fm0, belN, bel_Ns, bel_slN, bel_slT, bel_tb, bel_slI, bel_I, bel_allM]) (by first | rfl | simp [fmN, fm0, belN, bel_Ns, bel_slN, bel_slT, bel_tb, bel_slI, bel_I, bel_allM]) ?_; simp (maxSteps := 2000000) -implicitDefEqProofs +contextual (disch := first | assumption | omega | decide +kernel) only [push_cast, ↓capI, br2_true, br2_false, frk_tt, frk_tf, frk_f, frkD_tt, frkD_tf, frkD_f, pk2_true, pk2_false, imp_true, seval, Nat.reduceLeDiff, Nat.reduceEqDiff, reduceCtorEq, ↓reduceIte, fmN, fm0, take_N, toN1, slN_nil, encN, slN, cfg0, get_flat_part lenN, get_flat_drop lenN, len_flat lenN, slT, slI, rowsV, Nat.mul_one, tab_length, putV_tab, getV_tab, getV_tabO, getV_tabP, getV_tab1, get_mapI, get_mapI2, List.length_map, ibeq_dec, Try.ntmps13]
    refine callO.pc h30 ?_
    simp (maxSteps := 2000000) -implicitDefEqProofs +contextual (disch := first | assumption | omega | decide +kernel) only [push_cast, ↓capI, br2_true, br2_false, frk_tt, frk_tf, frk_f, frkD_tt, frkD_tf, frkD_f, pk2_true, pk2_false, imp_true, seval, Nat.reduceLeDiff, Nat.reduceEqDiff, reduceCtorEq, ↓reduceIte, fmN, fm0, take_N, toN1, slN_nil, encN, slN, cfg0, get_flat_part lenN, get_flat_drop lenN, len_flat lenN, slT, slI, rowsV, Nat.mul_one, tab_length, putV_tab, getV_tab, getV_tabO, getV_tabP, getV_tab1, get_mapI, get_mapI2, List.length_map, ibeq_dec]
    refine endK.ret ?_ (by first | rfl | simp [fmN, fm0, belN, bel_Ns, bel_slN, bel_slT, bel_tb, bel_slI, bel_I, bel_allM]); simp [evRes, getT, retV, Try.f13]
  rw [decide_eq_true hc] at h30
  obtain ⟨h24, p, hp, hf⟩ := checkP_tree hc
  have hpos := flat_pos p
  rw [← hf] at hpos
  have e : mtL r l = Tq p l 0 l.length := by
    rw [hf] at hc ⊢
    refine bool_ext (mtL_iff hp hc) (Tb_iff.trans ?_)
    rw [part_all]
    exact ⟨fun h => h.2, fun h => ⟨Nat.zero_le _, h⟩⟩
  have e0 : TT r l 0 = Tq p l := TT_eq (t := []) hp (by rw [List.drop_zero, List.append_nil, hf])
  obtain ⟨n, hn⟩ : ∃ n, n = l.length + 1 := ⟨_, rfl⟩
  refine PC.walk tok mixed cfg0 Try.func13 rfl Try.call13 (by simp [fmN, fm0, belN, bel_Ns, bel_slN, bel_slT, bel_tb, bel_slI, bel_I, bel_allM]) (by first | rfl | simp [fmN, fm0, belN, bel_Ns, bel_slN, bel_slT, bel_tb, bel_slI, bel_I, bel_allM]) ?_; simp (maxSteps := 2000000) -implicitDefEqProofs +contextual (disch := first | assumption | omega | decide +kernel) only [push_cast, ↓capI, br2_true, br2_false, frk_tt, frk_tf, frk_f, frkD_tt, frkD_tf, frkD_f, pk2_true, pk2_false, imp_true, seval, Nat.reduceLeDiff, Nat.reduceEqDiff, reduceCtorEq, ↓reduceIte, fmN, fm0, take_N, toN1, slN_nil, encN, slN, cfg0, get_flat_part lenN, get_flat_drop lenN, len_flat lenN, slT, slI, rowsV, Nat.mul_one, tab_length, putV_tab, getV_tab, getV_tabO, getV_tabP, getV_tab1, get_mapI, get_mapI2, List.length_map, ibeq_dec, Try.ntmps13]
  refine callO.pc h30 ?_
  simp (maxSteps := 2000000) -implicitDefEqProofs +contextual (disch := first | assumption | omega | decide +kernel) only [push_cast, ↓capI, br2_true, br2_false, frk_tt, frk_tf, frk_f, frkD_tt, frkD_tf, frkD_f, pk2_true, pk2_false, imp_true, seval, Nat.reduceLeDiff, Nat.reduceEqDiff, reduceCtorEq, ↓reduceIte, fmN, fm0, take_N, toN1, slN_nil, encN, slN, cfg0, get_flat_part lenN, get_flat_drop lenN, len_flat lenN, slT, slI, rowsV, Nat.mul_one, tab_length, putV_tab, getV_tab, getV_tabO, getV_tabP, getV_tab1, get_mapI, get_mapI2, List.length_map, ibeq_dec, rep_tab]
  refine T.lp tok mixed cfg0 (fun (a : Nat) => kp 2 (dd 3 (kp 1 (sv (.int .i64 ((a : Int) - 1)) (dd 30 (nl)))))) (fun H0 (a : Nat) => [.cells 0 (tab r.length (allM r n (TT r l) a))]) (fun (a : Nat) => a ≤ r.length) (fun (a : Nat) => a) (r.length) ?_ ?_ ?_
  · exact Nat.le_refl _
  · have e2 : tab r.length (allM r n (TT r l) r.length) = tab r.length fun _ => .sl true [] 0 := tab_ext fun j hj => if_neg (by omega)
    rw [e2]
    exact Gn.canon (J := []) (by first | rfl | (simp [slT, tab_length, rep_tab]; done) | (simp [slT, tab_length, rep_tab]; rfl)) (by simp [wk, slN, slT, slI, putT, kp, dd, sv, nl]) (by simp [tab_length]) (by simp [fmN, fm0, belN, bel_Ns, bel_slN, bel_slT, bel_tb, bel_slI, bel_I, bel_allM, kp, dd, sv, nl]) (by simp [fmN, fm0, belN, bel_Ns, bel_slN, bel_slT, bel_tb, bel_slI, bel_I, bel_allM])
  intro a ha
  cases a with
  | zero =>
    rw [e, ← e0]
    have a0 : allM r n (TT r l) 0 0 = rowsV n (TT r l 0) := if_pos (Nat.zero_le _)
    have hn0 : 0 < n := by omega
    have hln : l.length < n := by omega
    simp (maxSteps := 2000000) -implicitDefEqProofs +contextual (disch := first | assumption | omega | decide +kernel) only [push_cast, ↓capI, br2_true, br2_false, frk_tt, frk_tf, frk_f, frkD_tt, frkD_tf, frkD_f, pk2_true, pk2_false, imp_true, seval, Nat.reduceLeDiff, Nat.reduceEqDiff, reduceCtorEq, ↓reduceIte, fmN, fm0, take_N, toN1, slN_nil, encN, slN, cfg0, get_flat_part lenN, get_flat_drop lenN, len_flat lenN, slT, slI, rowsV, Nat.mul_one, tab_length, putV_tab, getV_tab, getV_tabO, getV_tabP, getV_tab1, get_mapI, get_mapI2, List.length_map, ibeq_dec, a0]
    (try simp (maxSteps := 2000000) -implicitDefEqProofs +contextual (disch := first | assumption | omega | decide +kernel) only [push_cast, ↓capI, br2_true, br2_false, frk_tt, frk_tf, frk_f, frkD_tt, frkD_tf, frkD_f, pk2_true, pk2_false, imp_true, seval, Nat.reduceLeDiff, Nat.reduceEqDiff, reduceCtorEq, ↓reduceIte, fmN, fm0, take_N, toN1, slN_nil, encN, slN, cfg0, get_flat_part lenN, get_flat_drop lenN, len_flat lenN, slT, slI, rowsV, Nat.mul_one, tab_length, putV_tab, getV_tab, getV_tabO, getV_tabP, getV_tab1, get_mapI, get_mapI2, List.length_map, ibeq_dec, a0])
    refine endK.ret ?_ (by first | rfl | simp [fmN, fm0, belN, bel_Ns, bel_slN, bel_slT, bel_tb, bel_slI, bel_I, bel_allM]); simp [evRes, getT, retV, Try.f13]
  | succ b =>
    obtain ⟨q, t, hq, hx⟩ := sub_ex p hp b (by rw [← hf]; omega)
    rw [← hf] at hx
    have h33 := rel33 r l n b (allM r n (TT r l) (b + 1)) (fun k j => bel_allV) q t hq hx (fun j h1 _ => if_pos h1) hn hl hr
    rw [← TT_eq hq hx] at h33
    have hbr : brws [.cells 0 (tab r.length (allM r n (TT r l) (b + 1)))] [slN r, .int .i64 b, slI l, .buf 0 0 0 r.length 1] = [slN r, .int .i64 b, slI l, nxV r.length (allM r n (TT r l) (b + 1))] := by
      simp only [brws, brw, getO, slN, slI, Nat.beq, List.drop_zero, Nat.mul_one, take_tb, nxV]
    have hL : belAll 2 (tab r.length fun k => if k = b then V.buf 1 n 0 n 1 else allM r n (TT r l) (b + 1) k) = true := belAll_tab fun j _ => by
      split
      · rfl
      · exact bel_allV
    have hL2 : fzs 1 n (tab n fun i => slT n (TT r l b i)) (tab r.length fun k => if k = b then V.buf 1 n 0 n 1 else allM r n (TT r l) (b + 1) k) = tab r.length (allM r n (TT r l) b) := by
      rw [fzs_tab]
      refine tab_ext fun j _ => ?_
      by_cases h : j = b
      · rw [if_pos h, h, allM, if_pos (Nat.le_refl _)]
        simp only [fz, Nat.beq_refl, List.drop_zero, Nat.mul_one, take_tb]
        rfl
      · rw [if_neg h, fz_lt _ bel_allV, allM, allM]
        by_cases h2 : b ≤ j
        · rw [if_pos (by omega), if_pos h2]
        · rw [if_neg (by omega), if_neg h2]
    simp (maxSteps := 2000000) -implicitDefEqProofs +contextual (disch := first | assumption | omega | decide +kernel) only [push_cast, ↓capI, br2_true, br2_false, frk_tt, frk_tf, frk_f, frkD_tt, frkD_tf, frkD_f, pk2_true, pk2_false, imp_true, seval, Nat.reduceLeDiff, Nat.reduceEqDiff, reduceCtorEq, ↓reduceIte, fmN, fm0, take_N, toN1, slN_nil, encN, slN, cfg0, get_flat_part lenN, get_flat_drop lenN, len_flat lenN, slT, slI, rowsV, Nat.mul_one, tab_length, putV_tab, getV_tab, getV_tabO, getV_tabP, getV_tab1, get_mapI, get_mapI2, List.length_map, ibeq_dec, Int.add_sub_cancel]
    refine callO.lent (by rw [List.nil_append, List.append_nil]; exact hbr ▸ h33) (by rw [List.nil_append, List.append_nil]; exact (congrArg (belAll 0) hbr).trans (by simp [fmN, fm0, belN, bel_Ns, bel_slN, bel_slT, bel_tb, bel_slI, bel_I, bel_allM, nxV])) rfl (by simp [pursO, Ob.pur, pur_buf, pur_rows]) ?_
    simp (maxSteps := 2000000) -implicitDefEqProofs +contextual (disch := first | assumption | omega | decide +kernel) only [push_cast, ↓capI, br2_true, br2_false, frk_tt, frk_tf, frk_f, frkD_tt, frkD_tf, frkD_f, pk2_true, pk2_false, imp_true, seval, Nat.reduceLeDiff, Nat.reduceEqDiff, reduceCtorEq, ↓reduceIte, fmN, fm0, take_N, toN1, slN_nil, encN, slN, cfg0, get_flat_part lenN, get_flat_drop lenN, len_flat lenN, slT, slI, rowsV, Nat.mul_one, tab_length, putV_tab, getV_tab, getV_tabO, getV_tabP, getV_tab1, get_mapI, get_mapI2, List.length_map, ibeq_dec, V.sh, shs, shOs, sh_cells, shs_tab, shOs_tab, rowO, bufR]
    refine ⟨b, by omega, Nat.lt_succ_self b, ?_⟩
    have eb : ∀ i, 1 + (i + 1) = 2 + i := fun i => by omega
    simp only [eb]
    refine frzMat (R := TT r l b) ?_ ?_ hL hL2 bel_allM (Nat.le_refl _)
    · simp [wk, slN, slT, slI]
    · simp [fmN, fm0, belN, bel_Ns, bel_slN, bel_slT, bel_tb, bel_slI, bel_I, bel_allM]
end Go.Proofs.Ytkjffppioddnpaa


/-
  Joined by a program from the texts Lg Rend Ends Ends2 Rw5 Rwk Law Drl.
-/
import Derived.Test.YticeakkgoafiaaaMb
import Derived.Test.YticeakkgoafiaaaMd
import Derived.Test.YticeakkgoafiaaaMf
import Derived.Test.YticeakkgoafiaaaVm9
import Derived.Test.YticeakkgoafiaaaMa
import Derived.Test.YticeakkgoafiaaaRows
import Derived.Test.YticeakkgoafiaaaVm7
import Derived.Test.YticeakkgoafiaaaMe
/- Chapter 41: the lists that an expression matches, in plain terms. -/
set_option maxRecDepth 100000
set_option maxHeartbeats 4000000
set_option linter.all false
namespace Go.Proofs.Yticeakkgoafiaaa
open Go.Vm
inductive Star (L : List Int → Prop) : List Int → Prop
 | nil : Star L []
 | app {u v : List Int} : L u → Star L v → Star L (u ++ v)
theorem Star.one {L : List Int → Prop} {u : List Int} (h : L u) : Star L u := by
 have := Star.app h Star.nil
 rwa [List.append_nil] at this
theorem Star.cat {L : List Int → Prop} {u v : List Int} (h : Star L u) (h2 : Star L v) : Star L (u ++ v) := by
 induction h with
 | nil => exact h2
 | app hu _ ih => rw [List.append_assoc]; exact .app hu ih
theorem Star.mono {L L' : List Int → Prop} (h : ∀ w, L w → L' w) {w : List Int} (hw : Star L w) : Star L' w := by
 induction hw with
 | nil => exact .nil
 | app hu _ ih => exact .app (h _ hu) ih
theorem Star.idem {L : List Int → Prop} {w : List Int} (hw : Star (Star L) w) : Star L w := by
 induction hw with
 | nil => exact .nil
 | app hu _ ih => exact hu.cat ih
theorem Star.last {L : List Int → Prop} {w : List Int} (h : Star L w) : w = [] ∨ ∃ u v, w = u ++ v ∧ Star L u ∧ L v ∧ v ≠ [] := by
 induction h with
 | nil => exact .inl rfl
 | @app u v hu hv ih =>
  rcases ih with rfl | ⟨a, b, rfl, ha, hb, hn⟩
  ·cases u with
   | nil => exact .inl rfl
   | cons x u => exact .inr ⟨[], x :: u, by simp, .nil, hu, List.cons_ne_nil _ _⟩
  ·exact .inr ⟨u ++ a, b, by rw [List.append_assoc], .app hu ha, hb, hn⟩
theorem Star.first {L : List Int → Prop} {w : List Int} (h : Star L w) : w = [] ∨ ∃ u v, w = u ++ v ∧ L u ∧ Star L v ∧ u ≠ [] := by
 induction h with
 | nil => exact .inl rfl
 | @app u v hu hv ih =>
  cases u with
  | nil => exact ih
  | cons x u => exact .inr ⟨x :: u, v, rfl, hu, hv, List.cons_ne_nil _ _⟩
def Mt : Pr → List Int → Prop
 | .leaf x, w => if x.op = 1 then w = [] else if x.op = 2 then w.length = 1 else w = [nN x]
 | .un _ p, w => Star (Mt p) w
 | .bin x p q, w => if x.op = 5 then Mt p w ∨ Mt q w else ∃ u v, w = u ++ v ∧ Mt p u ∧ Mt q v
def part (l : List Int) (i k : Nat) : List Int := (l.drop i).take (k - i)
theorem part_len {l : List Int} {i k : Nat} (hk : k ≤ l.length) : (part l i k).length = k - i := by
 rw [part, List.length_take, List.length_drop]
 omega
theorem part_self {l : List Int} {i : Nat} : part l i i = [] := by rw [part, Nat.sub_self, List.take_zero]
theorem part_all {l : List Int} : part l 0 l.length = l := by rw [part, List.drop_zero, Nat.sub_zero, List.take_length]
theorem part_app {l : List Int} {i j k : Nat} (h1 : i ≤ j) (h2 : j ≤ k) (hk : k ≤ l.length) : part l i j ++ part l j k = part l i k := by
 have e : k - i = (j - i) + (k - j) := by omega
 rw [part, part, part, e, List.take_add, List.drop_drop, show i + (j - i) = j by omega]
theorem part_cut {l : List Int} {i k : Nat} (hik : i ≤ k) (hk : k ≤ l.length) {u v : List Int} (h : part l i k = u ++ v) : ∃ j, i ≤ j ∧ j ≤ k ∧ j = i + u.length ∧ part l i j = u ∧ part l j k = v := by
 have hl := congrArg List.length h
 rw [part_len hk, List.length_append] at hl
 have h1 : i ≤ i + u.length := Nat.le_add_right _ _
 have h2 : i + u.length ≤ k := by omega
 have e := part_app h1 h2 hk
 rw [h] at e
 have hlen : (part l i (i + u.length)).length = u.length := by rw [part_len (by omega)]; omega
 obtain ⟨e1, e2⟩ := List.append_inj e hlen
 exact ⟨i + u.length, h1, h2, rfl, e1, e2⟩
theorem part_one {l : List Int} {i : Nat} (h : i < l.length) : part l i (i + 1) = [l[i]] := by
 rw [part, List.drop_eq_getElem_cons h, show i + 1 - i = 0 + 1 by omega, List.take_succ_cons, List.take_zero]
def Ends (p : Pr) (l : List Int) (f : Nat → Bool) (k : Nat) : Prop := ∃ i, i ≤ k ∧ f i = true ∧ Mt p (part l i k)
open Classical in
noncomputable def endsG (p : Pr) (l : List Int) (f : Nat → Bool) (k : Nat) : Bool := decide (Ends p l f k)
open Classical in
theorem endsG_iff {p : Pr} {l : List Int} {f : Nat → Bool} {k : Nat} : endsG p l f k = true ↔ Ends p l f k := by
 unfold endsG
 exact decide_eq_true_iff
theorem bool_ext {a b : Bool} {P : Prop} (ha : a = true ↔ P) (hb : b = true ↔ P) : a = b := Bool.eq_iff_iff.2 (ha.trans hb.symm)
theorem ends_cat {x : Nd} {p q : Pr} (h : ¬ x.op = 5) {l : List Int} {f : Nat → Bool} {k : Nat} (hk : k ≤ l.length) : endsG q l (endsG p l f) k = endsG (.bin x p q) l f k := by
 refine bool_ext endsG_iff (endsG_iff.trans ?_)
 simp only [Ends, endsG_iff, Mt, if_neg h]
 constructor
 ·rintro ⟨i, hik, hf, u, v, e, h1, h2⟩
  obtain ⟨j, h3, h4, _, e1, e2⟩ := part_cut hik hk e
  exact ⟨j, h4, ⟨i, h3, hf, by rw [e1]; exact h1⟩, by rw [e2]; exact h2⟩
 ·rintro ⟨j, hjk, ⟨i, hij, hf, h1⟩, h2⟩
  exact ⟨i, by omega, hf, part l i j, part l j k, (part_app hij hjk hk).symm, h1, h2⟩
theorem ends_alt {x : Nd} {p q : Pr} (h : x.op = 5) {l : List Int} {f : Nat → Bool} {k : Nat} : (endsG p l f k || endsG q l f k) = endsG (.bin x p q) l f k := by
 refine bool_ext Iff.rfl ?_
 rw [endsG_iff, Bool.or_eq_true, endsG_iff, endsG_iff]
 simp only [Ends, Mt, if_pos h]
 constructor
 ·rintro ⟨i, hik, hf, h1 | h1⟩
  ·exact .inl ⟨i, hik, hf, h1⟩
  ·exact .inr ⟨i, hik, hf, h1⟩
 ·rintro (⟨i, hik, hf, h1⟩ | ⟨i, hik, hf, h1⟩)
  ·exact ⟨i, hik, hf, .inl h1⟩
  ·exact ⟨i, hik, hf, .inr h1⟩
def core : Pr → Pr
 | .un _ p => core p
 | p => p
theorem core_star : ∀ (p : Pr) (w : List Int), Star (Mt p) w ↔ Star (Mt (core p)) w
 | .leaf _, _ => Iff.rfl
 | .bin _ _ _, _ => Iff.rfl
 | .un x p, w => by
  rw [core]
  refine Iff.trans ?_ (core_star p w)
  constructor
  ·intro h
   exact Star.idem (h.mono fun w hw => hw)
  ·intro h
   exact Star.one (show Mt (.un x p) w from h)
def Reach (c : Pr) (l : List Int) (f : Nat → Bool) (k : Nat) : Prop := ∃ i, i ≤ k ∧ f i = true ∧ Star (Mt c) (part l i k)
theorem reach_all {c : Pr} {l : List Int} {f out : Nat → Bool} (h0 : ∀ k, k ≤ l.length → f k = true → out k = true)
  (h1 : ∀ j k, j ≤ k → k ≤ l.length → out j = true → Mt c (part l j k) → out k = true) : ∀ k, k ≤ l.length → Reach c l f k → out k = true := by
 intro k
 induction k using Nat.strongRecOn with
 | ind k ih =>
  rintro hk ⟨i, hik, hf, hs⟩
  rcases hs.last with h | ⟨u, v, e, hu, hv, hn⟩
  ·have hl := congrArg List.length h
   rw [part_len hk, List.length_nil] at hl
   have : i = k := by omega
   rw [← this]
   exact h0 i (by omega) hf
  ·obtain ⟨j, h3, h4, _, e1, e2⟩ := part_cut hik hk e
   have hjk : j < k := by
    apply Decidable.byContradiction
    intro hc
    have : j = k := by omega
    rw [this, part_self] at e2
    exact hn e2.symm
   exact h1 j k h4 hk (ih j hjk (by omega) ⟨i, h3, hf, by rw [e1]; exact hu⟩) (by rw [e2]; exact hv)
theorem reach_step {c : Pr} {l : List Int} {f : Nat → Bool} {j k : Nat} (hjk : j ≤ k) (hk : k ≤ l.length) (h : Reach c l f j) (h2 : Mt c (part l j k)) : Reach c l f k := by
 obtain ⟨i, hij, hf, hs⟩ := h
 exact ⟨i, by omega, hf, by rw [← part_app hij hjk hk]; exact hs.cat (.one h2)⟩
theorem reach_star {x : Nd} {p : Pr} {l : List Int} {f : Nat → Bool} {k : Nat} : Reach (core p) l f k ↔ Ends (.un x p) l f k := by
 unfold Reach Ends
 constructor
 ·rintro ⟨i, h1, h2, h3⟩
  exact ⟨i, h1, h2, (core_star p _).2 h3⟩
 ·rintro ⟨i, h1, h2, h3⟩
  exact ⟨i, h1, h2, (core_star p _).1 h3⟩
def cntG (n : Nat) (g : Nat → Bool) : Nat := (List.range n).countP fun k => !g k
theorem cntG_mono {n : Nat} {g g' : Nat → Bool} (h : ∀ k, k < n → g k = true → g' k = true) : cntG n g' ≤ cntG n g := by
 unfold cntG
 refine List.countP_mono_left fun k hk he => ?_
 have := List.mem_range.1 hk
 cases hg : g k with
 | false => rfl
 | true => rw [h k this hg] at he; exact he
theorem cntG_lt : ∀ {n : Nat} {g g' : Nat → Bool}, (∀ k, k < n → g k = true → g' k = true) → (∃ k, k < n ∧ g k = false ∧ g' k = true) → cntG n g' < cntG n g
 | 0, _, _, _, ⟨_, h, _⟩ => absurd h (Nat.not_lt_zero _)
 | n + 1, g, g', h, ⟨k, hk, h1, h2⟩ => by
  have e : ∀ g : Nat → Bool, cntG (n + 1) g = cntG n g + (if g n = true then 0 else 1) := by
   intro g
   rw [cntG, List.range_succ, List.countP_append, List.countP_singleton, cntG]
   cases g n <;> rfl
  rw [e g, e g']
  by_cases hkn : k = n
  ·subst hkn
   have := cntG_mono (n := k) (g := g) (g' := g') (fun j hj => h j (by omega))
   rw [h1, h2]
   simp only [if_true, if_neg Bool.false_ne_true]
   omega
  ·have := cntG_lt (n := n) (g := g) (g' := g') (fun j hj => h j (by omega)) ⟨k, by omega, h1, h2⟩
   by_cases hg : g n = true
   ·rw [if_pos hg, if_pos (h n (by omega) hg)]
    omega
   ·rw [if_neg hg]
    split <;> omega
end Go.Proofs.Yticeakkgoafiaaa

/- Chapter 42: the reference's matching of chapter 41: rows of booleans. -/
set_option maxRecDepth 100000
set_option maxHeartbeats 4000000
set_option linter.all false
namespace Go.Proofs.Yticeakkgoafiaaa
open Go.Vm
def slT (n : Nat) (f : Nat → Bool) : V := .sl false (tab n fun i => .bool (f i)) n
@[simp] theorem bel_tb {m n : Nat} {f : Nat → Bool} : belAll m (tab n fun i => V.bool (f i)) = true := belAll_tab fun _ _ => rfl
@[simp] theorem bel_slT {m n : Nat} {f : Nat → Bool} : (slT n f).bel m = true := by rw [slT, bel_sl, bel_tb]
@[simp] theorem bel_I {m : Nat} {l : List Int} : belAll m (l.map (V.int .i64)) = true := belAll_map (fun _ => rfl) l
theorem get_mapI {l : List Int} {i : Nat} (h : i < l.length) : getV ((l.map (V.int .i64)).drop (i * 1)) 0 1 = [.int .i64 l[i]] := get_map0 l i h
theorem get_mapI2 {l : List Int} {i : Nat} (h : i < l.length) : getV ((l.map (V.int .i64)).drop i) 0 1 = [.int .i64 l[i]] := getV_map h
theorem getV_tab1 {n i : Nat} {g : Nat → V} (h : i < n) : getV ((tab n g).drop i) 0 1 = [g i] := by
 have := getV_tab (g := g) h
 rwa [Nat.mul_one] at this
theorem slT_ext {n : Nat} {f g : Nat → Bool} (h : ∀ i, i < n → f i = g i) : slT n f = slT n g := by
 unfold slT
 rw [tab_ext fun i hi => by rw [h i hi]]
theorem cell_step {n i : Nat} {h : Nat → Bool} {b : Bool} (hb : b = h i) : (tab n fun k => if k = i then V.bool b else V.bool (decide (k < i) && h k)) = tab n fun k => V.bool (decide (k < i + 1) && h k) := by
 refine tab_ext fun k _ => ?_
 by_cases e : k = i
 ·rw [if_pos e, e, hb, decide_eq_true (Nat.lt_succ_self i), Bool.true_and]
 ·rw [if_neg e]
  congr 2
  rw [decide_eq_decide]
  omega
theorem cell_zero {n : Nat} {h : Nat → Bool} : (tab n fun k => V.bool (decide (k < 0) && h k)) = tab n fun _ => V.bool false := tab_ext fun k _ => by simp
theorem cell_end {n : Nat} {h : Nat → Bool} : (tab n fun k => V.bool (decide (k < n) && h k)) = tab n fun k => V.bool (h k) := tab_ext fun k hk => by simp [hk]
theorem pur_tb {n : Nat} {f : Nat → Bool} : purs (tab n fun k => .bool (f k)) = true := by
 have : ∀ xs : List V, (∀ x ∈ xs, x.pur = true) → purs xs = true := by
  intro xs
  induction xs with
  | nil => intro _; rfl
  | cons x xs ih => intro h; rw [purs, h x (by simp), ih fun y hy => h y (by simp [hy])]; rfl
 refine this _ fun x hx => ?_
 obtain ⟨i, _, rfl⟩ := tab_mem.1 hx
 rfl
theorem shs_tb {k n : Nat} {f : Nat → Bool} : shs k (tab n fun i => .bool (f i)) = tab n fun i => .bool (f i) := shs_ok bel_tb
theorem fzs_tb {id ver n : Nat} {c : List V} {f : Nat → Bool} : fzs id ver c (tab n fun i => .bool (f i)) = tab n fun i => .bool (f i) := fzs_lt _ bel_tb
theorem take_tb {n : Nat} {f : Nat → V} : (tab n f).take n = tab n f := List.take_of_length_le (by rw [tab_length]; exact Nat.le_refl _)
theorem cell_stepN {n i : Nat} {h : Nat → Bool} (hb : h (i + 1) = false) : (tab n fun k => V.bool (decide (k < i + 1) && h k)) = tab n fun k => V.bool (decide (k < i + 2) && h k) := by
 refine tab_ext fun k _ => ?_
 by_cases e : k = i + 1
 ·rw [e, hb, Bool.and_false, Bool.and_false]
 ·congr 2
  rw [decide_eq_decide]
  omega
theorem cell_keep {n i : Nat} {h : Nat → Bool} (hb : h i = false) : (tab n fun k => V.bool (decide (k < i) && h k)) = tab n fun k => V.bool (decide (k < i + 1) && h k) := by
 refine tab_ext fun k _ => ?_
 by_cases e : k = i
 ·rw [e, hb, Bool.and_false, Bool.and_false]
 ·congr 2
  rw [decide_eq_decide]
  omega
theorem fzs_Ns {id ver : Nat} {c : List V} {l : List Nd} : fzs id ver c (l.flatMap encN) = l.flatMap encN := fzs_lt _ (bel_Ns l)
theorem fzs_I {id ver : Nat} {c : List V} {l : List Int} : fzs id ver c (l.map (V.int .i64)) = l.map (V.int .i64) := fzs_lt _ bel_I
open Classical in
noncomputable def mtL (r : List Nd) (l : List Int) : Bool := decide (checkP 1000000000 r = 0 ∧ ∃ p, okP 1000000000 p ∧ r = flat p ∧ Mt p l)
open Classical in
theorem mtL_iff {p : Pr} {l : List Int} (hp : okP 1000000000 p) (hc : checkP 1000000000 (flat p) = 0) : mtL (flat p) l = true ↔ Mt p l := by
 unfold mtL
 rw [decide_eq_true_iff]
 constructor
 ·rintro ⟨_, q, hq, e, hm⟩
  obtain ⟨e2, _⟩ := flat_inj 1000000000 p q [] [] hp hq (by rw [e])
  rw [e2]
  exact hm
 ·intro h
  exact ⟨hc, p, hp, rfl, h⟩
open Classical in
theorem mtL_no {r : List Nd} {l : List Int} (h : checkP 1000000000 r ≠ 0) : mtL r l = false := by
 unfold mtL
 rw [decide_eq_false_iff_not]
 exact fun g => h g.1
end Go.Proofs.Yticeakkgoafiaaa

/- Chapter 41: Matches, by the program. -/
set_option maxRecDepth 100000
set_option maxHeartbeats 4000000
set_option linter.all false
namespace Go.Proofs.Yticeakkgoafiaaa
open Go.Vm
theorem wf_ok {p : Pr} (hp : okP 1000000000 p) (hl : (flat p).length ≤ 24) : PC Try.prog 44 [slN (flat p)] (.tup [encX p, .int .i64 0]) := by
 rcases tree44 (flat p) (by omega) with ⟨hc, q, hq, hf, h24, hpc⟩ | ⟨hc, hpc⟩
 ·obtain ⟨e, _⟩ := flat_inj 1000000000 p q [] [] hp hq (by rw [hf])
  rw [← e] at hpc
  exact hpc
 ·exact absurd (tree_checkP hp hl) hc
theorem wf_no {l : List Nd} (hl : l.length ≤ 4000000) (hc : checkP 1000000000 l ≠ 0) : PC Try.prog 44 [slN l] (.tup [.nili, .int .i64 (checkP 1000000000 l)]) := by
 rcases tree44 l hl with ⟨h, _⟩ | ⟨_, hpc⟩
 ·exact absurd h hc
 ·exact hpc
attribute [local push_cast] fmN fm0 take_N toN1 slN_nil encN slN cfg0 gfp_lenN gfd_lenN lfl_lenN encX slT slI Nat.mul_one tab_length putV_tab getV_tab getV_tabO getV_tabP getV_tab1 get_mapI get_mapI2 List.length_map
theorem pc75 (n : Nat) (f : Nat → Bool) (hn : n ≤ 2100) : PC Try.prog 75 [slT n f] (.bool ((List.range n).any f)) := by
 refine PC.walk tok mixed cfg0 Try.func75 rfl Try.call75 (by simp [fmN, fm0, bel_clX]) (by first | rfl | simp [fmN, fm0, bel_clX]) ?_; refine vms1 Try.ntmps75 ?_
 refine T.lp tok mixed cfg0 (fun (i : Nat) => dd 5 (kp 2 (sv (.int .i64 i) (dd 5 (nl))))) (fun H0 (i : Nat) => H0) (fun (i : Nat) => i ≤ n ∧ ∀ k, k < i → f k = false) (fun (i : Nat) => n - i) (0) ?_ ?_ ?_
 ·exact ⟨Nat.zero_le _, fun k h => absurd h (Nat.not_lt_zero _)⟩
 ·exact Gn.canon (J := []) (by first | rfl | (simp [slT, tab_length, rep_tab]; done) | (simp [slT, tab_length, rep_tab]; rfl)) (by simp [wk, slN, slT, slI, encX, putT, kp, dd, sv, nl]) (by simp [tab_length]) (by simp [fmN, fm0, bel_clX, kp, dd, sv, nl]) (by simp [fmN, fm0, bel_clX])
 rintro i ⟨hi, hf⟩
 by_cases hlt : i < n
 ·cases hb : f i
  ·refine vms2 hlt hb ?_
   refine ⟨i + 1, ⟨by omega, fun k hk => by rcases Nat.lt_succ_iff_lt_or_eq.1 hk with h | h; exact hf k h; rw [h]; exact hb⟩, by (try simp only); omega, ?_⟩; exact Gn.canon (by first | rfl | (simp [slT, tab_length, rep_tab]; rfl)) (by simp [wk, slN, slT, slI, encX]) (by simp [tab_length]) (by simp [fmN, fm0, bel_clX]) (by simp [fmN, fm0, bel_clX])
  ·have e : (List.range n).any f = true := List.any_eq_true.2 ⟨i, List.mem_range.2 hlt, hb⟩
   rw [e]
   refine vms2 hlt hb ?_
   refine endK.ret ?_ (by first | rfl | simp [fmN, fm0, bel_clX]); simp [evRes, getT, retV, Try.f75]
 ·have e : (List.range n).any f = false := by
   rw [List.any_eq_false]
   intro k hk
   rw [hf k (by have := List.mem_range.1 hk; omega)]
   simp
  rw [e]
  refine vms1 hlt ?_
  refine endK.ret ?_ (by first | rfl | simp [fmN, fm0, bel_clX]); simp [evRes, getT, retV, Try.f75]
theorem pc60 (n : Nat) (f g : Nat → Bool) (hn : n ≤ 2100) : PC Try.prog 60 [slT n f, slT n g] (slT n fun k => f k || g k) := by
 refine PC.walk tok mixed cfg0 Try.func60 rfl Try.call60 (by simp [fmN, fm0, bel_clX]) (by first | rfl | simp [fmN, fm0, bel_clX]) ?_; refine vms1 Try.ntmps60 ?_
 simp (maxSteps := 2000000) -implicitDefEqProofs +contextual (disch := first | assumption | omega | decide +kernel) only [push_cast, ↓capI, seval, Nat.reduceLeDiff, Nat.reduceEqDiff, reduceCtorEq, ↓reduceIte, rep_tab]
 refine T.lp tok mixed cfg0 (fun (i : Nat) => kp 2 (dd 3 (kp 1 (dd 5 (kp 1 (sv (.int .i64 i) (dd 17 (nl)))))))) (fun H0 (i : Nat) => [.cells 0 (tab n fun k => .bool (decide (k < i) && (f k || g k)))]) (fun (i : Nat) => i ≤ n) (fun (i : Nat) => n - i) (0) ?_ ?_ ?_
 ·exact Nat.zero_le _
 ·rw [cell_zero]
  exact Gn.canon (J := []) (by first | rfl | (simp [slT, tab_length, rep_tab]; done) | (simp [slT, tab_length, rep_tab]; rfl)) (by simp [wk, slN, slT, slI, encX, putT, kp, dd, sv, nl]) (by simp [tab_length]) (by simp [fmN, fm0, bel_clX, kp, dd, sv, nl]) (by simp [fmN, fm0, bel_clX])
 intro i hi
 by_cases hlt : i < n
 ·cases hb : f i
  all_goals
   refine vms2 hlt hb ?_
   refine ⟨i + 1, hlt, by (try simp only); omega, ?_⟩
   refine Gn.canon (J := []) ?_ (by simp [wk, slN, slT, slI, encX]) (by simp) (by simp [fmN, fm0, bel_clX]) (by simp [fmN, fm0, bel_clX])
   rw [List.append_nil, cell_step (h := fun k => f k || g k) (by simp [hb])]
 ·have hie : i = n := by omega
  subst hie
  rw [cell_end]
  refine vms1 hlt ?_
  refine endK.gn (Gn.freeze (id := 0) rfl) ?_; refine endK.ret ?_ (by first | rfl | simp [fmN, fm0, bel_clX]); simp [fmN, fm0, bel_clX, fzs_ok, imp, lenOK_iff, List.take_of_length_le, evRes, getT, getO, setO, fzs, fz, fzH, Nat.beq, retV, Res.then, ldT, ldR, mkV, getV, fmN, fm0, take_N, toN1, slN_nil, encN, slN, cfg0, get_flat_part lenN, get_flat_drop lenN, len_flat lenN, encX, slT, slI, Nat.mul_one, tab_length, putV_tab, getV_tab, getV_tabO, getV_tabP, getV_tab1, get_mapI, get_mapI2, List.length_map, Try.f60,  slT, tab_length]
theorem pc62 (x : Nd) (p : Pr) : PC Try.prog 62 [.agg (clX (.un x p))] (encX (core p)) := by
 refine PC.walk tok mixed cfg0 Try.func62 rfl Try.call62 (by simp [fmN, fm0, bel_clX]) (by first | rfl | simp [fmN, fm0, bel_clX]) ?_; refine vms1 Try.ntmps62 ?_
 simp (maxSteps := 2000000) -implicitDefEqProofs +contextual (disch := first | assumption | omega | decide +kernel) only [push_cast, ↓capI, seval, Nat.reduceLeDiff, Nat.reduceEqDiff, reduceCtorEq, ↓reduceIte, clX]
 refine T.lp tok mixed cfg0 (fun (q : Pr) => dd 1 (kp 1 (dd 14 (nl)))) (fun H0 (q : Pr) => [.cells 0 [.ifc (tgX q) (.agg (clX q))]]) (fun (q : Pr) => core q = core p) (fun (q : Pr) => (flat q).length) (p) ?_ ?_ ?_
 ·rfl
 ·exact Gn.canon (J := []) (by first | rfl | (simp [slT, tab_length, rep_tab]; done) | (simp [slT, tab_length, rep_tab]; rfl)) (by simp [wk, slN, slT, slI, encX, putT, kp, dd, sv, nl]) (by simp [tab_length]) (by simp [fmN, fm0, bel_clX, kp, dd, sv, nl]) (by simp [fmN, fm0, bel_clX])
 intro q hq
 rw [← hq]
 cases q with
 | leaf y =>
  simp (maxSteps := 2000000) -implicitDefEqProofs +contextual (disch := first | assumption | omega | decide +kernel) only [push_cast, ↓capI, seval, Nat.reduceLeDiff, Nat.reduceEqDiff, reduceCtorEq, ↓reduceIte, tgX, clX]
  refine endK.ret ?_ (by first | rfl | simp [fmN, fm0, bel_clX]); simp [evRes, getT, retV, Try.f62,  encX, tgX, clX, core]
 | bin y a b =>
  simp (maxSteps := 2000000) -implicitDefEqProofs +contextual (disch := first | assumption | omega | decide +kernel) only [push_cast, ↓capI, seval, Nat.reduceLeDiff, Nat.reduceEqDiff, reduceCtorEq, ↓reduceIte, tgX, clX]
  refine endK.ret ?_ (by first | rfl | simp [fmN, fm0, bel_clX]); simp [evRes, getT, retV, Try.f62,  encX, tgX, clX, core]
 | un y q =>
  have hlt : (flat q).length < (flat (.un y q)).length := by rw [flat]; exact Nat.lt_succ_self _
  simp (maxSteps := 2000000) -implicitDefEqProofs +contextual (disch := first | assumption | omega | decide +kernel) only [push_cast, ↓capI, seval, Nat.reduceLeDiff, Nat.reduceEqDiff, reduceCtorEq, ↓reduceIte, tgX, clX]
  refine ⟨q, rfl, by (try simp only); omega, ?_⟩; exact Gn.canon (by first | rfl | (simp [slT, tab_length, rep_tab, flat]; rfl)) (by simp [wk, slN, slT, slI, encX, flat]) (by simp [tab_length]) (by simp [fmN, fm0, bel_clX]) (by simp [fmN, fm0, bel_clX])
theorem pcj60 (n : Nat) (f g : Nat → Bool) (hn : n ≤ 2100) : PCJ Try.prog 60 [slT n f, slT n g] (.buf 0 0 0 n 1) [.cells 0 (tab n fun k => .bool (f k || g k))] := by
 refine PCJ.walk tok mixed cfg0 Try.func60 rfl Try.call60 (by simp [fmN, fm0, bel_clX]) ?_; refine vms1 Try.ntmps60 ?_
 simp (maxSteps := 2000000) -implicitDefEqProofs +contextual (disch := first | assumption | omega | decide +kernel) only [push_cast, ↓capI, seval, Nat.reduceLeDiff, Nat.reduceEqDiff, reduceCtorEq, ↓reduceIte, rep_tab]
 refine T.lp tok mixed cfg0 (fun (i : Nat) => kp 2 (dd 3 (kp 1 (dd 5 (kp 1 (sv (.int .i64 i) (dd 17 (nl)))))))) (fun H0 (i : Nat) => [.cells 0 (tab n fun k => .bool (decide (k < i) && (f k || g k)))]) (fun (i : Nat) => i ≤ n) (fun (i : Nat) => n - i) (0) ?_ ?_ ?_
 ·exact Nat.zero_le _
 ·rw [cell_zero]
  exact Gn.canon (J := []) (by first | rfl | (simp [slT, tab_length, rep_tab]; done) | (simp [slT, tab_length, rep_tab]; rfl)) (by simp [wk, slN, slT, slI, encX, putT, kp, dd, sv, nl]) (by simp [tab_length]) (by simp [fmN, fm0, bel_clX, kp, dd, sv, nl]) (by simp [fmN, fm0, bel_clX])
 intro i hi
 by_cases hlt : i < n
 ·cases hb : f i
  all_goals
   refine vms2 hlt hb ?_
   refine ⟨i + 1, hlt, by (try simp only); omega, ?_⟩
   refine Gn.canon (J := []) ?_ (by simp [wk, slN, slT, slI, encX]) (by simp) (by simp [fmN, fm0, bel_clX]) (by simp [fmN, fm0, bel_clX])
   rw [List.append_nil, cell_step (h := fun k => f k || g k) (by simp [hb])]
 ·have hie : i = n := by omega
  subst hie
  rw [cell_end]
  refine vms1 hlt ?_
  refine endJ.ret ([]) (by simp [fmN, fm0, bel_clX, fzs_ok, getO, setO, fzs, fz, fzH, Nat.beq, fmN, fm0, take_N, toN1, slN_nil, encN, slN, cfg0, get_flat_part lenN, get_flat_drop lenN, len_flat lenN, encX, slT, slI, Nat.mul_one, tab_length, putV_tab, getV_tab, getV_tabO, getV_tabP, getV_tab1, get_mapI, get_mapI2, List.length_map, slT, tab_length]) (by simp [fmN, fm0, bel_clX, fzs_ok, imp, lenOK_iff, List.take_of_length_le, evRes, getT, getO, setO, fzs, fz, fzH, Nat.beq, retV, Res.then, ldT, ldR, mkV, getV, fmN, fm0, take_N, toN1, slN_nil, encN, slN, cfg0, get_flat_part lenN, get_flat_drop lenN, len_flat lenN, encX, slT, slI, Nat.mul_one, tab_length, putV_tab, getV_tab, getV_tabO, getV_tabP, getV_tab1, get_mapI, get_mapI2, List.length_map, Try.f60, slT, tab_length]) (by first | rfl | simp [fmN, fm0, bel_clX, slT, tab_length]) (by first | rfl | simp [fmN, fm0, bel_clX, slT, tab_length])
theorem brw_f {n : Nat} {f g : Nat → Bool} : brws [.cells 0 (tab n fun k => .bool (g k))] [slT n f, .buf 0 0 0 n 1] = [slT n f, slT n g] := by
 simp only [brws, brw, getO, slT, Nat.beq, List.drop_zero, Nat.mul_one, take_tb]
theorem pc61 (c : Pr) (l : List Int) (f : Nat → Bool) (hl : l.length ≤ 2000) (ih : ∀ f, PC Try.prog 45 [encX c, slI l, slT (l.length + 1) f] (slT (l.length + 1) (endsG c l f)))
  (G : Nat → Bool) (hG : ∀ k, k ≤ l.length → (G k = true ↔ Reach c l f k)) : PC Try.prog 61 [encX c, slI l, slT (l.length + 1) f] (slT (l.length + 1) G) := by
 generalize hn : l.length + 1 = n at ih
 rw [encX] at ih
 refine PC.walk tok mixed cfg0 Try.func61 rfl Try.call61 (by simp [fmN, fm0, bel_clX]) (by first | rfl | simp [fmN, fm0, bel_clX]) ?_; refine vms1 Try.ntmps61 ?_
 refine T.lp tok mixed cfg0 (fun ((out, fresh) : (Nat → Bool) × (Nat → Bool)) => kp 3 (dd 4 (sv (slT n out) (sv (slT n fresh) (dd 37 (nl)))))) (fun H0 ((out, fresh) : (Nat → Bool) × (Nat → Bool)) => []) (fun ((out, fresh) : (Nat → Bool) × (Nat → Bool)) => (∀ k, k ≤ l.length → f k = true → out k = true) ∧ (∀ k, k ≤ l.length → fresh k = true → out k = true) ∧ (∀ k, k ≤ l.length → out k = true → Reach c l f k) ∧ (∀ j k, j ≤ k → k ≤ l.length → out j = true → fresh j = false → Mt c (part l j k) → out k = true)) (fun ((out, fresh) : (Nat → Bool) × (Nat → Bool)) => cntG n out + (if (List.range n).any fresh = true then 1 else 0)) ((f, f)) ?_ ?_ ?_
 ·exact ⟨fun k _ h => h, fun k _ h => h, fun k _ h => ⟨k, Nat.le_refl _, h, by rw [part_self]; exact .nil⟩, fun j k _ _ h1 h2 => by rw [h1] at h2; cases h2⟩
 ·exact Gn.canon (J := []) (by first | rfl | (simp [slT, tab_length, rep_tab]; done) | (simp [slT, tab_length, rep_tab]; rfl)) (by simp [wk, slN, slT, slI, encX, putT, kp, dd, sv, nl]) (by simp [tab_length]) (by simp [fmN, fm0, bel_clX, kp, dd, sv, nl]) (by simp [fmN, fm0, bel_clX])
 rintro ⟨out, fresh⟩ ⟨i1, i2, i3, i4⟩
 have h54 := pc75 n fresh (by omega)
 cases hany : (List.range n).any fresh
 ·have hno : ∀ k, k ≤ l.length → fresh k = false := by
   intro k hk
   rw [List.any_eq_false] at hany
   simpa using hany k (List.mem_range.2 (by omega))
  have e : (tab n fun k => V.bool (G k)) = tab n fun k => V.bool (out k) := tab_ext fun k hk => congrArg V.bool <| bool_ext (hG k (by omega)) ⟨fun h => i3 k (by omega) h, fun h => reach_all i1 (fun j k h1 h2 h3 h4 => i4 j k h1 h2 h3 (hno j (by omega)) h4) k (by omega) h⟩
  rw [e]
  rw [hany] at h54
  refine vms0 ?_
  refine callO.pc h54 ?_
  refine vms0 ?_
  refine endK.ret ?_ (by first | rfl | simp [fmN, fm0, bel_clX]); simp [evRes, getT, retV, Try.f61,  slT]
 rw [hany] at h54
 have h32 := ih fresh
 refine vms0 ?_
 refine callO.pc h54 ?_
 refine vms0 ?_
 refine callO.pc h32 ?_
 simp (maxSteps := 2000000) -implicitDefEqProofs +contextual (disch := first | assumption | omega | decide +kernel) only [push_cast, ↓capI, seval, Nat.reduceLeDiff, Nat.reduceEqDiff, reduceCtorEq, ↓reduceIte, rep_tab]
 refine T.lp tok mixed cfg0 (fun (i : Nat) => kp 3 (dd 4 (kp 2 (dd 14 (kp 2 (sv (.int .i64 i) (dd 20 (nl)))))))) (fun H0 (i : Nat) => [.cells 0 (tab n fun k => .bool (decide (k < i) && (endsG c l fresh k && !out k)))]) (fun (i : Nat) => i ≤ n) (fun (i : Nat) => n - i) (0) ?_ ?_ ?_
 ·exact Nat.zero_le _
 ·rw [cell_zero]
  exact Gn.canon (J := []) (by first | rfl | (simp [slT, tab_length, rep_tab]; done) | (simp [slT, tab_length, rep_tab]; rfl)) (by simp [wk, slN, slT, slI, encX, putT, kp, dd, sv, nl]) (by simp [tab_length]) (by simp [fmN, fm0, bel_clX, kp, dd, sv, nl]) (by simp [fmN, fm0, bel_clX])
 intro i hi
 by_cases hlt : i < n
 ·cases hb : endsG c l fresh i <;> cases ho : out i
  all_goals
   refine vms3 hlt hb ho ?_
   refine ⟨i + 1, hlt, by (try simp only); omega, ?_⟩
   refine Gn.canon (J := []) ?_ (by simp [wk, slN, slT, slI, encX]) (by simp) (by simp [fmN, fm0, bel_clX]) (by simp [fmN, fm0, bel_clX])
   rw [List.append_nil, cell_step (h := fun k => endsG c l fresh k && !out k) (by simp [hb, ho])]
 have hie : i = n := by omega
 subst hie
 rw [cell_end]
 refine vms1 hlt ?_
 refine callO.lent (by rw [List.nil_append, List.append_nil]; exact brw_f ▸ pcj60 i out (fun k => endsG c l fresh k && !out k) (by omega)) (by rw [List.nil_append, List.append_nil]; exact (congrArg (belAll 0) brw_f).trans (by simp [fmN, fm0, bel_clX])) rfl (by simp [pursO, Ob.pur, pur_tb]) ?_
 simp (maxSteps := 2000000) -implicitDefEqProofs +contextual (disch := first | assumption | omega | decide +kernel) only [push_cast, ↓capI, seval, Nat.reduceLeDiff, Nat.reduceEqDiff, reduceCtorEq, ↓reduceIte, V.sh, shs, shOs, Ob.sh, shs_tb]
 have j1 : ∀ k, k ≤ l.length → f k = true → (out k || endsG c l fresh k && !out k) = true := fun k hk h => by rw [i1 k hk h]; rfl
 have j2 : ∀ k, k ≤ l.length → (endsG c l fresh k && !out k) = true → (out k || endsG c l fresh k && !out k) = true := fun k hk h => by rw [h, Bool.or_true]
 have j3 : ∀ k, k ≤ l.length → (out k || endsG c l fresh k && !out k) = true → Reach c l f k := by
  intro k hk h
  cases ho : out k with
  | true => exact i3 k hk ho
  | false =>
   rw [ho, Bool.false_or, Bool.not_false, Bool.and_true] at h
   obtain ⟨j, hjk, hf, hm⟩ := endsG_iff.1 h
   exact reach_step hjk hk (i3 j (by omega) (i2 j (by omega) hf)) hm
 have j4 : ∀ j k, j ≤ k → k ≤ l.length → (out j || endsG c l fresh j && !out j) = true → (endsG c l fresh j && !out j) = false → Mt c (part l j k) → (out k || endsG c l fresh k && !out k) = true := by
  intro j k hjk hk h1 h2 hm
  rw [h2, Bool.or_false] at h1
  cases hfr : fresh j with
  | false => rw [i4 j k hjk hk h1 hfr hm]; rfl
  | true =>
   have : endsG c l fresh k = true := endsG_iff.2 ⟨j, hjk, hfr, hm⟩
   rw [this]
   cases out k <;> rfl
 have jm : (cntG i fun k => out k || endsG c l fresh k && !out k) + (if (List.range i).any (fun k => endsG c l fresh k && !out k) = true then 1 else 0) < cntG i out + (if (List.range i).any fresh = true then 1 else 0) := by
  rw [if_pos (c := (List.range i).any fresh = true) hany]
  have hmono : ∀ k, k < i → out k = true → (out k || endsG c l fresh k && !out k) = true := fun k _ h => by rw [h]; rfl
  by_cases ha : (List.range i).any (fun k => endsG c l fresh k && !out k) = true
  ·rw [if_pos ha]
   obtain ⟨k, hk, hb⟩ := List.any_eq_true.1 ha
   have hb2 := (Bool.and_eq_true _ _ ▸ hb : _ ∧ _)
   have ho : out k = false := by simpa using hb2.2
   have := cntG_lt hmono ⟨k, List.mem_range.1 hk, ho, by rw [hb, Bool.or_true]⟩
   omega
  ·rw [if_neg ha]
   have := cntG_mono hmono
   omega
 refine ⟨(fun k => out k || endsG c l fresh k && !out k, fun k => endsG c l fresh k && !out k), ⟨j1, j2, j3, j4⟩, by (try simp only); omega, ?_⟩; refine (Gn.freeze (id := 0) rfl).trans ?_; refine (Gn.freeze (id := 1) rfl).trans ?_; exact Gn.canon (by first | rfl | (simp [slT, tab_length, rep_tab, fzs, fz, fzs_ok, fzH, setO, getO, Nat.beq, List.take_of_length_le, fmN, fm0, bel_clX, fzs_tb, take_tb, hany]; done) | (simp [slT, tab_length, rep_tab, fzs, fz, fzs_ok, fzH, setO, getO, Nat.beq, List.take_of_length_le, fmN, fm0, bel_clX, fzs_tb, take_tb, hany]; rfl)) (by simp [wk, slN, slT, slI, encX, fzs, fz, fzs_ok, fzH, setO, getO, Nat.beq, List.take_of_length_le, fmN, fm0, bel_clX, fzs_tb, take_tb, hany, fmN, fm0, take_N, toN1, slN_nil, encN, slN, cfg0, get_flat_part lenN, get_flat_drop lenN, len_flat lenN, encX, slT, slI, Nat.mul_one, tab_length, putV_tab, getV_tab, getV_tabO, getV_tabP, getV_tab1, get_mapI, get_mapI2, List.length_map]) (by simp [tab_length]) (by simp [fmN, fm0, bel_clX]) (by simp [fmN, fm0, bel_clX])
end Go.Proofs.Yticeakkgoafiaaa

/- Chapter 41: Matches, by the program: leaves, pairs, repetitions. -/
set_option maxRecDepth 100000
set_option maxHeartbeats 4000000
set_option linter.all false
namespace Go.Proofs.Yticeakkgoafiaaa
open Go.Vm
def leafG (x : Nd) (l : List Int) (f : Nat → Bool) (k : Nat) : Bool := if x.op = 1 then f k else decide (1 ≤ k) && (f (k - 1) && (decide (x.op = 2) || decide (l.getD (k - 1) 0 = nN x)))
theorem leafG_ends {x : Nd} {l : List Int} {f : Nat → Bool} {k : Nat} (hk : k ≤ l.length) : leafG x l f k = endsG (.leaf x) l f k := by
 refine bool_ext (P := Ends (.leaf x) l f k) ?_ endsG_iff
 unfold leafG Ends
 simp only [Mt]
 by_cases h1 : x.op = 1
 ·simp only [if_pos h1]
  constructor
  ·intro h
   exact ⟨k, Nat.le_refl _, h, part_self⟩
  ·rintro ⟨i, hi, hf, he⟩
   have hl := congrArg List.length he
   rw [part_len hk, List.length_nil] at hl
   have : i = k := by omega
   rw [← this]
   exact hf
 simp only [if_neg h1]
 by_cases h2 : x.op = 2
 ·simp only [if_pos h2, decide_eq_true h2, Bool.true_or, Bool.and_true, Bool.and_eq_true, decide_eq_true_eq]
  constructor
  ·rintro ⟨hk1, hf⟩
   exact ⟨k - 1, by omega, hf, by rw [part_len hk]; omega⟩
  ·rintro ⟨i, hi, hf, he⟩
   rw [part_len hk] at he
   have : i = k - 1 := by omega
   rw [← this]
   exact ⟨by omega, hf⟩
 ·simp only [if_neg h2, decide_eq_false h2, Bool.false_or, Bool.and_eq_true, decide_eq_true_eq]
  constructor
  ·rintro ⟨hk1, hf, hx⟩
   refine ⟨k - 1, by omega, hf, ?_⟩
   have hlt : k - 1 < l.length := by omega
   have e := part_one hlt
   rw [show k - 1 + 1 = k by omega] at e
   rw [e, ← hx, List.getD_eq_getElem?_getD, List.getElem?_eq_getElem hlt]
   rfl
  ·rintro ⟨i, hi, hf, he⟩
   have hl := congrArg List.length he
   rw [part_len hk, List.length_singleton] at hl
   have hlt : i < l.length := by omega
   have hik : k = i + 1 := by omega
   subst hik
   rw [part_one hlt] at he
   injection he with he
   refine ⟨by omega, by simpa using hf, ?_⟩
   rw [Nat.add_sub_cancel, List.getD_eq_getElem?_getD, List.getElem?_eq_getElem hlt]
   exact he
attribute [local push_cast] fmN fm0 take_N toN1 slN_nil encN slN cfg0 gfp_lenN gfd_lenN lfl_lenN encX slT slI Nat.mul_one tab_length putV_tab getV_tab getV_tabO getV_tabP getV_tab1 get_mapI get_mapI2 List.length_map fzs_tb
theorem leaf45 (x : Nd) (l : List Int) (f : Nat → Bool) (hl : l.length ≤ 2000) (hx : x.op = 1 ∨ x.op = 2 ∨ x.op = 3) : PC Try.prog 45 [encX (.leaf x), slI l, slT (l.length + 1) f] (slT (l.length + 1) (endsG (.leaf x) l f)) := by
 rw [← slT_ext (fun k hk => leafG_ends (by omega))]
 generalize hn : l.length + 1 = n
 by_cases h1 : x.op = 1
 ·have e : slT n (leafG x l f) = slT n f := slT_ext fun k _ => by rw [leafG, if_pos h1]
  rw [e]
  refine PC.walk tok mixed cfg0 Try.func45 rfl Try.call45 (by simp [fmN, fm0, bel_clX]) (by first | rfl | simp [fmN, fm0, bel_clX]) ?_; refine vms1 Try.ntmps45 ?_
  simp (maxSteps := 2000000) -implicitDefEqProofs +contextual (disch := first | assumption | omega | decide +kernel) only [push_cast, ↓capI, seval, Nat.reduceLeDiff, Nat.reduceEqDiff, reduceCtorEq, ↓reduceIte, rep_tab, tgX, clX]
  refine T.lp tok mixed cfg0 (fun (i : Nat) => dd 1 (kp 1 (dd 5 (kp 2 (dd 12 (kp 2 (sv (.int .i64 i) (dd 76 (nl))))))))) (fun H0 (i : Nat) => [.cells 0 (tab n fun k => .bool (decide (k < i) && f k)), .cells 0 [.int .i64 x.op, .int .i64 (nN x)]]) (fun (i : Nat) => i ≤ n) (fun (i : Nat) => n - i) (0) ?_ ?_ ?_
  ·exact Nat.zero_le _
  ·rw [cell_zero]
   exact Gn.canon (J := []) (by first | rfl | (simp [slT, tab_length, rep_tab]; done) | (simp [slT, tab_length, rep_tab]; rfl)) (by simp [wk, slN, slT, slI, encX, putT, kp, dd, sv, nl]) (by simp [tab_length]) (by simp [fmN, fm0, bel_clX, kp, dd, sv, nl]) (by simp [fmN, fm0, bel_clX])
  intro i hi
  by_cases hlt : i < n
  ·cases hb : f i
   all_goals
    refine vms3 hlt hb h1 ?_
    refine ⟨i + 1, hlt, by (try simp only); omega, ?_⟩
    refine Gn.canon (J := []) ?_ (by simp [wk, slN, slT, slI, encX]) (by simp) (by simp [fmN, fm0, bel_clX]) (by simp [fmN, fm0, bel_clX])
    rw [List.append_nil]
    first | rw [cell_step (h := f) hb.symm] | rw [cell_keep hb]
  ·have hie : i = n := by omega
   subst hie
   rw [cell_end]
   refine vms1 hlt ?_
   refine endK.gn (Gn.freeze (id := 0) rfl) ?_; refine endK.ret ?_ (by first | rfl | simp [fmN, fm0, bel_clX]); simp [fmN, fm0, bel_clX, fzs_ok, imp, lenOK_iff, List.take_of_length_le, evRes, getT, getO, setO, fzs, fz, fzH, Nat.beq, retV, Res.then, ldT, ldR, mkV, getV, fmN, fm0, take_N, toN1, slN_nil, encN, slN, cfg0, get_flat_part lenN, get_flat_drop lenN, len_flat lenN, encX, slT, slI, Nat.mul_one, tab_length, putV_tab, getV_tab, getV_tabO, getV_tabP, getV_tab1, get_mapI, get_mapI2, List.length_map, fzs_tb, Try.f45,  slT, tab_length, take_tb]
 have hL : ∀ i, leafG x l f (i + 1) = (f i && (decide (x.op = 2) || decide (l.getD i 0 = nN x))) := by
  intro i
  rw [leafG, if_neg h1, Nat.add_sub_cancel, decide_eq_true (Nat.le_add_left 1 i), Bool.true_and]
 have h0 : leafG x l f 0 = false := by rw [leafG, if_neg h1]; rfl
 generalize leafG x l f = g at hL h0
 refine PC.walk tok mixed cfg0 Try.func45 rfl Try.call45 (by simp [fmN, fm0, bel_clX]) (by first | rfl | simp [fmN, fm0, bel_clX]) ?_; refine vms1 Try.ntmps45 ?_
 simp (maxSteps := 2000000) -implicitDefEqProofs +contextual (disch := first | assumption | omega | decide +kernel) only [push_cast, ↓capI, seval, Nat.reduceLeDiff, Nat.reduceEqDiff, reduceCtorEq, ↓reduceIte, rep_tab, tgX, clX]
 refine T.lp tok mixed cfg0 (fun (i : Nat) => dd 1 (kp 1 (dd 5 (kp 2 (dd 12 (kp 2 (sv (.int .i64 i) (dd 76 (nl))))))))) (fun H0 (i : Nat) => [.cells 0 (tab n fun k => .bool (decide (k < i + 1) && g k)), .cells 0 [.int .i64 x.op, .int .i64 (nN x)]]) (fun (i : Nat) => i ≤ n) (fun (i : Nat) => n - i) (0) ?_ ?_ ?_
 ·exact Nat.zero_le _
 ·have e0 : (tab n fun k => V.bool (decide (k < 0 + 1) && g k)) = tab n fun _ => V.bool false := tab_ext fun k _ => by
   cases k with
   | zero => rw [h0]; rfl
   | succ k => rw [decide_eq_false (by omega)]; rfl
  rw [e0]
  exact Gn.canon (J := []) (by first | rfl | (simp [slT, tab_length, rep_tab]; done) | (simp [slT, tab_length, rep_tab]; rfl)) (by simp [wk, slN, slT, slI, encX, putT, kp, dd, sv, nl]) (by simp [tab_length]) (by simp [fmN, fm0, bel_clX, kp, dd, sv, nl]) (by simp [fmN, fm0, bel_clX])
 intro i hi
 by_cases hlt : i < n
 case neg =>
  have hie : i = n := by omega
  subst hie
  have e0 : (tab i fun k => V.bool (decide (k < i + 1) && g k)) = tab i fun k => V.bool (g k) := tab_ext fun k hk => by rw [decide_eq_true (by omega), Bool.true_and]
  rw [e0]
  refine vms1 hlt ?_
  refine endK.gn (Gn.freeze (id := 0) rfl) ?_; refine endK.ret ?_ (by first | rfl | simp [fmN, fm0, bel_clX]); simp [fmN, fm0, bel_clX, fzs_ok, imp, lenOK_iff, List.take_of_length_le, evRes, getT, getO, setO, fzs, fz, fzH, Nat.beq, retV, Res.then, ldT, ldR, mkV, getV, fmN, fm0, take_N, toN1, slN_nil, encN, slN, cfg0, get_flat_part lenN, get_flat_drop lenN, len_flat lenN, encX, slT, slI, Nat.mul_one, tab_length, putV_tab, getV_tab, getV_tabO, getV_tabP, getV_tab1, get_mapI, get_mapI2, List.length_map, fzs_tb, Try.f45,  slT, tab_length, take_tb]
 have hLi := hL i
 by_cases hlast : i < l.length
 case neg =>
  have hie : n = i + 1 := by omega
  subst hie
  have e0 : (tab (i + 1) fun k => V.bool (decide (k < i + 1) && g k)) = tab (i + 1) fun k => V.bool (decide (k < i + 1 + 1) && g k) := tab_ext fun k hk => by
   rw [decide_eq_true hk, decide_eq_true (by omega)]
  cases hb : f i
  all_goals
   refine vms4 hlt hb h1 hlast ?_
   refine ⟨i + 1, hlt, by (try simp only); omega, ?_⟩
   refine Gn.canon (J := []) ?_ (by simp [wk, slN, slT, slI, encX]) (by simp) (by simp [fmN, fm0, bel_clX]) (by simp [fmN, fm0, bel_clX])
   rw [List.append_nil, e0]
 have hgd : l.getD i 0 = l[i] := by rw [List.getD_eq_getElem?_getD, List.getElem?_eq_getElem hlast]; rfl
 rw [hgd] at hLi
 have hT : ((i : Int) + 1).toNat = i + 1 := by omega
 cases hb : f i
 ·rw [hb, Bool.false_and] at hLi
  refine vms4 hlt hb h1 hlast ?_
  refine ⟨i + 1, hlt, by (try simp only); omega, ?_⟩
  refine Gn.canon (J := []) ?_ (by simp [wk, slN, slT, slI, encX]) (by simp) (by simp [fmN, fm0, bel_clX]) (by simp [fmN, fm0, bel_clX])
  rw [List.append_nil, cell_stepN hLi]
 by_cases h2 : x.op = 2
 ·rw [hb, decide_eq_true h2, Bool.true_or, Bool.true_and] at hLi
  refine vms5 hlt hb h1 hlast h2 ?_
  refine ⟨i + 1, hlt, by (try simp only); omega, ?_⟩
  refine Gn.canon (J := []) ?_ (by simp [wk, slN, slT, slI, encX]) (by simp) (by simp [fmN, fm0, bel_clX]) (by simp [fmN, fm0, bel_clX])
  simp only [List.append_nil, hT]
  rw [cell_step (i := i + 1) (h := g) hLi.symm]
 rw [hb, decide_eq_false h2, Bool.true_and, Bool.false_or] at hLi
 by_cases h3 : l[i] = nN x
 ·rw [decide_eq_true h3] at hLi
  refine vms6 hlt hb h1 hlast h2 h3 ?_
  refine ⟨i + 1, hlt, by (try simp only); omega, ?_⟩
  refine Gn.canon (J := []) ?_ (by simp [wk, slN, slT, slI, encX]) (by simp) (by simp [fmN, fm0, bel_clX]) (by simp [fmN, fm0, bel_clX])
  simp only [List.append_nil, hT]
  rw [cell_step (i := i + 1) (h := g) hLi.symm]
 ·rw [decide_eq_false h3] at hLi
  refine vms6 hlt hb h1 hlast h2 h3 ?_
  refine ⟨i + 1, hlt, by (try simp only); omega, ?_⟩
  refine Gn.canon (J := []) ?_ (by simp [wk, slN, slT, slI, encX]) (by simp) (by simp [fmN, fm0, bel_clX]) (by simp [fmN, fm0, bel_clX])
  rw [List.append_nil, cell_stepN hLi]
theorem pc45 (l : List Int) (hl : l.length ≤ 2000) : ∀ (m : Nat) (p : Pr), okP 1000000000 p → (flat p).length ≤ m → m ≤ 4000000 → ∀ f, PC Try.prog 45 [encX p, slI l, slT (l.length + 1) f] (slT (l.length + 1) (endsG p l f))
 | 0, p, _, h, _, _ => by
  have := flat_pos p
  omega
 | m + 1, .leaf x, hp, _, _, f => leaf45 x l f hl hp.1
 | m + 1, .un x p, hp, h, hm, f => by
  rw [flat, List.length_cons] at h
  have hcore : ∀ q, okP 1000000000 q → okP 1000000000 (core q) ∧ (flat (core q)).length ≤ (flat q).length := by
   intro q
   induction q with
   | leaf y => exact fun h => ⟨h, Nat.le_refl _⟩
   | bin y a b => exact fun h => ⟨h, Nat.le_refl _⟩
   | un y q ih =>
    intro h
    obtain ⟨i1, i2⟩ := ih h.2
    exact ⟨i1, by rw [core, flat, List.length_cons]; omega⟩
  obtain ⟨hc, hcl⟩ := hcore p hp.2
  have h42 := pc61 (core p) l f hl (pc45 l hl m (core p) hc (by omega) (by omega)) (endsG (.un x p) l f) (fun k _ => endsG_iff.trans reach_star.symm)
  have h43 := pc62 x p
  rw [encX] at h42 h43
  generalize hn : l.length + 1 = n at h42
  refine PC.walk tok mixed cfg0 Try.func45 rfl Try.call45 (by simp [fmN, fm0, bel_clX]) (by first | rfl | simp [fmN, fm0, bel_clX]) ?_; refine vms1 Try.ntmps45 ?_
  simp (maxSteps := 2000000) -implicitDefEqProofs +contextual (disch := first | assumption | omega | decide +kernel) only [push_cast, ↓capI, seval, Nat.reduceLeDiff, Nat.reduceEqDiff, reduceCtorEq, ↓reduceIte, rep_tab, tgX, clX]
  refine callO.pc (by rw [clX] at h43; exact h43) ?_
  refine vms0 ?_
  refine callO.pc h42 ?_
  refine vms0 ?_
  refine endK.ret ?_ (by first | rfl | simp [fmN, fm0, bel_clX]); simp [evRes, getT, retV, Try.f45,  slT]
 | m + 1, .bin x p q, hp, h, hm, f => by
  rw [flat, List.length_cons, List.length_append] at h
  have i1 := pc45 l hl m p hp.2.1 (by omega) (by omega) f
  rw [encX] at i1
  by_cases h5 : x.op = 5
  ·have i2 := pc45 l hl m q hp.2.2 (by omega) (by omega) f
   have h41 := pc60 (l.length + 1) (endsG p l f) (endsG q l f) (by omega)
   rw [slT_ext (fun k _ => ends_alt h5)] at h41
   rw [encX] at i2
   generalize hn : l.length + 1 = n at *
   refine PC.walk tok mixed cfg0 Try.func45 rfl Try.call45 (by simp [fmN, fm0, bel_clX]) (by first | rfl | simp [fmN, fm0, bel_clX]) ?_; refine vms1 Try.ntmps45 ?_
   simp (maxSteps := 2000000) -implicitDefEqProofs +contextual (disch := first | assumption | omega | decide +kernel) only [push_cast, ↓capI, seval, Nat.reduceLeDiff, Nat.reduceEqDiff, reduceCtorEq, ↓reduceIte, rep_tab, tgX, clX]
   refine callO.pc i1 ?_
   refine vms1 h5 ?_
   refine callO.pc i2 ?_
   refine vms0 ?_
   refine callO.pc h41 ?_
   refine vms0 ?_
   refine endK.ret ?_ (by first | rfl | simp [fmN, fm0, bel_clX]); simp [evRes, getT, retV, Try.f45,  slT]
  ·have h4 : x.op = 4 := by have := hp.1; omega
   have i2 := pc45 l hl m q hp.2.2 (by omega) (by omega) (endsG p l f)
   rw [slT_ext (fun k hk => ends_cat (x := x) h5 (by omega))] at i2
   rw [encX] at i2
   generalize hn : l.length + 1 = n at *
   refine PC.walk tok mixed cfg0 Try.func45 rfl Try.call45 (by simp [fmN, fm0, bel_clX]) (by first | rfl | simp [fmN, fm0, bel_clX]) ?_; refine vms1 Try.ntmps45 ?_
   simp (maxSteps := 2000000) -implicitDefEqProofs +contextual (disch := first | assumption | omega | decide +kernel) only [push_cast, ↓capI, seval, Nat.reduceLeDiff, Nat.reduceEqDiff, reduceCtorEq, ↓reduceIte, rep_tab, tgX, clX]
   refine callO.pc i1 ?_
   refine vms1 h4 ?_
   refine callO.pc i2 ?_
   refine vms0 ?_
   refine endK.ret ?_ (by first | rfl | simp [fmN, fm0, bel_clX]); simp [evRes, getT, retV, Try.f45,  slT]
theorem fzs_clX {id ver : Nat} {c : List V} {p : Pr} : fzs id ver c (clX p) = clX p := fzs_lt _ (bel_clX p)
theorem pc32 (r : List Nd) (l : List Int) (hr : r.length ≤ 4000000) (hl : l.length ≤ 2000) : PC Try.prog 32 [slN r, slI l] (.bool (mtL r l)) := by
 by_cases hc : checkP 1000000000 r = 0
 ·obtain ⟨h24, p, hp, hf⟩ := checkP_tree hc
  have hw := wf_ok hp (by rw [← hf]; exact h24)
  rw [← hf, encX] at hw
  have i1 := pc45 l hl (flat p).length p hp (Nat.le_refl _) (by rw [← hf]; omega) (fun k => decide (k = 0))
  rw [encX] at i1
  have e : mtL r l = endsG p l (fun k => decide (k = 0)) l.length := by
   rw [hf] at hc ⊢
   refine bool_ext (mtL_iff hp hc) (endsG_iff.trans ?_)
   constructor
   ·rintro ⟨i, _, h0, h⟩
    rw [of_decide_eq_true h0, part_all] at h
    exact h
   ·intro h
    exact ⟨0, Nat.zero_le _, rfl, by rw [part_all]; exact h⟩
  rw [e]
  have hlt : l.length < l.length + 1 := Nat.lt_succ_self _
  generalize hn : l.length + 1 = n at *
  have hset : (tab n fun k => if k = 0 then V.bool true else V.bool false) = tab n fun k => V.bool (decide (k = 0)) := tab_ext fun k _ => by
   by_cases h : k = 0
   ·rw [if_pos h, decide_eq_true h]
   ·rw [if_neg h, decide_eq_false h]
  have hT : ((l.length : Int) + 1).toNat = n := by omega
  refine PC.cutN tok mixed cfg0 4 Try.func32 rfl Try.call32 (by simp [fmN, fm0, bel_clX]) rfl ?_
  simp (maxSteps := 2000000) -implicitDefEqProofs +contextual (disch := first | assumption | omega | decide +kernel) only [push_cast, ↓capI, seval, Nat.reduceLeDiff, Nat.reduceEqDiff, reduceCtorEq, ↓reduceIte, Try.ntmps32, cutAt_z, cutAt_s]
  refine callO.pc hw ?_
  simp (maxSteps := 2000000) -implicitDefEqProofs +contextual (disch := first | assumption | omega | decide +kernel) only [push_cast, ↓capI, seval, Nat.reduceLeDiff, Nat.reduceEqDiff, reduceCtorEq, ↓reduceIte, rep_tab, hset, cutAt_z, cutAt_s]
  refine cutK.gn (Gn.freeze (id := 0) rfl) (cutK.go (cfg := cfg0) tok mixed ?_)
  simp only [hT, hset]
  simp (maxSteps := 2000000) -implicitDefEqProofs +contextual (disch := first | assumption | omega | decide +kernel) only [push_cast, ↓capI, seval, Nat.reduceLeDiff, Nat.reduceEqDiff, reduceCtorEq, ↓reduceIte, fzs, fz, fzH, fzs_clX, fzs_Ns, fzs_I, fzs_tb, setO, getO, Nat.beq, take_tb, fzs_ok]
  refine callO.pc i1 ?_
  refine vms1 hlt ?_
  refine endK.ret ?_ (by first | rfl | simp [fmN, fm0, bel_clX]); simp [evRes, getT, retV, Try.f32]
 ·rw [mtL_no hc]
  have hw := wf_no hr hc
  refine PC.walk tok mixed cfg0 Try.func32 rfl Try.call32 (by simp [fmN, fm0, bel_clX]) (by first | rfl | simp [fmN, fm0, bel_clX]) ?_; refine vms1 Try.ntmps32 ?_
  refine callO.pc hw ?_
  refine vms1 hc ?_
  refine endK.ret ?_ (by first | rfl | simp [fmN, fm0, bel_clX]); simp [evRes, getT, retV, Try.f32]
end Go.Proofs.Yticeakkgoafiaaa

/- Chapter 43: Valid, by the program. -/
set_option maxRecDepth 100000
set_option maxHeartbeats 8000000
set_option linter.all false
namespace Go.Proofs.Yticeakkgoafiaaa
open Go.Vm
def vld (t : Top.Tp) (dst : Int × Int) (M : Bool) : Int × Int → List Hop → Bool
 | _, [] => false
 | at_, h :: r => decide (h.sw = at_.1) && (decide (h.inp = at_.2) && (match r with
  | [] => decide ((h.sw, h.out) = dst) && M
  | _ :: _ => decide ((Top.peer t (h.sw, h.out)).2 = 0) && vld t dst M (Top.peer t (h.sw, h.out)).1 r))
theorem vld_sw {t : Top.Tp} {dst : Int × Int} {M : Bool} {a : Int × Int} {h : Hop} {r : List Hop} (hn : ¬ h.sw = a.1) : vld t dst M a (h :: r) = false := by
 cases r <;> simp [vld, hn]
theorem vld_in {t : Top.Tp} {dst : Int × Int} {M : Bool} {a : Int × Int} {h : Hop} {r : List Hop} (hn : ¬ h.inp = a.2) : vld t dst M a (h :: r) = false := by
 cases r <;> simp [vld, hn]
theorem vld_one {t : Top.Tp} {dst : Int × Int} {M : Bool} {a : Int × Int} {h : Hop} (h1 : h.sw = a.1) (h2 : h.inp = a.2) : vld t dst M a [h] = (decide ((h.sw, h.out) = dst) && M) := by
 rw [vld, decide_eq_true h1, decide_eq_true h2, Bool.true_and, Bool.true_and]
theorem vld_no {t : Top.Tp} {dst : Int × Int} {M : Bool} {a : Int × Int} {h g : Hop} {r : List Hop} (hn : ¬ (Top.peer t (h.sw, h.out)).2 = 0) : vld t dst M a (h :: g :: r) = false := by
 rw [vld]
 simp only [decide_eq_false hn, Bool.false_and, Bool.and_false]
theorem vld_go {t : Top.Tp} {dst : Int × Int} {M : Bool} {a : Int × Int} {h g : Hop} {r : List Hop} (h1 : h.sw = a.1) (h2 : h.inp = a.2) (hn : (Top.peer t (h.sw, h.out)).2 = 0) : vld t dst M a (h :: g :: r) = vld t dst M (Top.peer t (h.sw, h.out)).1 (g :: r) := by
 rw [vld]
 simp only [decide_eq_true h1, decide_eq_true h2, decide_eq_true hn, Bool.true_and]
def ValR (f : Nat) (t : Top.Tp) (x y : Int) (r : List Nd) (l : List Hop) : Prop :=
 (∃ e, errR t x y r e ∧ e ≠ 0 ∧ PC Try.prog f (argV t x y r ++ [slH l]) (.bool false)) ∨
 (∃ (p : Pr), okR t x y r p ∧ PC Try.prog f (argV t x y r ++ [slH l]) (.bool (vld t (hostP t y) (mtL r (sws l)) (hostP t x) l)))
attribute [local push_cast] cfg0 Top.encT Top.slI Top.slP Top.slL Top.encP Top.encPE Top.eqP encH slN slH slI encT slR slB zTb ones_ints ones_bools ones_H getV_map getV_mapO Top.gfp_lenP Top.gfd_lenP Top.lfl_lenP gfp_lenH gfd_lenH lfl_lenH List.length_map Nat.mul_one
theorem pc13 (t : Top.Tp) (x y : Int) (r : List Nd) (l : List Hop) (hf : t.fit) (hr : r.length ≤ 4000000) (hl : l.length ≤ 2000) : ValR 13 t x y r l := by
 have hp := hf.ports
 have hh := hf.hosts
 have h16 := pc16 l (by omega)
 have hsl : (sws l).length = l.length := List.length_map _
 have h32 := pc32 r (sws l) hr (by omega)
 have hlen := len_flat lenH l
 rcases arg25 t x y r hf hr with ⟨e, he, h0, h25⟩ | ⟨p, ho, h25⟩
 ·refine .inl ⟨e, he, h0, ?_⟩
  rw [argV] at h25 ⊢
  simp only [List.cons_append, List.nil_append]
  refine PC.walk tok mixed cfg0 Try.func13 rfl Try.call13 (by simp) (by first | rfl | simp) ?_; refine vms1 Try.ntmps13 ?_
  refine callO.pc h25 ?_
  refine vms1 h0 ?_
  refine endK.retA ?_; simp [evRes, getT, retV, Try.f13]
 refine .inr ⟨p, ho, ?_⟩
 have hrng := ho.rng
 rw [badR] at hrng
 have hv := Top.chk_valid ho.top
 have hpeer := fun q (h : (Top.peer t q).2 = 0) => peer_rng ho.top (p := q) h
 generalize autR p t.ports.length = a at h25
 clear ho
 obtain ⟨x, rfl⟩ : ∃ k : Nat, x = (k : Int) := ⟨x.toNat, by omega⟩
 obtain ⟨y, rfl⟩ : ∃ k : Nat, y = (k : Int) := ⟨y.toNat, by omega⟩
 have hx : x < t.hosts.length := by omega
 have hy : y < t.hosts.length := by omega
 have ex : hostP t x = t.hosts[x] := by rw [hostP, Int.toNat_natCast, List.getD_eq_getElem?_getD, List.getElem?_eq_getElem hx]; rfl
 have ey : hostP t y = t.hosts[y] := by rw [hostP, Int.toNat_natCast, List.getD_eq_getElem?_getD, List.getElem?_eq_getElem hy]; rfl
 rw [ex, ey]
 generalize hsx : t.hosts[x] = src
 generalize hdx : t.hosts[y] = dst
 rw [argV] at h25 ⊢
 simp only [List.cons_append, List.nil_append]
 obtain ⟨an, ac⟩ := a
 obtain ⟨ss, si⟩ := src
 obtain ⟨ds, di⟩ := dst
 generalize mtL r (sws l) = M at h32
 generalize hvv : vld t (ds, di) M (ss, si) l = v
 by_cases hl0 : l.length = 0
 ·have : l = [] := List.length_eq_zero_iff.1 hl0
  subst this
  have hv0 : v = false := by rw [← hvv]; rfl
  rw [hv0]
  refine PC.walk tok mixed cfg0 Try.func13 rfl Try.call13 (by simp) (by first | rfl | simp) ?_; refine vms1 Try.ntmps13 ?_
  refine callO.pc h25 ?_
  simp (maxSteps := 2000000) -implicitDefEqProofs +contextual (disch := first | assumption | omega | decide +kernel) only [push_cast, ↓capI, seval, Nat.reduceLeDiff, Nat.reduceEqDiff, reduceCtorEq, ↓reduceIte, List.length_nil]
  refine endK.retA ?_; simp [evRes, getT, retV, Try.f13]
 refine PC.walk tok mixed cfg0 Try.func13 rfl Try.call13 (by simp) (by first | rfl | simp) ?_; refine vms1 Try.ntmps13 ?_
 refine callO.pc h25 ?_
 refine vms3 hl0 hx hsx ?_
 refine T.lp tok mixed cfg0 (fun ((s : Nat × Int × Int)) => dd 2 (kp 4 (dd 7 (kp 1 (dd 25 (kp 2 (sv (.int .i64 (s.1 : Int)) (dd 49 (nl))))))))) (fun H0 ((s : Nat × Int × Int)) => [.cells 0 (Top.encT t), .cells 0 (encT ⟨an, ac⟩), .cells 0 [.int .i64 s.2.1, .int .i64 s.2.2]]) (fun ((s : Nat × Int × Int)) => s.1 < l.length ∧ vld t (ds, di) M s.2 (l.drop s.1) = v) (fun ((s : Nat × Int × Int)) => l.length - s.1) ((0, ss, si)) ?_ ?_ ?_
 ·exact ⟨by simp only; omega, hvv⟩
 ·exact Gn.canon (J := []) (by first | rfl | (simp [List.append_nil, Top.encT, encT, slR, slB, slI, Top.encP]; done) | (simp [List.append_nil, Top.encT, encT, slR, slB, slI, Top.encP]; rfl)) (by simp [wk, Top.slP, slH, putT, kp, dd, sv, nl]) (by simp [List.length_append]) (by simp [kp, dd, sv, nl]) (by simp)
 intro s hs
 obtain ⟨j, a1, a2⟩ := s
 obtain ⟨hj, hvj⟩ := hs
 simp only at hj hvj
 rw [List.drop_eq_getElem_cons hj] at hvj
 have hlst : j + 1 = l.length → l.drop (j + 1) = [] := fun h => List.drop_eq_nil_of_le (by omega)
 have hmore : ¬ j + 1 = l.length → ∃ g r', l.drop (j + 1) = g :: r' := fun h => ⟨_, _, List.drop_eq_getElem_cons (by omega)⟩
 generalize hrest : l.drop (j + 1) = rest at hvj hlst hmore
 generalize hh0 : l[j] = h at hvj
 obtain ⟨hs1, hi1, ho1⟩ := h
 have hjl : (j : Int) < l.length := by omega
 by_cases h1 : hs1 = a1
 case neg =>
  rw [vld_sw h1] at hvj
  rw [← hvj]
  refine vms3 hj hh0 h1 ?_
  refine endK.retA ?_; simp [evRes, getT, retV, Try.f13]
 by_cases h2 : hi1 = a2
 case neg =>
  rw [vld_in h2] at hvj
  rw [← hvj]
  subst h1
  refine vms3 hj hh0 h2 ?_
  refine endK.retA ?_; simp [evRes, getT, retV, Try.f13]
 subst h1
 subst h2
 by_cases hje : j + 1 = l.length
 ·have hje2 : (l.length : Int) - 1 = (j : Int) := by omega
  have hr0 := hlst hje
  subst hr0
  rw [vld_one rfl rfl] at hvj
  by_cases hd : (hs1, ho1) = (ds, di)
  ·rw [decide_eq_true hd, Bool.true_and] at hvj
   simp only [Prod.mk.injEq] at hd
   obtain ⟨rfl, rfl⟩ := hd
   subst hvj
   refine vms5 hj hh0 hje2 hy hdx ?_
   refine callG.pc1 h16 ?_
   refine vms0 ?_
   refine callG.pc1 h32 ?_
   refine vms0 ?_
   refine endK.retA ?_; simp [evRes, getT, retV, Try.f13]
  ·rw [decide_eq_false hd, Bool.false_and] at hvj
   rw [← hvj]
   have hcmp : ((hs1 == ds) && (ho1 == di)) = false := by
    rw [Bool.and_eq_false_iff, beq_eq_false_iff_ne, beq_eq_false_iff_ne]
    rw [Prod.mk.injEq] at hd
    omega
   refine vms6 hj hh0 hje2 hy hdx hcmp ?_
   refine endK.retA ?_; simp [evRes, getT, retV, Try.f13]
 have hje2 : ¬ (j : Int) = (l.length : Int) - 1 := by omega
 obtain ⟨g, r', hgr⟩ := hmore hje
 subst hgr
 have h27 := Top.pc27 t (hs1, ho1) hf
 by_cases hpe : (Top.peer t (hs1, ho1)).2 = 0
 ·rw [vld_go rfl rfl hpe, ← hrest] at hvj
  simp only at hvj
  generalize Top.peer t (hs1, ho1) = pe at h27 hpe hvj
  obtain ⟨⟨ps, pp⟩, er⟩ := pe
  simp only at hpe hvj
  refine vms3 hj hh0 hje2 ?_
  refine callO.pc h27 ?_
  refine vms1 hpe ?_
  refine ⟨(j + 1, ps, pp), ⟨by simp only; omega, hvj⟩, by (try simp only); omega, ?_⟩; exact Gn.canon (by first | rfl | (simp [List.append_nil, Top.encT, encT, slR, slB, slI, Top.encP]; rfl)) (by simp [wk, Top.slP, slH]) (by simp [List.length_append]) (by simp) (by simp)
 ·rw [vld_no hpe] at hvj
  rw [← hvj]
  generalize Top.peer t (hs1, ho1) = pe at h27 hpe
  obtain ⟨⟨ps, pp⟩, er⟩ := pe
  simp only at hpe
  refine vms3 hj hh0 hje2 ?_
  refine callO.pc h27 ?_
  refine vms1 hpe ?_
  refine endK.retA ?_; simp [evRes, getT, retV, Try.f13]
end Go.Proofs.Yticeakkgoafiaaa

/- Chapter 43: the chapter's example. -/
set_option maxRecDepth 100000
set_option maxHeartbeats 8000000
set_option linter.all false
namespace Go.Proofs.Yticeakkgoafiaaa
open Go.Vm
def tC : Top.Tp := ⟨[2, 2], [⟨(0, 1), (1, 0), false⟩], [(0, 0), (1, 1)]⟩
theorem fitC : tC.fit := ⟨by decide, by decide, by decide⟩
def wnt : List Hop := [⟨0, 0, 1⟩, ⟨1, 0, 1⟩]
attribute [local push_cast] cfg0
theorem pc24 : PC Try.prog 24 [] (.agg (Top.encT tC)) := by
 refine PC.walk tok mixed cfg0 Try.func24 rfl Try.call24 (by simp) (by first | rfl | simp) ?_; refine vms1 Try.ntmps24 ?_
 refine endK.retA ?_; simp [evRes, getT, retV, Try.f24,  Top.encT, tC, Top.slI, Top.slP, Top.slL, Top.encP, Top.encL, tt_26, Res.then, ldT, ldR, getO, mkV, getV, imp, lenOK_iff]
theorem pc20 : PC Try.prog 20 [] (slN (flat pAll)) := by
 refine PC.walk tok mixed cfg0 Try.func20 rfl Try.call20 (by simp) (by first | rfl | simp) ?_; refine vms1 Try.ntmps20 ?_
 refine endK.retA ?_; simp [evRes, getT, retV, Try.f20,  slN, encN, flat, pAll, op0]
theorem chkC : Top.chk tC = 0 := by kernel_rfl
theorem ok_of {x y : Int} {p : Pr} {a : Tb} (hb : ¬ badR tC x y) (hp : okP 2 p) (hc : checkP 2 (flat p) = 0) (hl : (flat p).length ≤ 24) (ha : autR p 2 = a) (h64 : a.next.length ≤ 64) : okR tC x y (flat p) p :=
 ⟨chkC, hb, hc, hp, rfl, hl, by rw [show tC.ports.length = 2 from rfl, ha]; exact h64⟩
theorem okAll {x y : Int} (hb : ¬ badR tC x y) : okR tC x y (flat pAll) pAll := ok_of hb ⟨rfl, .inr (.inl rfl), by decide +kernel⟩ (by decide +kernel) (by decide) rAll (by decide)
theorem okAny {x y : Int} (hb : ¬ badR tC x y) : okR tC x y (flat pAny) pAny := ok_of hb ⟨.inr (.inl rfl), by decide +kernel⟩ (by decide +kernel) (by decide) rAny (by decide)
theorem fnd_ok {f : Nat} {x y : Int} {p : Pr} (ho : okR tC x y (flat p) p) (h : FndR f tC x y (flat p)) : PC Try.prog f (argV tC x y (flat p)) (findV (findR tC (autR p tC.ports.length) (fit_of ho) (hostP tC x) (hostP tC y))) := by
 rcases h with ⟨e, he, _, _⟩ | ⟨q, hq, h⟩
 ·exact (okR_no he ho).elim
 ·have := okR_one hq ho
  subst this
  exact h
theorem fitAll : Fit tC tAll := by
 have := fit_of (okAll (x := 0) (y := 1) (by decide))
 rwa [show autR pAll tC.ports.length = tAll from rAll] at this
theorem fitAny : Fit tC tAny := by
 have := fit_of (okAny (x := 0) (y := 1) (by decide))
 rwa [show autR pAny tC.ports.length = tAny from rAny] at this
theorem fAll0 : findR tC tAll fitAll (0, 0) (1, 1) = some wnt := by decide +kernel
theorem fAny0 : findR tC tAny fitAny (0, 0) (1, 1) = none := by decide +kernel
theorem find_eq {a b : Tb} (e : a = b) (h : Fit tC a) (h' : Fit tC b) (s d : Int × Int) : findR tC a h s d = findR tC b h' s d := by
 subst e; rfl
theorem fAll : PC Try.prog 10 (argV tC 0 1 (flat pAll)) (findV (some wnt)) := by
 have ho := okAll (x := 0) (y := 1) (by decide)
 have := fnd_ok ho (pc10 tC 0 1 (flat pAll) fitC (by decide))
 rw [find_eq (show autR pAll tC.ports.length = tAll from rAll) (fit_of ho) fitAll] at this
 exact fAll0 ▸ this
theorem fAny : PC Try.prog 10 (argV tC 0 1 (flat pAny)) (findV none) := by
 have ho := okAny (x := 0) (y := 1) (by decide)
 have := fnd_ok ho (pc10 tC 0 1 (flat pAny) fitC (by decide))
 rw [find_eq (show autR pAny tC.ports.length = tAny from rAny) (fit_of ho) fitAny] at this
 exact fAny0 ▸ this
theorem mtAll : mtL (flat pAll) [0, 1] = true := by
 refine (mtL_iff (p := pAll) (l := [0, 1]) ⟨rfl, .inr (.inl rfl), by decide +kernel⟩ (by decide +kernel)).2 ?_
 show Star _ [0, 1]
 exact Star.cat (u := [0]) (v := [1]) (Star.one (by simp [Mt, op0])) (Star.one (by simp [Mt, op0]))
theorem val_ok {f : Nat} {x y : Int} {p : Pr} {l : List Hop} (ho : okR tC x y (flat p) p) (h : ValR f tC x y (flat p) l) : PC Try.prog f (argV tC x y (flat p) ++ [slH l]) (.bool (vld tC (hostP tC y) (mtL (flat p) (sws l)) (hostP tC x) l)) := by
 rcases h with ⟨e, he, _, _⟩ | ⟨q, hq, h⟩
 ·exact (okR_no he ho).elim
 ·exact h
theorem vAll : PC Try.prog 13 (argV tC 0 1 (flat pAll) ++ [slH wnt]) (.bool true) := by
 have ho := okAll (x := 0) (y := 1) (by decide)
 have := val_ok ho (pc13 tC 0 1 (flat pAll) wnt fitC (by decide) (by decide))
 rw [show sws wnt = [0, 1] from rfl, mtAll] at this
 rw [show vld tC (hostP tC 1) true (hostP tC 0) wnt = true by decide +kernel] at this
 exact this
theorem vBack : PC Try.prog 13 (argV tC 1 0 (flat pAll) ++ [slH wnt]) (.bool false) := by
 have ho := okAll (x := 1) (y := 0) (by decide)
 have := val_ok ho (pc13 tC 1 0 (flat pAll) wnt fitC (by decide) (by decide))
 rw [wnt, vld_sw (by decide)] at this
 exact this
theorem wntV : slH wnt = .sl false [.int .i64 0, .int .i64 0, .int .i64 1, .int .i64 1, .int .i64 0, .int .i64 1] 2 := rfl
theorem pc9 : PC Try.prog 9 [] (.bool true) := by
 have h20 := pc20
 have hA := fAll
 have hN := fAny
 have hV := vAll
 have hB := vBack
 rw [argV] at hA hN hV hB
 have h12 := pc12 wnt wnt (by decide)
 have h16 := pc16 wnt (by decide)
 have h15 := Top.pc15 [0, 1] [0, 1] (by decide)
 refine PC.walk tok mixed cfg0 Try.func9 rfl Try.call9 (by simp) (by first | rfl | simp) ?_; refine vms1 Try.ntmps9 ?_
 refine callO.pc pc24 ?_
 refine vms0 ?_
 refine callO.pc h20 ?_
 refine vms0 ?_
 refine callO.pc hA ?_
 simp (maxSteps := 2000000) -implicitDefEqProofs +contextual (disch := first | assumption | omega | decide +kernel) only [push_cast, ↓capI, seval, Nat.reduceLeDiff, Nat.reduceEqDiff, reduceCtorEq, ↓reduceIte, findV, wntV]
 refine callO.pc pc24 ?_
 refine vms0 ?_
 refine callO.pc hN ?_
 simp (maxSteps := 2000000) -implicitDefEqProofs +contextual (disch := first | assumption | omega | decide +kernel) only [push_cast, ↓capI, seval, Nat.reduceLeDiff, Nat.reduceEqDiff, reduceCtorEq, ↓reduceIte, findV, wntV]
 refine callO.pc h12 ?_
 simp (maxSteps := 2000000) -implicitDefEqProofs +contextual (disch := first | assumption | omega | decide +kernel) only [push_cast, ↓capI, seval, Nat.reduceLeDiff, Nat.reduceEqDiff, reduceCtorEq, ↓reduceIte, findV, wntV]
 refine callO.pc pc24 ?_
 simp (maxSteps := 2000000) -implicitDefEqProofs +contextual (disch := first | assumption | omega | decide +kernel) only [push_cast, ↓capI, seval, Nat.reduceLeDiff, Nat.reduceEqDiff, reduceCtorEq, ↓reduceIte, findV, wntV]
 refine callO.pc h20 ?_
 simp (maxSteps := 2000000) -implicitDefEqProofs +contextual (disch := first | assumption | omega | decide +kernel) only [push_cast, ↓capI, seval, Nat.reduceLeDiff, Nat.reduceEqDiff, reduceCtorEq, ↓reduceIte, findV, wntV]
 refine callO.pc hV ?_
 simp (maxSteps := 2000000) -implicitDefEqProofs +contextual (disch := first | assumption | omega | decide +kernel) only [push_cast, ↓capI, seval, Nat.reduceLeDiff, Nat.reduceEqDiff, reduceCtorEq, ↓reduceIte, findV, wntV]
 refine callO.pc pc24 ?_
 simp (maxSteps := 2000000) -implicitDefEqProofs +contextual (disch := first | assumption | omega | decide +kernel) only [push_cast, ↓capI, seval, Nat.reduceLeDiff, Nat.reduceEqDiff, reduceCtorEq, ↓reduceIte, findV, wntV]
 refine callO.pc h20 ?_
 simp (maxSteps := 2000000) -implicitDefEqProofs +contextual (disch := first | assumption | omega | decide +kernel) only [push_cast, ↓capI, seval, Nat.reduceLeDiff, Nat.reduceEqDiff, reduceCtorEq, ↓reduceIte, findV, wntV]
 refine callO.pc hB ?_
 simp (maxSteps := 2000000) -implicitDefEqProofs +contextual (disch := first | assumption | omega | decide +kernel) only [push_cast, ↓capI, seval, Nat.reduceLeDiff, Nat.reduceEqDiff, reduceCtorEq, ↓reduceIte, findV, wntV]
 refine callO.pc h16 ?_
 simp (maxSteps := 2000000) -implicitDefEqProofs +contextual (disch := first | assumption | omega | decide +kernel) only [push_cast, ↓capI, seval, Nat.reduceLeDiff, Nat.reduceEqDiff, reduceCtorEq, ↓reduceIte, findV, wntV]
 refine callO.pc h15 ?_
 simp (maxSteps := 2000000) -implicitDefEqProofs +contextual (disch := first | assumption | omega | decide +kernel) only [push_cast, ↓capI, seval, Nat.reduceLeDiff, Nat.reduceEqDiff, reduceCtorEq, ↓reduceIte, findV, wntV]
 refine endK.retA ?_; simp [evRes, getT, retV, Try.f9]
end Go.Proofs.Yticeakkgoafiaaa

/- Chapter 43: the arguments of the laws as plain data; what is small. -/
set_option maxRecDepth 100000
set_option maxHeartbeats 4000000
set_option linter.all false
namespace Go.Proofs.Yticeakkgoafiaaa
open Go.Vm Go.ChangeShapes Go.WideShapes Go.ChangeAt Go.RowKit
theorem own : ownKnob Try.prog.godebug = none := by kernel_rfl
theorem laidOut : laidOutB Try.prog = true := by kernel_rfl
theorem laxs_one {cs : List V} {y : V} (h : laxs cs = [y]) : ∃ x, cs = [x] ∧ lax x = y := by
 match cs, h with
 | [], h => cases h
 | [x], h => simp only [laxs, List.cons.injEq, and_true] at h; exact ⟨x, rfl, h⟩
 | x :: y :: r, h => simp [laxs] at h
theorem typ_I {m : Nat} (c : List V) (h : Typ tt (m + 1) 3 c) : ∃ x : Int, laxs c = [.int .i64 x] ∧ True := by
 obtain ⟨a, rfl, _⟩ := typ_int (by rw [tt_3]) h
 exact ⟨a, rfl, trivial⟩
theorem typ_P {m : Nat} (c : List V) (h : Typ tt (m + 2) 48 c) : ∃ x : Int × Int, laxs c = Top.encP x ∧ True := by
 have h := typ_struct (by rw [tt_48]) h
 obtain ⟨c1, r1, rfl, h1, h⟩ := typF_cons h
 obtain ⟨c2, r2, rfl, h2, h⟩ := typF_cons h
 obtain rfl := typF_nil h
 obtain ⟨a, rfl, _⟩ := typ_int (by rw [tt_3]) h1
 obtain ⟨b, rfl, _⟩ := typ_int (by rw [tt_3]) h2
 exact ⟨(a, b), rfl, trivial⟩
theorem typ_L {m : Nat} (c : List V) (h : Typ tt (m + 3) 76 c) : ∃ x : Top.Lk, laxs c = Top.encL x ∧ True := by
 have h := typ_struct (by rw [tt_76]) h
 obtain ⟨c1, r1, rfl, h1, h⟩ := typF_cons h
 obtain ⟨c2, r2, rfl, h2, h⟩ := typF_cons h
 obtain ⟨c3, r3, rfl, h3, h⟩ := typF_cons h
 obtain rfl := typF_nil h
 obtain ⟨a, ha, _⟩ := typ_P (m := m) c1 h1
 obtain ⟨b, hb, _⟩ := typ_P (m := m) c2 h2
 obtain ⟨d, rfl⟩ := typ_bool (by rw [tt_4]) h3
 refine ⟨⟨a, b, d⟩, ?_, trivial⟩
 rw [laxs_append, laxs_append, laxs_append, ha, hb]
 rfl
theorem typ_T {m : Nat} {c : List V} (h : Typ tt (m + 5) 26 c) : ∃ t : Top.Tp, lax (mkV (tt 26) c) = .agg (Top.encT t) := by
 have h := typ_struct (by rw [tt_26]) h
 obtain ⟨c1, r1, rfl, h1, h⟩ := typF_cons h
 obtain ⟨c2, r2, rfl, h2, h⟩ := typF_cons h
 obtain ⟨c3, r3, rfl, h3, h⟩ := typF_cons h
 obtain rfl := typF_nil h
 obtain ⟨p, hp, _, _⟩ := typ_slice (by rw [tt_22]) typ_I h1
 obtain ⟨l, hl, _, _⟩ := typ_slice (by rw [tt_23]) typ_L h2
 obtain ⟨q, hq, _, _⟩ := typ_slice (by rw [tt_24]) typ_P h3
 refine ⟨⟨p, l, q⟩, ?_⟩
 rw [show ∀ c, mkV (tt 26) c = .agg c from fun c => by rw [tt_26]; rfl, Go.Vm.lax, laxs_append, laxs_append, laxs_append, hp, hl, hq]
 simp only [flatMap_one]
 rfl
theorem typ_N {m : Nat} (c : List V) (h : Typ tt (m + 2) 52 c) : ∃ x : Nd, laxs c = encN x ∧ True := by
 have h := typ_struct (by rw [tt_52]) h
 obtain ⟨c1, r1, rfl, h1, h⟩ := typF_cons h
 obtain ⟨c2, r2, rfl, h2, h⟩ := typF_cons h
 obtain rfl := typF_nil h
 obtain ⟨a, ha, _⟩ := typ_I _ h1
 obtain ⟨b, hb, _⟩ := typ_I _ h2
 refine ⟨⟨a, b⟩, ?_, trivial⟩
 rw [laxs_append, laxs_append, ha, hb]
 rfl
theorem typ_sN {m : Nat} {c : List V} (h : Typ tt (m + 3) 27 c) : ∃ l : List Nd, laxs c = [slN l] := by
 obtain ⟨l, hl, _, _⟩ := typ_slice (by rw [tt_27]) typ_N h
 exact ⟨l, hl⟩
theorem typ_slN {m : Nat} {c : List V} (h : Typ tt (m + 3) 27 c) : ∃ l : List Nd, lax (mkV (tt 27) c) = slN l := by
 obtain ⟨l, hl⟩ := typ_sN h
 obtain ⟨x, rfl, hx⟩ := laxs_one hl
 refine ⟨l, ?_⟩
 rw [tt_27]
 exact hx
theorem typ_H {m : Nat} (c : List V) (h : Typ tt (m + 2) 42 c) : ∃ x : Hop, laxs c = encH x ∧ True := by
 have h := typ_struct (by rw [tt_42]) h
 obtain ⟨c1, r1, rfl, h1, h⟩ := typF_cons h
 obtain ⟨c2, r2, rfl, h2, h⟩ := typF_cons h
 obtain ⟨c3, r3, rfl, h3, h⟩ := typF_cons h
 obtain rfl := typF_nil h
 obtain ⟨a, ha, _⟩ := typ_I _ h1
 obtain ⟨b, hb, _⟩ := typ_I _ h2
 obtain ⟨d, hd, _⟩ := typ_I _ h3
 refine ⟨⟨a, b, d⟩, ?_, trivial⟩
 rw [laxs_append, laxs_append, laxs_append, ha, hb, hd]
 rfl
theorem typ_slH {m : Nat} {c : List V} (h : Typ tt (m + 3) 32 c) : ∃ l : List Hop, lax (mkV (tt 32) c) = slH l := by
 obtain ⟨l, hl, _, _⟩ := typ_slice (by rw [tt_32]) typ_H h
 obtain ⟨x, rfl, hx⟩ := laxs_one hl
 refine ⟨l, ?_⟩
 rw [tt_32]
 exact hx
theorem typ_J {m : Nat} {c : List V} (h : Typ tt (m + 1) 3 c) : ∃ x : Int, lax (mkV (tt 3) c) = .int .i64 x := by
 obtain ⟨a, rfl, _⟩ := typ_int (by rw [tt_3]) h
 exact ⟨a, by rw [tt_3]; rfl⟩
structure Qy where
 x : Int
 y : Int
 r : List Nd
def encQ (q : Qy) : List V := [.int .i64 q.x, .int .i64 q.y, slN q.r]
@[simp] theorem bel_encQ {n : Nat} (q : Qy) : belAll n (encQ q) = true := by rw [encQ, belAll_cons, belAll_cons, belAll_cons, bel_slN]; rfl
theorem typ_Q {m : Nat} {c : List V} (h : Typ tt (m + 4) 29 c) : ∃ q : Qy, lax (mkV (tt 29) c) = .agg (encQ q) := by
 have h := typ_struct (by rw [tt_29]) h
 obtain ⟨c1, r1, rfl, h1, h⟩ := typF_cons h
 obtain ⟨c2, r2, rfl, h2, h⟩ := typF_cons h
 obtain ⟨c3, r3, rfl, h3, h⟩ := typF_cons h
 obtain rfl := typF_nil h
 obtain ⟨a, ha, _⟩ := typ_I _ h1
 obtain ⟨b, hb, _⟩ := typ_I _ h2
 obtain ⟨r, hr⟩ := typ_sN h3
 refine ⟨⟨a, b, r⟩, ?_⟩
 rw [show ∀ c, mkV (tt 29) c = .agg c from fun c => by rw [tt_29]; rfl, Go.Vm.lax, laxs_append, laxs_append, laxs_append, ha, hb, hr]
 rfl
theorem spec_two {s : ChangeSpec} {H : Type} (h : s.fn H = fun | [d, e] => { results := [.lit (.bool true)], args := [d, e] } | _ => Rows.none) (ds : List (DataW H)) (hl : ds.length = 2) :
  s.fn H ds = { results := [.lit (.bool true)], args := ds } := by
 rw [h]
 match ds, hl with
 | [d, e], _ => rfl
theorem spec_three {s : ChangeSpec} {H : Type} (h : s.fn H = fun | [d, e, f] => { results := [.lit (.bool true)], args := [d, e, f] } | _ => Rows.none) (ds : List (DataW H)) (hl : ds.length = 3) :
  s.fn H ds = { results := [.lit (.bool true)], args := ds } := by
 rw [h]
 match ds, hl with
 | [d, e, f], _ => rfl
def smallQ (t : Top.Tp) (q : Qy) : Bool := Top.small t && decide ((q.r.length : Int) ≤ 30)
attribute [local push_cast] cfg0 encQ slN Top.encT Top.slI Top.slP Top.slL
theorem pc8 (t : Top.Tp) (q : Qy) : PC Try.prog 8 [.agg (Top.encT t), .agg (encQ q)] (.bool (smallQ t q)) := by
 have h18 := Top.pc18 t
 rw [smallQ]
 generalize Top.small t = b at h18
 obtain ⟨x, y, r⟩ := q
 cases b
 ·refine PC.walk tok mixed cfg0 Try.func8 rfl Try.call8 (by simp) (by first | rfl | simp) ?_; refine vms1 Try.ntmps8 ?_
  refine callO.pc h18 ?_
  refine vms0 ?_
  refine endK.retA ?_; simp [evRes, getT, retV, Try.f8]
 ·by_cases h : (r.length : Int) ≤ 30
  ·refine PC.walk tok mixed cfg0 Try.func8 rfl Try.call8 (by simp) (by first | rfl | simp) ?_; refine vms1 Try.ntmps8 ?_
   refine callO.pc h18 ?_
   refine vms1 h ?_
   refine endK.retA ?_; simp [evRes, getT, retV, Try.f8,  h]
  ·refine PC.walk tok mixed cfg0 Try.func8 rfl Try.call8 (by simp) (by first | rfl | simp) ?_; refine vms1 Try.ntmps8 ?_
   refine callO.pc h18 ?_
   refine vms1 h ?_
   refine endK.retA ?_; simp [evRes, getT, retV, Try.f8,  h]
theorem small_of {t : Top.Tp} {q : Qy} (h : smallQ t q = true) : t.fit ∧ q.r.length ≤ 30 := by
 rw [smallQ, Bool.and_eq_true, decide_eq_true_eq] at h
 exact ⟨Top.small_fit h.1, by omega⟩
theorem walk_out {t : Top.Tp} {a : Tb} {dst : Int} (h : Fit t a) : ∀ (n : Nat) (w : Wr), ((gR t a dst h).walk n w).out.length ≤ w.out.length + n
 | 0, w => Nat.le_refl _
 | n + 1, w => by
  rw [Gph.walk]
  split
  ·omega
  ·split
   ·omega
   ·rename_i w' e
    have := walk_out (dst := dst) h n w'
    have := stp_out (show stpR t a w _ = some w' from e)
    omega
theorem find_len {t : Top.Tp} {a : Tb} {h : Fit t a} {s d : Int × Int} {l : List Hop} (hl : findR t a h s d = some l) : l.length ≤ 1025 := by
 rw [findR] at hl
 split at hl
 ·cases hl
 ·rw [Option.map_eq_some_iff] at hl
  obtain ⟨w, hw, rfl⟩ := hl
  rw [Gph.found] at hw
  split at hw
  ·cases hw
  ·cases hw
   have h1 := walk_out (dst := d.1) h ((gR t a d.1 h).D ((gR t a d.1 h).key ⟨s.1, nxA a 0 s.1, s.2, []⟩)).toNat ⟨s.1, nxA a 0 s.1, s.2, []⟩
   have h2 := ((gR t a d.1 h).dN_rng (gR t a d.1 h).states.length ((gR t a d.1 h).key ⟨s.1, nxA a 0 s.1, s.2, []⟩)).2
   have h3 : (gR t a d.1 h).states.length ≤ 1024 := by
    rw [show (gR t a d.1 h).states = statesR t a from rfl, len_states]
    exact Nat.le_trans (Nat.mul_le_mul (Top.chk_valid h.top).small h.few) (by decide)
   have h4 : (gR t a d.1 h).D ((gR t a d.1 h).key ⟨s.1, nxA a 0 s.1, s.2, []⟩) = (gR t a d.1 h).dN (gR t a d.1 h).states.length ((gR t a d.1 h).key ⟨s.1, nxA a 0 s.1, s.2, []⟩) := rfl
   rw [finW, List.length_append]
   simp only [List.length_singleton, List.length_nil] at h1 ⊢
   omega
def hopV (v : V) (e : Int) (o : Option (List Hop)) : Prop := (v = .sl true [] 0 ∧ e ≠ 0 ∧ o = none) ∨ (∃ l, v = slH l ∧ e = 0 ∧ o = some l ∧ l.length ≤ 1025)
theorem hop12 {v : V} {e : Int} {o : Option (List Hop)} (h : hopV v e o) : PC Try.prog 12 [v, v] (.bool true) := by
 rcases h with ⟨rfl, _, _⟩ | ⟨l, rfl, _, _, hl⟩
 ·exact PC.lax (args := [.sl true [] 0, .sl true [] 0]) (show PC Try.prog 12 [slH [], slH []] (.bool true) from pc12 [] [] (by decide))
 ·have := pc12 l l (by omega)
  rwa [decide_eq_true rfl] at this
end Go.Proofs.Yticeakkgoafiaaa

/- Chapter 42: the automaton of partial derivatives accepts what the expression matches (plain). -/
set_option maxRecDepth 100000
set_option maxHeartbeats 4000000
set_option linter.all false
namespace Go.Proofs.Yticeakkgoafiaaa
open Go.Vm
def MN : Nx → List Int → Prop
 | .eps, w => w = []
 | .any, w => w.length = 1
 | .one n, w => w = [n]
 | .star a, w => Star (MN a) w
 | .cat a b, w => ∃ u v, w = u ++ v ∧ MN a u ∧ MN b v
 | .alt a b, w => MN a w ∨ MN b w
theorem MN_nx (sw : Int) : ∀ (p : Pr) (w : List Int), okP sw p → (MN (nxP p) w ↔ Mt p w)
 | .leaf x, w, hp => by
  rw [nxP, Mt]
  by_cases h1 : x.op = 1
  ·rw [if_pos h1, if_pos h1, MN]
  ·by_cases h2 : x.op = 2
   ·rw [if_neg h1, if_neg h1, if_pos h2, if_pos h2, MN]
   ·have h3 : x.op = 3 := by have := hp.1; omega
    rw [if_neg h1, if_neg h1, if_neg h2, if_neg h2, MN, nN, if_pos h3]
 | .un x p, w, hp => by
  have ih := fun w => MN_nx sw p w hp.2
  rw [nxP, Mt, MN]
  exact ⟨fun h => h.mono fun w hw => (ih w).1 hw, fun h => h.mono fun w hw => (ih w).2 hw⟩
 | .bin x p q, w, hp => by
  have ih1 := fun w => MN_nx sw p w hp.2.1
  have ih2 := fun w => MN_nx sw q w hp.2.2
  rw [nxP, Mt]
  by_cases h5 : x.op = 5
  ·rw [if_pos h5, if_neg (by omega), MN, ih1, ih2]
  ·have h4 : x.op = 4 := by have := hp.1; omega
   rw [if_neg h5, if_pos h4, MN]
   constructor
   ·rintro ⟨u, v, e, h1, h2⟩
    exact ⟨u, v, e, (ih1 u).1 h1, (ih2 v).1 h2⟩
   ·rintro ⟨u, v, e, h1, h2⟩
    exact ⟨u, v, e, (ih1 u).2 h1, (ih2 v).2 h2⟩
theorem nul_iff : ∀ x : Nx, nul x = true ↔ MN x []
 | .eps => by simp [nul, MN]
 | .any => by simp [nul, MN]
 | .one n => by simp [nul, MN]
 | .star a => by
  rw [nul, MN]
  exact ⟨fun _ => .nil, fun _ => rfl⟩
 | .cat a b => by
  have h1 := nul_iff a
  have h2 := nul_iff b
  rw [nul, MN, Bool.and_eq_true, h1, h2]
  constructor
  ·rintro ⟨h1, h2⟩; exact ⟨[], [], rfl, h1, h2⟩
  ·rintro ⟨u, v, e, h1, h2⟩
   have e := e.symm
   rw [List.append_eq_nil_iff] at e
   obtain ⟨rfl, rfl⟩ := e
   exact ⟨h1, h2⟩
 | .alt a b => by
  have h1 := nul_iff a
  have h2 := nul_iff b
  rw [nul, MN, Bool.or_eq_true, h1, h2]
theorem seq_iff {d b : Nx} {w : List Int} : MN (seqA d b) w ↔ ∃ u v, w = u ++ v ∧ MN d u ∧ MN b v := by
 rw [seqA]
 split
 ·rename_i h
  subst h
  constructor
  ·intro h; exact ⟨[], w, rfl, rfl, h⟩
  ·rintro ⟨u, v, rfl, h1, h2⟩
   rw [MN] at h1
   subst h1
   exact h2
 ·rw [MN]
theorem drv_iff (s : Int) : ∀ (x : Nx) (w : List Int), MN x (s :: w) ↔ ∃ y ∈ drv s x, MN y w
 | .eps, w => by simp [MN, drv]
 | .any, w => by simp [MN, drv]
 | .one n, w => by
  rw [MN, drv]
  split
  ·rename_i h
   subst h
   simp [MN]
  ·rename_i h
   constructor
   ·intro e
    injection e with e1 e2
    exact absurd e1.symm h
   ·rintro ⟨y, hy, _⟩
    cases hy
 | .star a, w => by
  have ih := drv_iff s a
  rw [drv]
  constructor
  ·intro h
   rw [MN] at h
   rcases h.first with h | ⟨u, v, e, hu, hv, hn⟩
   ·cases h
   ·cases u with
    | nil => exact absurd rfl hn
    | cons c u =>
     injection e with e1 e2
     subst e1
     obtain ⟨y, hy, hm⟩ := (ih u).1 hu
     exact ⟨_, List.mem_map_of_mem hy, seq_iff.2 ⟨u, v, e2, hm, by rw [MN]; exact hv⟩⟩
  ·rintro ⟨y, hy, hm⟩
   obtain ⟨d, hd, rfl⟩ := List.mem_map.1 hy
   obtain ⟨u, v, rfl, h1, h2⟩ := seq_iff.1 hm
   rw [MN] at h2 ⊢
   rw [← List.cons_append]
   exact .app ((ih u).2 ⟨d, hd, h1⟩) h2
 | .cat a b, w => by
  have ih1 := drv_iff s a
  have ih2 := drv_iff s b
  rw [drv, MN]
  constructor
  ·rintro ⟨u, v, e, hu, hv⟩
   cases u with
   | nil =>
    rw [List.nil_append] at e
    subst e
    obtain ⟨y, hy, hm⟩ := (ih2 w).1 hv
    refine ⟨y, List.mem_append.2 (.inr ?_), hm⟩
    rw [if_pos ((nul_iff a).2 hu)]
    exact hy
   | cons c u =>
    injection e with e1 e2
    subst e1
    obtain ⟨y, hy, hm⟩ := (ih1 u).1 hu
    exact ⟨_, List.mem_append.2 (.inl (List.mem_map_of_mem hy)), seq_iff.2 ⟨u, v, e2, hm, hv⟩⟩
  ·rintro ⟨y, hy, hm⟩
   rcases List.mem_append.1 hy with hy | hy
   ·obtain ⟨d, hd, rfl⟩ := List.mem_map.1 hy
    obtain ⟨u, v, rfl, h1, h2⟩ := seq_iff.1 hm
    exact ⟨s :: u, v, rfl, (ih1 u).2 ⟨d, hd, h1⟩, h2⟩
   ·split at hy
    ·rename_i hn
     exact ⟨[], s :: w, rfl, (nul_iff a).1 hn, (ih2 w).2 ⟨y, hy, hm⟩⟩
    ·cases hy
 | .alt a b, w => by
  have ih1 := drv_iff s a w
  have ih2 := drv_iff s b w
  rw [drv, MN, ih1, ih2]
  constructor
  ·rintro (⟨y, hy, h⟩ | ⟨y, hy, h⟩)
   ·exact ⟨y, List.mem_append.2 (.inl hy), h⟩
   ·exact ⟨y, List.mem_append.2 (.inr hy), h⟩
  ·rintro ⟨y, hy, h⟩
   rcases List.mem_append.1 hy with hy | hy
   ·exact .inl ⟨y, hy, h⟩
   ·exact .inr ⟨y, hy, h⟩
def SL (L : List Nx) (set : W64) (w : List Int) : Prop := ∃ (i : Nat) (x : Nx), set.getLsbD i = true ∧ L[i]? = some x ∧ MN x w
def Pre (L L' : List Nx) : Prop := ∀ (i : Nat) (y : Nx), L[i]? = some y → L'[i]? = some y
theorem SL_mono {L L' : List Nx} (h : Pre L L') {set : W64} (hb : bitsIn set L.length) {w : List Int} : SL L set w ↔ SL L' set w := by
 constructor
 ·rintro ⟨i, x, h1, h2, h3⟩
  exact ⟨i, x, h1, h i x h2, h3⟩
 ·rintro ⟨i, x, h1, h2, h3⟩
  have hl := hb i h1
  have := h i _ (List.getElem?_eq_getElem hl)
  rw [h2] at this
  cases this
  exact ⟨i, _, h1, List.getElem?_eq_getElem hl, h3⟩
theorem num_at (L : List Nx) (x : Nx) : (num L x).1[(num L x).2]? = some x := by
 have aux : ∀ (L : List Nx) (k : Nat), idx x L = some k → L[k]? = some x := by
  intro L
  induction L with
  | nil => intro k h; simp [idx] at h
  | cons y r ih =>
   intro k h
   simp only [idx] at h
   split at h
   ·rename_i e; cases h; simp [e]
   ·rw [Option.map_eq_some_iff] at h
    obtain ⟨j, hj, rfl⟩ := h
    simpa using ih j hj
 unfold num
 split
 ·rename_i k hk; exact aux _ _ hk
 ·rw [List.getElem?_append_right (Nat.le_refl _), Nat.sub_self]; rfl
theorem addD_SL {s : Ds} {x : Nx} (hb : bitsIn s.2 s.1.length) (hk : (num s.1 x).2 < 64) {w : List Int} : SL (addD s x).1 (addD s x).2 w ↔ SL s.1 s.2 w ∨ MN x w := by
 have hbit : ∀ i, (addD s x).2.getLsbD i = true ↔ s.2.getLsbD i = true ∨ i = (num s.1 x).2 := fun i => by
  simp only [addD, BitVec.getLsbD_or, Bool.or_eq_true]
  constructor
  ·rintro (h | h)
   ·exact .inl h
   ·right
    simp only [BitVec.getLsbD_shiftLeft, Bool.and_eq_true, decide_eq_true_eq, Bool.not_eq_true', decide_eq_false_iff_not] at h
    have := h.2
    rw [BitVec.getLsbD_one] at this
    simp at this
    omega
  ·rintro (h | rfl)
   ·exact .inl h
   ·right
    simp only [BitVec.getLsbD_shiftLeft, Bool.and_eq_true, decide_eq_true_eq, Bool.not_eq_true', decide_eq_false_iff_not]
    refine ⟨⟨hk, by omega⟩, ?_⟩
    rw [Nat.sub_self]
    rfl
 rw [SL_mono (L' := (addD s x).1) (fun i y h => num_get h) hb]
 constructor
 ·rintro ⟨i, y, h1, h2, h3⟩
  rcases (hbit i).1 h1 with h | rfl
  ·exact .inl ⟨i, y, h, h2, h3⟩
  ·rw [show (addD s x).1 = (num s.1 x).1 from rfl, num_at] at h2
   cases h2
   exact .inr h3
 ·rintro (⟨i, y, h1, h2, h3⟩ | h)
  ·exact ⟨i, y, (hbit i).2 (.inl h1), h2, h3⟩
  ·exact ⟨_, x, (hbit _).2 (.inr rfl), num_at s.1 x, h⟩
theorem num_lt {D L : List Nx} (hD : Cls D) {x : Nx} (h : goodL D L) (hx : x ∈ D) : (num L x).2 < 64 := by
 have h1 := (List.getElem?_eq_some_iff.1 (num_at L x)).1
 have h2 := (num_good h hx).len
 have h3 := hD.len
 omega
theorem addL_SL {D : List Nx} (hD : Cls D) {w : List Int} : ∀ (l : List Nx) (s : Ds), goodL D s.1 → bitsIn s.2 s.1.length → (∀ y ∈ l, y ∈ D) → (SL (addL s l).1 (addL s l).2 w ↔ SL s.1 s.2 w ∨ ∃ y ∈ l, MN y w)
 | [], s, _, _, _ => by simp [addL]
 | x :: r, s, hg, hb, hl => by
  have hx := hl x (by simp)
  have := addL_SL hD (w := w) r (addD s x) (num_good hg hx) (num_bits hb) (fun y hy => hl y (by simp [hy]))
  rw [show addL s (x :: r) = addL (addD s x) r from rfl, this, addD_SL hb (num_lt hD hg hx)]
  constructor
  ·rintro ((h | h) | ⟨y, hy, h⟩)
   ·exact .inl h
   ·exact .inr ⟨x, by simp, h⟩
   ·exact .inr ⟨y, by simp [hy], h⟩
  ·rintro (h | ⟨y, hy, h⟩)
   ·exact .inl (.inl h)
   ·rcases List.mem_cons.1 hy with rfl | hy
    ·exact .inl (.inr h)
    ·exact .inr ⟨y, hy, h⟩
theorem stepN_SL {D : List Nx} (hD : Cls D) {sw : Int} {set : W64} {L : List Nx} (hg : goodL D L) (hb : bitsIn set L.length) {w : List Int} : ∀ n,
  SL (stepN sw set n (L, 0#64)).1 (stepN sw set n (L, 0#64)).2 w ↔ ∃ i x, i < n ∧ set.getLsbD i = true ∧ L[i]? = some x ∧ MN x (sw :: w)
 | 0 => by
  simp only [stepN, SL]
  constructor
  ·rintro ⟨i, x, h, _⟩; simp at h
  ·rintro ⟨i, x, h, _⟩; omega
 | n + 1 => by
  have ih := stepN_SL hD (sw := sw) hg hb (w := w) n
  have hgn := stepN_good hD (sw := sw) (set := set) (s := (L, 0#64)) hg n
  have hbn := stepN_bits (sw := sw) (set := set) (s := (L, 0#64)) (fun i hi => by simp at hi) n
  have hget := fun i y h => stepN_get (sw := sw) (set := set) (s := (L, 0#64)) (i := i) (y := y) h n
  rw [stepN]
  generalize stepN sw set n (L, 0#64) = s at ih hgn hbn hget
  rw [stepI]
  by_cases hn : set.getLsbD n = true
  ·rw [if_pos hn]
   have hl := hb n hn
   have hx := hget n _ (List.getElem?_eq_getElem hl)
   rw [hx]
   simp only
   rw [addL_SL hD _ _ hgn hbn (hD.clos _ (hgn.2 _ (List.mem_of_getElem? hx)) sw), ih, ← drv_iff]
   constructor
   ·rintro (⟨i, x, h1, h2, h3, h4⟩ | h)
    ·exact ⟨i, x, by omega, h2, h3, h4⟩
    ·exact ⟨n, _, by omega, hn, List.getElem?_eq_getElem hl, h⟩
   ·rintro ⟨i, x, h1, h2, h3, h4⟩
    by_cases e : i = n
    ·subst e
     rw [List.getElem?_eq_getElem hl] at h3
     cases h3
     exact .inr h4
    ·exact .inl ⟨i, x, by omega, h2, h3, h4⟩
  ·rw [if_neg hn, ih]
   constructor
   ·rintro ⟨i, x, h1, h2⟩; exact ⟨i, x, by omega, h2⟩
   ·rintro ⟨i, x, h1, h2⟩
    refine ⟨i, x, ?_, h2⟩
    by_cases e : i = n
    ·subst e; exact absurd h2.1 hn
    ·omega
theorem stepS_SL {D : List Nx} (hD : Cls D) {sw : Int} {set : W64} {L : List Nx} (hg : goodL D L) (hb : bitsIn set L.length) {w : List Int} :
  SL (stepS sw set L).1 (stepS sw set L).2 w ↔ SL L set (sw :: w) := by
 rw [stepS, stepN_SL hD hg hb]
 constructor
 ·rintro ⟨i, x, _, h⟩; exact ⟨i, x, h⟩
 ·rintro ⟨i, x, h⟩
  refine ⟨i, x, ?_, h⟩
  by_cases e : i < 64
  ·exact e
  ·have := BitVec.getLsbD_of_ge set i (by omega)
   rw [this] at h
   exact absurd h.1 (by decide)
theorem stepS_pre {sw : Int} {set : W64} {L : List Nx} : Pre L (stepS sw set L).1 := fun _ _ h => stepN_get (s := (L, 0#64)) h 64
theorem Pre.trans {L L' L'' : List Nx} (h : Pre L L') (h' : Pre L' L'') : Pre L L'' := fun i y hy => h' i y (h i y hy)
theorem accI_iff {set : W64} : ∀ (L : List Nx) (i : Nat), accI set i L = true ↔ ∃ (j : Nat) (x : Nx), set.getLsbD (i + j) = true ∧ L[j]? = some x ∧ nul x = true
 | [], i => by simp [accI]
 | x :: r, i => by
  have ih := accI_iff (set := set) r (i + 1)
  rw [accI, Bool.or_eq_true, Bool.and_eq_true, ih]
  constructor
  ·rintro (⟨h1, h2⟩ | ⟨j, y, h1, h2, h3⟩)
   ·exact ⟨0, x, h1, rfl, h2⟩
   ·exact ⟨j + 1, y, by rw [show i + (j + 1) = i + 1 + j from by omega]; exact h1, by simpa using h2, h3⟩
  ·rintro ⟨j, y, h1, h2, h3⟩
   cases j with
   | zero =>
    simp only [List.getElem?_cons_zero, Option.some.injEq] at h2
    subst h2
    exact .inl ⟨h1, h3⟩
   | succ j =>
    exact .inr ⟨j, y, by rw [show i + 1 + j = i + (j + 1) from by omega]; exact h1, by simpa using h2, h3⟩
theorem accS_SL {set : W64} {L : List Nx} : accS set L = true ↔ SL L set [] := by
 rw [accS, accI_iff]
 simp only [Nat.zero_add, SL, nul_iff]
def EntD (L : List Nx) (sets : List W64) (set : W64) (e : Int) (j : Nat) : Prop :=
 (e = -1 ∧ ∀ w, ¬ SL L set ((j : Int) :: w)) ∨ ∃ (k : Nat) (y : W64), e = (k : Int) ∧ sets[k]? = some y ∧ ∀ w, SL L y w ↔ SL L set ((j : Int) :: w)
theorem EntD.mono {D L L' : List Nx} {sets sets' : List W64} {set : W64} {e : Int} {j : Nat} (h : EntD L sets set e j) (hp : Pre L L') (hs : ∀ (i : Nat) (y : W64), sets[i]? = some y → sets'[i]? = some y) (hb : bitsIn set L.length) (hb2 : ∀ x ∈ sets, bitsIn x L.length) : EntD L' sets' set e j := by
 rcases h with ⟨h1, h2⟩ | ⟨k, y, h1, h2, h3⟩
 ·exact .inl ⟨h1, fun w hw => h2 w ((SL_mono hp hb).2 hw)⟩
 ·refine .inr ⟨k, y, h1, hs k y h2, fun w => ?_⟩
  rw [← SL_mono hp (hb2 y (List.mem_of_getElem? h2)), ← SL_mono hp hb]
  exact h3 w
theorem rowN_pre {set : W64} {L : List Nx} {sets : List W64} : ∀ n, Pre L (rowN set L sets n).L
 | 0 => fun _ _ h => h
 | n + 1 => by
  have ih := rowN_pre (set := set) (L := L) (sets := sets) n
  rw [rowN, rowI]
  split
  ·exact ih.trans stepS_pre
  ·split
   ·exact ih.trans stepS_pre
   ·exact ih.trans stepS_pre
theorem idxW_some {x : W64} : ∀ {l : List W64} {k : Nat}, idxW x l = some k → l[k]? = some x
 | [], k, h => by simp [idxW] at h
 | y :: r, k, h => by
  simp only [idxW] at h
  split at h
  ·rename_i e; cases h; simp [e]
  ·rw [Option.map_eq_some_iff] at h
   obtain ⟨j, hj, rfl⟩ := h
   simpa using idxW_some hj
theorem rowN_ent {D : List Nx} (hD : Cls D) {set : W64} {L : List Nx} {sets : List W64} (h : Rok D ⟨L, sets, []⟩) (hset : bitsIn set L.length) : ∀ n, ∀ j, j < n → EntD (rowN set L sets n).L (rowN set L sets n).sets set ((rowN set L sets n).row.getD j 0) j
 | 0, j, hj => by omega
 | n + 1, j, hj => by
  have ih := fun hj' => rowN_ent hD h hset n j hj'
  have hok := (rowN_ok hD (set := set) h n).1
  have hle := (rowN_ok hD (set := set) h n).2
  have hpre := rowN_pre (set := set) (L := L) (sets := sets) n
  have hlen := rowN_len set L sets n
  rw [rowN]
  generalize rowN set L sets n = s at ih hok hle hpre hlen
  obtain ⟨L1, sets1, row⟩ := s
  simp only at ih hok hle hpre hlen
  have hb1 : bitsIn set L1.length := hset.le hle
  have hst := stepS_ok hD (sw := (n : Int)) (set := set) hok.good
  have hSL := fun w => stepS_SL hD (sw := (n : Int)) hok.good hb1 (w := w)
  have hp2 : Pre L1 (stepS (n : Int) set L1).1 := stepS_pre
  have hlt : ∀ y : Int, j < n → (row ++ [y]).getD j 0 = row.getD j 0 := fun y h => by
   rw [List.getD_eq_getElem?_getD, List.getD_eq_getElem?_getD, List.getElem?_append_left (by omega)]
  have heq : ∀ y : Int, j = n → (row ++ [y]).getD j 0 = y := fun y h => by
   rw [List.getD_eq_getElem?_getD, List.getElem?_append_right (by omega), show j - row.length = 0 from by omega]; rfl
  rw [rowI]
  simp only
  split
  ·rename_i h0
   simp only
   by_cases hjn : j < n
   ·rw [hlt _ hjn]
    exact (ih hjn).mono (D := D) hp2 (fun _ _ h => h) hb1 hok.bits
   ·rw [heq _ (by omega), show j = n from by omega]
    refine .inl ⟨rfl, fun w hw => ?_⟩
    rw [← SL_mono hp2 hb1] at hw
    have := (hSL w).2 hw
    rw [h0] at this
    obtain ⟨i, x, h1, _⟩ := this
    simp at h1
  ·split
   ·rename_i k hk
    simp only
    by_cases hjn : j < n
    ·rw [hlt _ hjn]
     exact (ih hjn).mono (D := D) hp2 (fun _ _ h => h) hb1 hok.bits
    ·rw [heq _ (by omega), show j = n from by omega]
     refine .inr ⟨k, _, rfl, idxW_some hk, fun w => ?_⟩
     rw [hSL w, SL_mono hp2 hb1]
   ·simp only
    by_cases hjn : j < n
    ·rw [hlt _ hjn]
     exact (ih hjn).mono (D := D) hp2 (fun i y h => by rw [List.getElem?_append_left (List.getElem?_eq_some_iff.1 h).1]; exact h) hb1 hok.bits
    ·rw [heq _ (by omega), show j = n from by omega]
     refine .inr ⟨sets1.length, _, rfl, by rw [List.getElem?_append_right (Nat.le_refl _), Nat.sub_self]; rfl, fun w => ?_⟩
     rw [hSL w, SL_mono hp2 hb1]
structure Dlg (m : Nat) (x : Nx) (s : Ds2) : Prop where
 fst : s.L[0]? = some x ∧ s.sets[0]? = some 1#64
 ent : ∀ k, k < s.rows.length → ∀ y, s.sets[k]? = some y → ∀ j, j < m → EntD s.L s.sets y (gI (s.rows.getD k []) j) j
 acc : ∀ k, k < s.rows.length → ∀ y, s.sets[k]? = some y → (s.accs.getD k false = true ↔ SL s.L y [])
theorem detN_lg {D : List Nx} (hD : Cls D) {x : Nx} (hx : x ∈ D) {m : Nat} : ∀ i, Dlg m x (detN m x i)
 | 0 => ⟨⟨rfl, rfl⟩, fun k h => by simp [detN] at h, fun k h => by simp [detN] at h⟩
 | i + 1 => by
  have ih := detN_lg hD hx (m := m) i
  have hok := detN_ok hD hx (m := m) i
  have hinv := detN_inv hD hx (m := m) i
  rw [detN]
  generalize detN m x i = s at ih hok hinv
  obtain ⟨L, sets, rows, accs⟩ := s
  rw [detI]
  simp only at hok ⊢
  cases hs : sets[i]? with
  | none => exact ih
  | some set =>
   have hlt := (List.getElem?_eq_some_iff.1 hs).1
   have h1 := hinv.rows
   have h2 := hinv.accs
   simp only at h1 h2
   have hb := hok.bits set (List.mem_of_getElem? hs)
   have hen := rowN_ent hD hok hb m
   have hpre := rowN_pre (set := set) (L := L) (sets := sets) m
   obtain ⟨r, hr⟩ := rowN_sets set L sets m
   have hlen := rowN_len set L sets m
   show Dlg m x ⟨(rowN set L sets m).L, (rowN set L sets m).sets, rows ++ [(rowN set L sets m).row], accs ++ [accS set (rowN set L sets m).L]⟩
   generalize rowN set L sets m = q at hen hpre hr hlen
   obtain ⟨L1, sets1, row⟩ := q
   simp only at hen hpre hr hlen ⊢
   have hsub : ∀ (i : Nat) (y : W64), sets[i]? = some y → sets1[i]? = some y := fun i y h => by
    rw [hr, List.getElem?_append_left (List.getElem?_eq_some_iff.1 h).1]; exact h
   have hold : ∀ k, k < sets.length → ∀ y, sets1[k]? = some y → sets[k]? = some y := fun k hk y h => by
    rw [hr, List.getElem?_append_left hk] at h; exact h
   refine ⟨⟨hpre 0 x ih.fst.1, hsub 0 _ ih.fst.2⟩, fun k hk y hy j hj => ?_, fun k hk y hy => ?_⟩
   ·simp only [List.length_append, List.length_singleton] at hk hy ⊢
    have hy0 := hold k (by omega) y hy
    have hby := hok.bits y (List.mem_of_getElem? hy0)
    by_cases hkr : k < rows.length
    ·have := ih.ent k hkr y hy0 j hj
     rw [List.getD_eq_getElem?_getD, List.getElem?_append_left hkr, ← List.getD_eq_getElem?_getD]
     exact this.mono (D := D) hpre hsub hby hok.bits
    ·have hki : k = i := by omega
     subst hki
     rw [hs] at hy0
     cases hy0
     rw [List.getD_eq_getElem?_getD, List.getElem?_append_right (by omega), show k - rows.length = 0 from by omega]
     have := hen j hj
     rw [gI, Int.toNat_natCast]
     exact this
   ·simp only [List.length_append, List.length_singleton] at hk hy ⊢
    have hy0 := hold k (by omega) y hy
    have hby := hok.bits y (List.mem_of_getElem? hy0)
    by_cases hkr : k < rows.length
    ·have := ih.acc k hkr y hy0
     rw [List.getD_eq_getElem?_getD, List.getElem?_append_left (by omega), ← List.getD_eq_getElem?_getD, this]
     exact SL_mono hpre hby
    ·have hki : k = i := by omega
     subst hki
     rw [hs] at hy0
     cases hy0
     rw [List.getD_eq_getElem?_getD, List.getElem?_append_right (by omega), show k - accs.length = 0 from by omega]
     exact accS_SL
def ltrs (m : Nat) (w : List Int) : Prop := ∀ c ∈ w, 0 ≤ c ∧ c < (m : Int)
theorem detT_La {D : List Nx} (hD : Cls D) {x : Nx} (hx : x ∈ D) {m : Nat} (hm : m ≤ 16) (hm1 : 0 < m) {w : List Int} : La (detT x m) 0 w = true ↔ ltrs m w ∧ MN x w := by
 obtain ⟨hT, hsz⟩ := detT_ok hD hx hm hm1
 have hlg := detN_lg hD hx (m := m) bigN
 have hrl := hT.rows
 rw [detT] at hT hrl ⊢
 generalize detN m x bigN = s at hT hlg hrl
 obtain ⟨L, sets, rows, accs⟩ := s
 simp only at hT hrl
 have h1 := hlg.fst
 have h2 := hlg.ent
 have h3 := hlg.acc
 simp only at h1 h2 h3
 have key : ∀ (w : List Int) (k : Nat) (y : W64), sets[k]? = some y → (La ⟨rows, accs⟩ k w = true ↔ ltrs m w ∧ SL L y w) := by
  intro w
  induction w with
  | nil =>
   intro k y hy
   have hk := (List.getElem?_eq_some_iff.1 hy).1
   rw [La_nil, accq, gB, Int.toNat_natCast, decide_eq_true (by omega), Bool.true_and]
   simp only
   rw [h3 k (by omega) y hy]
   exact ⟨fun h => ⟨fun c hc => by simp at hc, h⟩, fun h => h.2⟩
  | cons c w ih =>
   intro k y hy
   have hk := (List.getElem?_eq_some_iff.1 hy).1
   rw [La_cons]
   by_cases hc : 0 ≤ c ∧ c < (m : Int)
   ·obtain ⟨j, rfl⟩ : ∃ j : Nat, c = j := ⟨c.toNat, by omega⟩
    rw [suc_at hT hk (by omega)]
    have hl : ltrs m ((j : Int) :: w) ↔ ltrs m w := by
     simp only [ltrs, List.mem_cons, forall_eq_or_imp]
     exact ⟨fun h => h.2, fun h => ⟨hc, h⟩⟩
    rw [hl]
    rcases h2 k (by omega) y hy j (by omega) with ⟨e, hn⟩ | ⟨u, z, e, hz, hs⟩
    ·rw [e, La_neg (by decide)]
     exact ⟨fun h => absurd h (by decide), fun h => absurd h.2 (hn w)⟩
    ·rw [e, ih u z hz, hs w]
   ·rw [suc_out hT (by omega) (by omega), La_neg (by decide)]
    exact ⟨fun h => absurd h (by decide), fun h => absurd (h.1 c (by simp)) hc⟩
 have := key w 0 1#64 h1.2
 rw [show ((0 : Nat) : Int) = 0 from rfl] at this
 rw [this]
 refine and_congr_right fun _ => ?_
 constructor
 ·rintro ⟨i, z, hi, hz, hm⟩
  rw [BitVec.getLsbD_one] at hi
  simp at hi
  subst hi
  rw [h1.1] at hz
  cases hz
  exact hm
 ·intro h
  exact ⟨0, x, by decide, h1.1, h⟩
end Go.Proofs.Yticeakkgoafiaaa


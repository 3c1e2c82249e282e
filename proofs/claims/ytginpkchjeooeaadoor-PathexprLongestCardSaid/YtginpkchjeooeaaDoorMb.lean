/-
  Joined by a program from the texts Ref Tree Ext Num Pint Lng Ends Ends2.
-/
import Derived.Test.YtginpkchjeooeaaDoorMa
import Derived.Laws.Externs
import Derived.Test.YtginpkchjeooeaaDoorVm9
/- Chapter 41: the reference's check of a list of nodes. -/
set_option maxRecDepth 100000
set_option maxHeartbeats 4000000
set_option linter.all false
namespace Go.Proofs.YtginpkchjeooeaaDoor
open Go.Vm

theorem pc39 (o : Int) : PC Tryd.prog 39 [.int .i64 o] (.int .i64 (arity o)) := by
  refine PC.walk tok mixed cfg0 Tryd.func39 rfl Tryd.call39 (by simp [belN, bel_Ns, bel_slN]) (by first | rfl | simp [belN, bel_Ns, bel_slN]) ?_; simp (maxSteps := 2000000) -implicitDefEqProofs +contextual (disch := first | assumption | omega | decide +kernel) only [push_cast, ↓capI, br2_true, br2_false, frk_tt, frk_tf, frk_f, frkD_tt, frkD_tf, frkD_f, pk2_true, pk2_false, imp_true, seval, Nat.reduceLeDiff, Nat.reduceEqDiff, reduceCtorEq, ↓reduceIte, fmN, fm0, take_N, toN1, slN_nil, encN, slN, cfg0, get_flat_part lenN, get_flat_drop lenN, len_flat lenN, Tryd.ntmps39]
  refine ⟨fun h => ?_, fun h1 => ⟨fun h => ?_, fun h2 => ⟨fun h => ?_, fun h3 => ⟨fun h => ?_, fun h4 => ⟨fun h => ?_, fun h5 => ⟨fun h => ?_, fun h6 => ?_⟩⟩⟩⟩⟩⟩
  · refine endK.ret ?_ (by first | rfl | simp [belN, bel_Ns, bel_slN]); simp [evRes, getT, retV, Tryd.f39]
    rfl
  · refine endK.ret ?_ (by first | rfl | simp [belN, bel_Ns, bel_slN]); simp [evRes, getT, retV, Tryd.f39]
    rfl
  · refine endK.ret ?_ (by first | rfl | simp [belN, bel_Ns, bel_slN]); simp [evRes, getT, retV, Tryd.f39]
    rfl
  · refine endK.ret ?_ (by first | rfl | simp [belN, bel_Ns, bel_slN]); simp [evRes, getT, retV, Tryd.f39]
    rfl
  · refine endK.ret ?_ (by first | rfl | simp [belN, bel_Ns, bel_slN]); simp [evRes, getT, retV, Tryd.f39]
    rfl
  · refine endK.ret ?_ (by first | rfl | simp [belN, bel_Ns, bel_slN]); simp [evRes, getT, retV, Tryd.f39]
    rfl
  · refine endK.ret ?_ (by first | rfl | simp [belN, bel_Ns, bel_slN]); simp [evRes, getT, retV, Tryd.f39,  arity, h1, h2, h3, h4, h5, h6, or_self, if_false]
def repS (f : Nat → Nat × Int) : Nat → Nat → Nat × Int
  | 0, a => (a, 0)
  | n + 1, a => if (f a).2 ≠ 0 then f a else repS f n (f a).1
def scan (sw : Int) : Nat → List Nd → Nat → Nat × Int
  | 0, _, a => (a, 3)
  | k + 1, l, a => match l[a]? with
    | none => (a, 3)
    | some x => if chk1 sw x ≠ 0 then (a, chk1 sw x) else repS (scan sw k l) (arity x.op).toNat (a + 1)
theorem repS_le {f : Nat → Nat × Int} {m : Nat} (h : ∀ a, a ≤ m → (f a).1 ≤ m) : ∀ n a, a ≤ m → (repS f n a).1 ≤ m
  | 0, a, ha => ha
  | n + 1, a, ha => by
    rw [repS]
    split
    · exact h a ha
    · exact repS_le h n _ (h a ha)
theorem scan_le (sw : Int) : ∀ k l a, a ≤ l.length → (scan sw k l a).1 ≤ l.length
  | 0, l, a, h => h
  | k + 1, l, a, h => by
    rw [scan]
    split
    · exact h
    · rename_i x hx
      split
      · exact h
      · exact repS_le (scan_le sw k l) _ _ (List.getElem?_eq_some_iff.1 hx).1
theorem repS_ge {f : Nat → Nat × Int} (h : ∀ a, a ≤ (f a).1) : ∀ n a, a ≤ (repS f n a).1
  | 0, a => Nat.le_refl _
  | n + 1, a => by
    rw [repS]
    split
    · exact h a
    · exact Nat.le_trans (h a) (repS_ge h n _)
theorem scan_ge (sw : Int) : ∀ k l a, a ≤ (scan sw k l a).1
  | 0, l, a => Nat.le_refl _
  | k + 1, l, a => by
    rw [scan]
    split
    · exact Nat.le_refl _
    · split
      · exact Nat.le_refl _
      · exact Nat.le_trans (Nat.le_succ _) (repS_ge (scan_ge sw k l) _ _)
theorem repS_rep {l : List Nd} {f : Nat → Nat × Int} {g : List Nd → List Nd × Int} (h : ∀ a, a ≤ l.length → (f a).1 ≤ l.length ∧ (f a).2 = (g (l.drop a)).2 ∧ ((f a).2 = 0 → l.drop (f a).1 = (g (l.drop a)).1)) :
    ∀ n a, a ≤ l.length → (repS f n a).2 = (rep g n (l.drop a)).2 ∧ ((repS f n a).2 = 0 → l.drop (repS f n a).1 = (rep g n (l.drop a)).1)
  | 0, a, ha => ⟨rfl, fun _ => rfl⟩
  | n + 1, a, ha => by
    obtain ⟨h1, h2, h3⟩ := h a ha
    rw [repS, rep, ← h2]
    by_cases he : (f a).2 = 0
    · rw [if_neg (fun h => h he), if_neg (fun h => h he), ← h3 he]
      exact repS_rep h n _ h1
    · rw [if_pos he, if_pos he]
      exact ⟨rfl, fun h => absurd h he⟩
theorem scan_chk (sw : Int) : ∀ k l a, a ≤ l.length → (scan sw k l a).2 = (chk sw k (l.drop a)).2 ∧ ((scan sw k l a).2 = 0 → l.drop (scan sw k l a).1 = (chk sw k (l.drop a)).1)
  | 0, l, a, ha => by
    have : (chk sw 0 (l.drop a)).2 = 3 := by cases l.drop a <;> rfl
    rw [this]
    exact ⟨rfl, fun h => by simp [scan] at h⟩
  | k + 1, l, a, ha => by
    by_cases h : a < l.length
    · rw [List.drop_eq_getElem_cons h, scan, List.getElem?_eq_getElem h, chk]
      simp only
      by_cases hc : chk1 sw l[a] = 0
      · rw [if_neg (fun h => h hc), if_neg (fun h => h hc)]
        exact repS_rep (fun b hb => ⟨scan_le sw k l b hb, scan_chk sw k l b hb⟩) _ _ h
      · rw [if_pos hc, if_pos hc]
        exact ⟨rfl, fun h => absurd h hc⟩
    · rw [List.drop_of_length_le (by omega), scan, List.getElem?_eq_none (by omega)]
      exact ⟨rfl, fun h => by simp at h⟩
def encIE (r : Nat × Int) : V := .tup [.int .i64 r.1, .int .i64 r.2]
theorem encIE_d (r : Nat × Int) : encIE r = .tup [.int .i64 r.1, .int .i64 r.2] := rfl
theorem encIE_ok {r : Nat × Int} (h : r.2 = 0) : encIE r = .tup [.int .i64 r.1, .int .i64 0] := by
  rw [encIE, h]
theorem arity_le (o : Int) : arity o ≤ 2 := by
  unfold arity
  split
  · decide
  split
  · decide
  split <;> decide
theorem pc27 (sw : Int) : ∀ (k : Nat) (l : List Nd) (a : Nat), a ≤ l.length → l.length - a ≤ k → l.length ≤ 4000000 → PC Tryd.prog 27 [slN l, .int .i64 a, .int .i64 sw] (encIE (scan sw k l a)) := by
  intro k
  induction k with
  | zero =>
    intro l a ha hl _
    have hla : (l.length : Int) ≤ a := by omega
    refine PC.walk tok mixed cfg0 Tryd.func27 rfl Tryd.call27 (by simp [belN, bel_Ns, bel_slN]) (by first | rfl | simp [belN, bel_Ns, bel_slN]) ?_; simp (maxSteps := 2000000) -implicitDefEqProofs +contextual (disch := first | assumption | omega | decide +kernel) only [push_cast, ↓capI, br2_true, br2_false, frk_tt, frk_tf, frk_f, frkD_tt, frkD_tf, frkD_f, pk2_true, pk2_false, imp_true, seval, Nat.reduceLeDiff, Nat.reduceEqDiff, reduceCtorEq, ↓reduceIte, fmN, fm0, take_N, toN1, slN_nil, encN, slN, cfg0, get_flat_part lenN, get_flat_drop lenN, len_flat lenN, Tryd.ntmps27]
    refine endK.ret ?_ (by first | rfl | simp [belN, bel_Ns, bel_slN]); simp [evRes, getT, retV, Tryd.f27,  scan, encIE]
  | succ k ih =>
    intro l a ha hl hm
    by_cases hlt : a < l.length
    case neg =>
      have hla : (l.length : Int) ≤ a := by omega
      have hn : l[a]? = none := List.getElem?_eq_none (by omega)
      refine PC.walk tok mixed cfg0 Tryd.func27 rfl Tryd.call27 (by simp [belN, bel_Ns, bel_slN]) (by first | rfl | simp [belN, bel_Ns, bel_slN]) ?_; simp (maxSteps := 2000000) -implicitDefEqProofs +contextual (disch := first | assumption | omega | decide +kernel) only [push_cast, ↓capI, br2_true, br2_false, frk_tt, frk_tf, frk_f, frkD_tt, frkD_tf, frkD_f, pk2_true, pk2_false, imp_true, seval, Nat.reduceLeDiff, Nat.reduceEqDiff, reduceCtorEq, ↓reduceIte, fmN, fm0, take_N, toN1, slN_nil, encN, slN, cfg0, get_flat_part lenN, get_flat_drop lenN, len_flat lenN, Tryd.ntmps27]
      refine endK.ret ?_ (by first | rfl | simp [belN, bel_Ns, bel_slN]); simp [evRes, getT, retV, Tryd.f27,  scan, encIE, hn]
    have hx : l[a]? = some l[a] := List.getElem?_eq_getElem hlt
    have hs : scan sw (k + 1) l a = if chk1 sw l[a] ≠ 0 then (a, chk1 sw l[a]) else repS (scan sw k l) (arity l[a].op).toNat (a + 1) := by
      rw [scan, hx]
    rw [hs]
    generalize hX : l[a] = x at hs hx ⊢
    obtain ⟨op, n⟩ := x
    simp only at hs hx
    have h39 := pc39 op
    by_cases ha1 : arity op < 0
    · have hc : chk1 sw ⟨op, n⟩ = 11 := by rw [chk1, if_pos ha1]
      rw [hc, if_pos (by decide)]
      refine PC.walk tok mixed cfg0 Tryd.func27 rfl Tryd.call27 (by simp [belN, bel_Ns, bel_slN]) (by first | rfl | simp [belN, bel_Ns, bel_slN]) ?_; simp (maxSteps := 2000000) -implicitDefEqProofs +contextual (disch := first | assumption | omega | decide +kernel) only [push_cast, ↓capI, br2_true, br2_false, frk_tt, frk_tf, frk_f, frkD_tt, frkD_tf, frkD_f, pk2_true, pk2_false, imp_true, seval, Nat.reduceLeDiff, Nat.reduceEqDiff, reduceCtorEq, ↓reduceIte, fmN, fm0, take_N, toN1, slN_nil, encN, slN, cfg0, get_flat_part lenN, get_flat_drop lenN, len_flat lenN, Tryd.ntmps27]
      simp (maxSteps := 2000000) -implicitDefEqProofs +contextual (disch := first | assumption | omega | decide +kernel) only [push_cast, ↓capI, br2_true, br2_false, frk_tt, frk_tf, frk_f, frkD_tt, frkD_tf, frkD_f, pk2_true, pk2_false, imp_true, seval, Nat.reduceLeDiff, Nat.reduceEqDiff, reduceCtorEq, ↓reduceIte, fmN, fm0, take_N, toN1, slN_nil, encN, slN, cfg0, get_flat_part lenN, get_flat_drop lenN, len_flat lenN, hX]
      refine callO.pc h39 ?_
      simp (maxSteps := 2000000) -implicitDefEqProofs +contextual (disch := first | assumption | omega | decide +kernel) only [push_cast, ↓capI, br2_true, br2_false, frk_tt, frk_tf, frk_f, frkD_tt, frkD_tf, frkD_f, pk2_true, pk2_false, imp_true, seval, Nat.reduceLeDiff, Nat.reduceEqDiff, reduceCtorEq, ↓reduceIte, fmN, fm0, take_N, toN1, slN_nil, encN, slN, cfg0, get_flat_part lenN, get_flat_drop lenN, len_flat lenN, ha1]
      refine endK.ret ?_ (by first | rfl | simp [belN, bel_Ns, bel_slN]); simp [evRes, getT, retV, Tryd.f27,  encIE]
    obtain ⟨m, hA⟩ : ∃ m : Nat, arity op = (m : Int) := ⟨(arity op).toNat, by omega⟩
    by_cases hb : op = 3 ∧ badN sw ⟨op, n⟩
    · have hc : chk1 sw ⟨op, n⟩ = 9 := by rw [chk1, if_neg ha1, if_pos hb]
      rw [hc, if_pos (by decide)]
      obtain ⟨h3, hb⟩ := hb
      by_cases b1 : n < 0
      · refine PC.walk tok mixed cfg0 Tryd.func27 rfl Tryd.call27 (by simp [belN, bel_Ns, bel_slN]) (by first | rfl | simp [belN, bel_Ns, bel_slN]) ?_; simp (maxSteps := 2000000) -implicitDefEqProofs +contextual (disch := first | assumption | omega | decide +kernel) only [push_cast, ↓capI, br2_true, br2_false, frk_tt, frk_tf, frk_f, frkD_tt, frkD_tf, frkD_f, pk2_true, pk2_false, imp_true, seval, Nat.reduceLeDiff, Nat.reduceEqDiff, reduceCtorEq, ↓reduceIte, fmN, fm0, take_N, toN1, slN_nil, encN, slN, cfg0, get_flat_part lenN, get_flat_drop lenN, len_flat lenN, Tryd.ntmps27]
        simp (maxSteps := 2000000) -implicitDefEqProofs +contextual (disch := first | assumption | omega | decide +kernel) only [push_cast, ↓capI, br2_true, br2_false, frk_tt, frk_tf, frk_f, frkD_tt, frkD_tf, frkD_f, pk2_true, pk2_false, imp_true, seval, Nat.reduceLeDiff, Nat.reduceEqDiff, reduceCtorEq, ↓reduceIte, fmN, fm0, take_N, toN1, slN_nil, encN, slN, cfg0, get_flat_part lenN, get_flat_drop lenN, len_flat lenN, hX]
        refine callO.pc h39 ?_
        simp (maxSteps := 2000000) -implicitDefEqProofs +contextual (disch := first | assumption | omega | decide +kernel) only [push_cast, ↓capI, br2_true, br2_false, frk_tt, frk_tf, frk_f, frkD_tt, frkD_tf, frkD_f, pk2_true, pk2_false, imp_true, seval, Nat.reduceLeDiff, Nat.reduceEqDiff, reduceCtorEq, ↓reduceIte, fmN, fm0, take_N, toN1, slN_nil, encN, slN, cfg0, get_flat_part lenN, get_flat_drop lenN, len_flat lenN, ha1, hX, h3, b1]
        refine endK.ret ?_ (by first | rfl | simp [belN, bel_Ns, bel_slN]); simp [evRes, getT, retV, Tryd.f27,  encIE]
      by_cases b2 : sw ≤ n
      · refine PC.walk tok mixed cfg0 Tryd.func27 rfl Tryd.call27 (by simp [belN, bel_Ns, bel_slN]) (by first | rfl | simp [belN, bel_Ns, bel_slN]) ?_; simp (maxSteps := 2000000) -implicitDefEqProofs +contextual (disch := first | assumption | omega | decide +kernel) only [push_cast, ↓capI, br2_true, br2_false, frk_tt, frk_tf, frk_f, frkD_tt, frkD_tf, frkD_f, pk2_true, pk2_false, imp_true, seval, Nat.reduceLeDiff, Nat.reduceEqDiff, reduceCtorEq, ↓reduceIte, fmN, fm0, take_N, toN1, slN_nil, encN, slN, cfg0, get_flat_part lenN, get_flat_drop lenN, len_flat lenN, Tryd.ntmps27]
        simp (maxSteps := 2000000) -implicitDefEqProofs +contextual (disch := first | assumption | omega | decide +kernel) only [push_cast, ↓capI, br2_true, br2_false, frk_tt, frk_tf, frk_f, frkD_tt, frkD_tf, frkD_f, pk2_true, pk2_false, imp_true, seval, Nat.reduceLeDiff, Nat.reduceEqDiff, reduceCtorEq, ↓reduceIte, fmN, fm0, take_N, toN1, slN_nil, encN, slN, cfg0, get_flat_part lenN, get_flat_drop lenN, len_flat lenN, hX]
        refine callO.pc h39 ?_
        simp (maxSteps := 2000000) -implicitDefEqProofs +contextual (disch := first | assumption | omega | decide +kernel) only [push_cast, ↓capI, br2_true, br2_false, frk_tt, frk_tf, frk_f, frkD_tt, frkD_tf, frkD_f, pk2_true, pk2_false, imp_true, seval, Nat.reduceLeDiff, Nat.reduceEqDiff, reduceCtorEq, ↓reduceIte, fmN, fm0, take_N, toN1, slN_nil, encN, slN, cfg0, get_flat_part lenN, get_flat_drop lenN, len_flat lenN, ha1, hX, h3, b1, b2]
        refine endK.ret ?_ (by first | rfl | simp [belN, bel_Ns, bel_slN]); simp [evRes, getT, retV, Tryd.f27,  encIE]
      have b3 : 999999999 < n := by rcases hb with h | h | h <;> simp only at h <;> omega
      refine PC.walk tok mixed cfg0 Tryd.func27 rfl Tryd.call27 (by simp [belN, bel_Ns, bel_slN]) (by first | rfl | simp [belN, bel_Ns, bel_slN]) ?_; simp (maxSteps := 2000000) -implicitDefEqProofs +contextual (disch := first | assumption | omega | decide +kernel) only [push_cast, ↓capI, br2_true, br2_false, frk_tt, frk_tf, frk_f, frkD_tt, frkD_tf, frkD_f, pk2_true, pk2_false, imp_true, seval, Nat.reduceLeDiff, Nat.reduceEqDiff, reduceCtorEq, ↓reduceIte, fmN, fm0, take_N, toN1, slN_nil, encN, slN, cfg0, get_flat_part lenN, get_flat_drop lenN, len_flat lenN, Tryd.ntmps27]
      simp (maxSteps := 2000000) -implicitDefEqProofs +contextual (disch := first | assumption | omega | decide +kernel) only [push_cast, ↓capI, br2_true, br2_false, frk_tt, frk_tf, frk_f, frkD_tt, frkD_tf, frkD_f, pk2_true, pk2_false, imp_true, seval, Nat.reduceLeDiff, Nat.reduceEqDiff, reduceCtorEq, ↓reduceIte, fmN, fm0, take_N, toN1, slN_nil, encN, slN, cfg0, get_flat_part lenN, get_flat_drop lenN, len_flat lenN, hX]
      refine callO.pc h39 ?_
      simp (maxSteps := 2000000) -implicitDefEqProofs +contextual (disch := first | assumption | omega | decide +kernel) only [push_cast, ↓capI, br2_true, br2_false, frk_tt, frk_tf, frk_f, frkD_tt, frkD_tf, frkD_f, pk2_true, pk2_false, imp_true, seval, Nat.reduceLeDiff, Nat.reduceEqDiff, reduceCtorEq, ↓reduceIte, fmN, fm0, take_N, toN1, slN_nil, encN, slN, cfg0, get_flat_part lenN, get_flat_drop lenN, len_flat lenN, ha1, hX, h3, b1, b2, b3]
      refine endK.ret ?_ (by first | rfl | simp [belN, bel_Ns, bel_slN]); simp [evRes, getT, retV, Tryd.f27,  encIE]
    have hc : chk1 sw ⟨op, n⟩ = 0 := by rw [chk1, if_neg ha1, if_neg hb]
    rw [hc, if_neg (fun h => h rfl), hA, Int.toNat_natCast]
    have hle := arity_le op
    rw [hA] at h39
    have ha2 : ¬ (m : Int) < 0 := by omega
    by_cases h3 : op = 3
    · subst h3
      have b0 : ¬ badN sw ⟨3, n⟩ := fun h => hb ⟨rfl, h⟩
      have b1 : ¬ n < 0 := fun h => b0 (.inl h)
      have b2 : ¬ sw ≤ n := fun h => b0 (.inr (.inl h))
      have b3 : ¬ 999999999 < n := fun h => b0 (.inr (.inr h))
      refine PC.walk tok mixed cfg0 Tryd.func27 rfl Tryd.call27 (by simp [belN, bel_Ns, bel_slN]) (by first | rfl | simp [belN, bel_Ns, bel_slN]) ?_; simp (maxSteps := 2000000) -implicitDefEqProofs +contextual (disch := first | assumption | omega | decide +kernel) only [push_cast, ↓capI, br2_true, br2_false, frk_tt, frk_tf, frk_f, frkD_tt, frkD_tf, frkD_f, pk2_true, pk2_false, imp_true, seval, Nat.reduceLeDiff, Nat.reduceEqDiff, reduceCtorEq, ↓reduceIte, fmN, fm0, take_N, toN1, slN_nil, encN, slN, cfg0, get_flat_part lenN, get_flat_drop lenN, len_flat lenN, Tryd.ntmps27]
      simp (maxSteps := 2000000) -implicitDefEqProofs +contextual (disch := first | assumption | omega | decide +kernel) only [push_cast, ↓capI, br2_true, br2_false, frk_tt, frk_tf, frk_f, frkD_tt, frkD_tf, frkD_f, pk2_true, pk2_false, imp_true, seval, Nat.reduceLeDiff, Nat.reduceEqDiff, reduceCtorEq, ↓reduceIte, fmN, fm0, take_N, toN1, slN_nil, encN, slN, cfg0, get_flat_part lenN, get_flat_drop lenN, len_flat lenN, hX]
      refine callO.pc h39 ?_
      simp (maxSteps := 2000000) -implicitDefEqProofs +contextual (disch := first | assumption | omega | decide +kernel) only [push_cast, ↓capI, br2_true, br2_false, frk_tt, frk_tf, frk_f, frkD_tt, frkD_tf, frkD_f, pk2_true, pk2_false, imp_true, seval, Nat.reduceLeDiff, Nat.reduceEqDiff, reduceCtorEq, ↓reduceIte, fmN, fm0, take_N, toN1, slN_nil, encN, slN, cfg0, get_flat_part lenN, get_flat_drop lenN, len_flat lenN, ha2, hX, b1, b2, b3]
      refine T.lp tok mixed cfg0 (fun ((i, b) : Nat × Nat) => kp 1 (dd 1 (kp 1 (dd 5 (kp 1 (sv (.int .i64 b) (sv (.int .i64 i) (dd 68 (nl))))))))) (fun H0 ((i, b) : Nat × Nat) => []) (fun ((i, b) : Nat × Nat) => i ≤ m ∧ b ≤ l.length ∧ a < b ∧ repS (scan sw k l) (m - i) b = repS (scan sw k l) m (a + 1)) (fun ((i, b) : Nat × Nat) => m - i) ((0, a + 1)) ?_ ?_ ?_
      · exact ⟨Nat.zero_le _, hlt, Nat.lt_succ_self _, rfl⟩
      · exact Gn.canon (J := []) (by first | rfl | (simp [List.append_nil]; done) | (simp [List.append_nil]; rfl)) (by simp [wk, slN, putT, kp, dd, sv, nl]) (by simp [List.length_append]) (by simp [belN, bel_Ns, bel_slN, kp, dd, sv, nl]) (by simp [belN, bel_Ns, bel_slN])
      rintro ⟨i, b⟩ ⟨hi, hb', hab, hr⟩
      by_cases hin : i < m
      · rw [show m - i = (m - (i + 1)) + 1 by omega, repS] at hr
        have hge := scan_ge sw k l b
        have hle := scan_le sw k l b hb'
        simp (maxSteps := 2000000) -implicitDefEqProofs +contextual (disch := first | assumption | omega | decide +kernel) only [push_cast, ↓capI, br2_true, br2_false, frk_tt, frk_tf, frk_f, frkD_tt, frkD_tf, frkD_f, pk2_true, pk2_false, imp_true, seval, Nat.reduceLeDiff, Nat.reduceEqDiff, reduceCtorEq, ↓reduceIte, fmN, fm0, take_N, toN1, slN_nil, encN, slN, cfg0, get_flat_part lenN, get_flat_drop lenN, len_flat lenN]
        refine callO.pc (ih l b hb' (by omega) hm) ?_
        by_cases he : (scan sw k l b).2 = 0
        · rw [if_neg (fun h => h he)] at hr
          rw [encIE_ok he]
          simp (maxSteps := 2000000) -implicitDefEqProofs +contextual (disch := first | assumption | omega | decide +kernel) only [push_cast, ↓capI, br2_true, br2_false, frk_tt, frk_tf, frk_f, frkD_tt, frkD_tf, frkD_f, pk2_true, pk2_false, imp_true, seval, Nat.reduceLeDiff, Nat.reduceEqDiff, reduceCtorEq, ↓reduceIte, fmN, fm0, take_N, toN1, slN_nil, encN, slN, cfg0, get_flat_part lenN, get_flat_drop lenN, len_flat lenN, he]
          refine ⟨(i + 1, (scan sw k l b).1), ⟨by (try simp only); omega, by (try simp only); omega, by (try simp only); omega, hr⟩, by (try simp only); omega, ?_⟩; exact Gn.canon (by first | rfl | (simp [List.append_nil]; rfl)) (by simp [wk, slN]) (by simp [List.length_append]) (by simp [belN, bel_Ns, bel_slN]) (by simp [belN, bel_Ns, bel_slN])
        · rw [if_pos he] at hr
          rw [encIE_d (scan sw k l b)]
          simp (maxSteps := 2000000) -implicitDefEqProofs +contextual (disch := first | assumption | omega | decide +kernel) only [push_cast, ↓capI, br2_true, br2_false, frk_tt, frk_tf, frk_f, frkD_tt, frkD_tf, frkD_f, pk2_true, pk2_false, imp_true, seval, Nat.reduceLeDiff, Nat.reduceEqDiff, reduceCtorEq, ↓reduceIte, fmN, fm0, take_N, toN1, slN_nil, encN, slN, cfg0, get_flat_part lenN, get_flat_drop lenN, len_flat lenN, he]
          rw [← hr, encIE]
          refine endK.ret ?_ (by first | rfl | simp [belN, bel_Ns, bel_slN]); simp [evRes, getT, retV, Tryd.f27]
      · rw [show m - i = 0 by omega, repS] at hr
        simp (maxSteps := 2000000) -implicitDefEqProofs +contextual (disch := first | assumption | omega | decide +kernel) only [push_cast, ↓capI, br2_true, br2_false, frk_tt, frk_tf, frk_f, frkD_tt, frkD_tf, frkD_f, pk2_true, pk2_false, imp_true, seval, Nat.reduceLeDiff, Nat.reduceEqDiff, reduceCtorEq, ↓reduceIte, fmN, fm0, take_N, toN1, slN_nil, encN, slN, cfg0, get_flat_part lenN, get_flat_drop lenN, len_flat lenN]
        rw [← hr, encIE]
        refine endK.ret ?_ (by first | rfl | simp [belN, bel_Ns, bel_slN]); simp [evRes, getT, retV, Tryd.f27]
    · refine PC.walk tok mixed cfg0 Tryd.func27 rfl Tryd.call27 (by simp [belN, bel_Ns, bel_slN]) (by first | rfl | simp [belN, bel_Ns, bel_slN]) ?_; simp (maxSteps := 2000000) -implicitDefEqProofs +contextual (disch := first | assumption | omega | decide +kernel) only [push_cast, ↓capI, br2_true, br2_false, frk_tt, frk_tf, frk_f, frkD_tt, frkD_tf, frkD_f, pk2_true, pk2_false, imp_true, seval, Nat.reduceLeDiff, Nat.reduceEqDiff, reduceCtorEq, ↓reduceIte, fmN, fm0, take_N, toN1, slN_nil, encN, slN, cfg0, get_flat_part lenN, get_flat_drop lenN, len_flat lenN, Tryd.ntmps27]
      simp (maxSteps := 2000000) -implicitDefEqProofs +contextual (disch := first | assumption | omega | decide +kernel) only [push_cast, ↓capI, br2_true, br2_false, frk_tt, frk_tf, frk_f, frkD_tt, frkD_tf, frkD_f, pk2_true, pk2_false, imp_true, seval, Nat.reduceLeDiff, Nat.reduceEqDiff, reduceCtorEq, ↓reduceIte, fmN, fm0, take_N, toN1, slN_nil, encN, slN, cfg0, get_flat_part lenN, get_flat_drop lenN, len_flat lenN, hX]
      refine callO.pc h39 ?_
      simp (maxSteps := 2000000) -implicitDefEqProofs +contextual (disch := first | assumption | omega | decide +kernel) only [push_cast, ↓capI, br2_true, br2_false, frk_tt, frk_tf, frk_f, frkD_tt, frkD_tf, frkD_f, pk2_true, pk2_false, imp_true, seval, Nat.reduceLeDiff, Nat.reduceEqDiff, reduceCtorEq, ↓reduceIte, fmN, fm0, take_N, toN1, slN_nil, encN, slN, cfg0, get_flat_part lenN, get_flat_drop lenN, len_flat lenN, ha2, hX, h3]
      refine T.lp tok mixed cfg0 (fun ((i, b) : Nat × Nat) => kp 1 (dd 1 (kp 1 (dd 5 (kp 1 (sv (.int .i64 b) (sv (.int .i64 i) (dd 68 (nl))))))))) (fun H0 ((i, b) : Nat × Nat) => []) (fun ((i, b) : Nat × Nat) => i ≤ m ∧ b ≤ l.length ∧ a < b ∧ repS (scan sw k l) (m - i) b = repS (scan sw k l) m (a + 1)) (fun ((i, b) : Nat × Nat) => m - i) ((0, a + 1)) ?_ ?_ ?_
      · exact ⟨Nat.zero_le _, hlt, Nat.lt_succ_self _, rfl⟩
      · exact Gn.canon (J := []) (by first | rfl | (simp [List.append_nil]; done) | (simp [List.append_nil]; rfl)) (by simp [wk, slN, putT, kp, dd, sv, nl]) (by simp [List.length_append]) (by simp [belN, bel_Ns, bel_slN, kp, dd, sv, nl]) (by simp [belN, bel_Ns, bel_slN])
      rintro ⟨i, b⟩ ⟨hi, hb', hab, hr⟩
      by_cases hin : i < m
      · rw [show m - i = (m - (i + 1)) + 1 by omega, repS] at hr
        have hge := scan_ge sw k l b
        have hle := scan_le sw k l b hb'
        simp (maxSteps := 2000000) -implicitDefEqProofs +contextual (disch := first | assumption | omega | decide +kernel) only [push_cast, ↓capI, br2_true, br2_false, frk_tt, frk_tf, frk_f, frkD_tt, frkD_tf, frkD_f, pk2_true, pk2_false, imp_true, seval, Nat.reduceLeDiff, Nat.reduceEqDiff, reduceCtorEq, ↓reduceIte, fmN, fm0, take_N, toN1, slN_nil, encN, slN, cfg0, get_flat_part lenN, get_flat_drop lenN, len_flat lenN]
        refine callO.pc (ih l b hb' (by omega) hm) ?_
        by_cases he : (scan sw k l b).2 = 0
        · rw [if_neg (fun h => h he)] at hr
          rw [encIE_ok he]
          simp (maxSteps := 2000000) -implicitDefEqProofs +contextual (disch := first | assumption | omega | decide +kernel) only [push_cast, ↓capI, br2_true, br2_false, frk_tt, frk_tf, frk_f, frkD_tt, frkD_tf, frkD_f, pk2_true, pk2_false, imp_true, seval, Nat.reduceLeDiff, Nat.reduceEqDiff, reduceCtorEq, ↓reduceIte, fmN, fm0, take_N, toN1, slN_nil, encN, slN, cfg0, get_flat_part lenN, get_flat_drop lenN, len_flat lenN, he]
          refine ⟨(i + 1, (scan sw k l b).1), ⟨by (try simp only); omega, by (try simp only); omega, by (try simp only); omega, hr⟩, by (try simp only); omega, ?_⟩; exact Gn.canon (by first | rfl | (simp [List.append_nil]; rfl)) (by simp [wk, slN]) (by simp [List.length_append]) (by simp [belN, bel_Ns, bel_slN]) (by simp [belN, bel_Ns, bel_slN])
        · rw [if_pos he] at hr
          rw [encIE_d (scan sw k l b)]
          simp (maxSteps := 2000000) -implicitDefEqProofs +contextual (disch := first | assumption | omega | decide +kernel) only [push_cast, ↓capI, br2_true, br2_false, frk_tt, frk_tf, frk_f, frkD_tt, frkD_tf, frkD_f, pk2_true, pk2_false, imp_true, seval, Nat.reduceLeDiff, Nat.reduceEqDiff, reduceCtorEq, ↓reduceIte, fmN, fm0, take_N, toN1, slN_nil, encN, slN, cfg0, get_flat_part lenN, get_flat_drop lenN, len_flat lenN, he]
          rw [← hr, encIE]
          refine endK.ret ?_ (by first | rfl | simp [belN, bel_Ns, bel_slN]); simp [evRes, getT, retV, Tryd.f27]
      · rw [show m - i = 0 by omega, repS] at hr
        simp (maxSteps := 2000000) -implicitDefEqProofs +contextual (disch := first | assumption | omega | decide +kernel) only [push_cast, ↓capI, br2_true, br2_false, frk_tt, frk_tf, frk_f, frkD_tt, frkD_tf, frkD_f, pk2_true, pk2_false, imp_true, seval, Nat.reduceLeDiff, Nat.reduceEqDiff, reduceCtorEq, ↓reduceIte, fmN, fm0, take_N, toN1, slN_nil, encN, slN, cfg0, get_flat_part lenN, get_flat_drop lenN, len_flat lenN]
        rw [← hr, encIE]
        refine endK.ret ?_ (by first | rfl | simp [belN, bel_Ns, bel_slN]); simp [evRes, getT, retV, Tryd.f27]
theorem pc40 (p : Pr) (l : List Nd) (a : Nat) (r : List Nd) (hp : scan 1000000000 (l.length - a) l a = (a + (flat p).length, 0)) (ha : a ≤ l.length) (hn : a + (flat p).length ≤ l.length) (hl : l.length ≤ 4000000) :
    PC Tryd.prog 40 [slN l, .int .i64 a] (.int .i64 ((a : Int) + (flat p).length)) := by
  have hs := pc27 1000000000 (l.length - a) l a ha (Nat.le_refl _) hl
  rw [hp, encIE] at hs
  refine PC.walk tok mixed cfg0 Tryd.func40 rfl Tryd.call40 (by simp [belN, bel_Ns, bel_slN]) (by first | rfl | simp [belN, bel_Ns, bel_slN]) ?_; simp (maxSteps := 2000000) -implicitDefEqProofs +contextual (disch := first | assumption | omega | decide +kernel) only [push_cast, ↓capI, br2_true, br2_false, frk_tt, frk_tf, frk_f, frkD_tt, frkD_tf, frkD_f, pk2_true, pk2_false, imp_true, seval, Nat.reduceLeDiff, Nat.reduceEqDiff, reduceCtorEq, ↓reduceIte, fmN, fm0, take_N, toN1, slN_nil, encN, slN, cfg0, get_flat_part lenN, get_flat_drop lenN, len_flat lenN, Tryd.ntmps40]
  refine callO.pc hs ?_
  simp (maxSteps := 2000000) -implicitDefEqProofs +contextual (disch := first | assumption | omega | decide +kernel) only [push_cast, ↓capI, br2_true, br2_false, frk_tt, frk_tf, frk_f, frkD_tt, frkD_tf, frkD_f, pk2_true, pk2_false, imp_true, seval, Nat.reduceLeDiff, Nat.reduceEqDiff, reduceCtorEq, ↓reduceIte, fmN, fm0, take_N, toN1, slN_nil, encN, slN, cfg0, get_flat_part lenN, get_flat_drop lenN, len_flat lenN]
  refine endK.ret ?_ (by first | rfl | simp [belN, bel_Ns, bel_slN]); simp [evRes, getT, retV, Tryd.f40,  Int.natCast_add]
theorem pc12 (sw : Int) (l : List Nd) (hl : l.length ≤ 4000000) : PC Tryd.prog 12 [slN l, .int .i64 sw] (.int .i64 (checkP sw l)) := by
  by_cases h : 24 < l.length
  · refine PC.walk tok mixed cfg0 Tryd.func12 rfl Tryd.call12 (by simp [belN, bel_Ns, bel_slN]) (by first | rfl | simp [belN, bel_Ns, bel_slN]) ?_; simp (maxSteps := 2000000) -implicitDefEqProofs +contextual (disch := first | assumption | omega | decide +kernel) only [push_cast, ↓capI, br2_true, br2_false, frk_tt, frk_tf, frk_f, frkD_tt, frkD_tf, frkD_f, pk2_true, pk2_false, imp_true, seval, Nat.reduceLeDiff, Nat.reduceEqDiff, reduceCtorEq, ↓reduceIte, fmN, fm0, take_N, toN1, slN_nil, encN, slN, cfg0, get_flat_part lenN, get_flat_drop lenN, len_flat lenN, Tryd.ntmps12]
    refine endK.ret ?_ (by first | rfl | simp [belN, bel_Ns, bel_slN]); simp [evRes, getT, retV, Tryd.f12,  checkP, h]
  refine PC.walk tok mixed cfg0 Tryd.func12 rfl Tryd.call12 (by simp [belN, bel_Ns, bel_slN]) (by first | rfl | simp [belN, bel_Ns, bel_slN]) ?_; simp (maxSteps := 2000000) -implicitDefEqProofs +contextual (disch := first | assumption | omega | decide +kernel) only [push_cast, ↓capI, br2_true, br2_false, frk_tt, frk_tf, frk_f, frkD_tt, frkD_tf, frkD_f, pk2_true, pk2_false, imp_true, seval, Nat.reduceLeDiff, Nat.reduceEqDiff, reduceCtorEq, ↓reduceIte, fmN, fm0, take_N, toN1, slN_nil, encN, slN, cfg0, get_flat_part lenN, get_flat_drop lenN, len_flat lenN, Tryd.ntmps12]
  have hs := scan_chk sw l.length l 0 (Nat.zero_le _)
  rw [List.drop_zero] at hs
  refine callO.pc (pc27 sw l.length l 0 (Nat.zero_le _) (Nat.sub_le _ _) hl) ?_
  have hle := scan_le sw l.length l 0 (Nat.zero_le _)
  rw [checkP, if_neg h, ← hs.1]
  by_cases he : (scan sw l.length l 0).2 = 0
  · rw [encIE_ok he]
    have h2 := hs.2 he
    by_cases hn : (scan sw l.length l 0).1 < l.length
    · rw [if_pos ⟨he, fun e => by rw [e] at h2; have := List.drop_eq_nil_iff.1 h2; omega⟩]
      simp (maxSteps := 2000000) -implicitDefEqProofs +contextual (disch := first | assumption | omega | decide +kernel) only [push_cast, ↓capI, br2_true, br2_false, frk_tt, frk_tf, frk_f, frkD_tt, frkD_tf, frkD_f, pk2_true, pk2_false, imp_true, seval, Nat.reduceLeDiff, Nat.reduceEqDiff, reduceCtorEq, ↓reduceIte, fmN, fm0, take_N, toN1, slN_nil, encN, slN, cfg0, get_flat_part lenN, get_flat_drop lenN, len_flat lenN, hn]
      refine endK.ret ?_ (by first | rfl | simp [belN, bel_Ns, bel_slN]); simp [evRes, getT, retV, Tryd.f12]
    · rw [if_neg (fun g => g.2 (by rw [← h2]; exact List.drop_eq_nil_iff.2 (by omega))), he]
      simp (maxSteps := 2000000) -implicitDefEqProofs +contextual (disch := first | assumption | omega | decide +kernel) only [push_cast, ↓capI, br2_true, br2_false, frk_tt, frk_tf, frk_f, frkD_tt, frkD_tf, frkD_f, pk2_true, pk2_false, imp_true, seval, Nat.reduceLeDiff, Nat.reduceEqDiff, reduceCtorEq, ↓reduceIte, fmN, fm0, take_N, toN1, slN_nil, encN, slN, cfg0, get_flat_part lenN, get_flat_drop lenN, len_flat lenN, hn]
      refine endK.ret ?_ (by first | rfl | simp [belN, bel_Ns, bel_slN]); simp [evRes, getT, retV, Tryd.f12]
  · rw [if_neg (fun g => he g.1), encIE]
    simp (maxSteps := 2000000) -implicitDefEqProofs +contextual (disch := first | assumption | omega | decide +kernel) only [push_cast, ↓capI, br2_true, br2_false, frk_tt, frk_tf, frk_f, frkD_tt, frkD_tf, frkD_f, pk2_true, pk2_false, imp_true, seval, Nat.reduceLeDiff, Nat.reduceEqDiff, reduceCtorEq, ↓reduceIte, fmN, fm0, take_N, toN1, slN_nil, encN, slN, cfg0, get_flat_part lenN, get_flat_drop lenN, len_flat lenN, he]
    refine endK.ret ?_ (by first | rfl | simp [belN, bel_Ns, bel_slN]); simp [evRes, getT, retV, Tryd.f12]
theorem pc30 (l : List Nd) (hl : l.length ≤ 4000000) : PC Tryd.prog 30 [slN l] (.bool (decide (checkP 1000000000 l = 0))) := by
  refine PC.walk tok mixed cfg0 Tryd.func30 rfl Tryd.call30 (by simp [belN, bel_Ns, bel_slN]) (by first | rfl | simp [belN, bel_Ns, bel_slN]) ?_; simp (maxSteps := 2000000) -implicitDefEqProofs +contextual (disch := first | assumption | omega | decide +kernel) only [push_cast, ↓capI, br2_true, br2_false, frk_tt, frk_tf, frk_f, frkD_tt, frkD_tf, frkD_f, pk2_true, pk2_false, imp_true, seval, Nat.reduceLeDiff, Nat.reduceEqDiff, reduceCtorEq, ↓reduceIte, fmN, fm0, take_N, toN1, slN_nil, encN, slN, cfg0, get_flat_part lenN, get_flat_drop lenN, len_flat lenN, Tryd.ntmps30]
  refine callO.pc (pc12 1000000000 l hl) ?_
  simp (maxSteps := 2000000) -implicitDefEqProofs +contextual (disch := first | assumption | omega | decide +kernel) only [push_cast, ↓capI, br2_true, br2_false, frk_tt, frk_tf, frk_f, frkD_tt, frkD_tf, frkD_f, pk2_true, pk2_false, imp_true, seval, Nat.reduceLeDiff, Nat.reduceEqDiff, reduceCtorEq, ↓reduceIte, fmN, fm0, take_N, toN1, slN_nil, encN, slN, cfg0, get_flat_part lenN, get_flat_drop lenN, len_flat lenN]
  refine endK.ret ?_ (by first | rfl | simp [belN, bel_Ns, bel_slN]); simp [evRes, getT, retV, Tryd.f30,  ibeq_dec]
end Go.Proofs.YtginpkchjeooeaaDoor

/- Chapter 41: where the subexpressions of a tree end in its list. -/
set_option maxRecDepth 100000
set_option maxHeartbeats 4000000
set_option linter.all false
namespace Go.Proofs.YtginpkchjeooeaaDoor
open Go.Vm

theorem drop_cons {α : Type} {l r : List α} {a : Nat} {x : α} (h : l.drop a = x :: r) : ∃ ha : a < l.length, l[a] = x ∧ l.drop (a + 1) = r := by
  have ha : a < l.length := by
    have := congrArg List.length h
    rw [List.length_drop, List.length_cons] at this
    omega
  rw [List.drop_eq_getElem_cons ha] at h
  injection h with h1 h2
  exact ⟨ha, h1, h2⟩
theorem drop_app {α : Type} {l p r : List α} {a : Nat} (h : l.drop a = p ++ r) : l.drop (a + p.length) = r := by
  rw [← List.drop_drop, h, List.drop_left]
theorem drop_len {α : Type} {l p r : List α} {a : Nat} (ha : a ≤ l.length) (h : l.drop a = p ++ r) : a + p.length + r.length = l.length := by
  have := congrArg List.length h
  rw [List.length_drop, List.length_append] at this
  omega
theorem scan_tree (sw : Int) : ∀ (p : Pr) (k : Nat) (l : List Nd) (a : Nat) (r : List Nd), okP sw p → l.drop a = flat p ++ r → (flat p).length ≤ k → scan sw k l a = (a + (flat p).length, 0)
  | p, 0, l, a, r, _, _, hk => by
    have := flat_pos p
    omega
  | .leaf x, k + 1, l, a, r, hp, hl, hk => by
    obtain ⟨ha, hx, _⟩ := drop_cons (x := x) (r := r) hl
    obtain ⟨h0, hc⟩ := hp
    have har : arity x.op = 0 := by rw [arity, if_pos h0]
    rw [scan, List.getElem?_eq_getElem ha]
    simp only [hx]
    rw [if_neg (fun g => g hc), har]
    rfl
  | .un x p, k + 1, l, a, r, hp, hl, hk => by
    obtain ⟨ha, hx, h2⟩ := drop_cons (x := x) (r := flat p ++ r) hl
    obtain ⟨h4, hp⟩ := hp
    have har : arity x.op = 1 := by rw [h4]; rfl
    have i1 := scan_tree sw p k l (a + 1) r hp h2 (by rw [flat, List.length_cons] at hk; omega)
    rw [scan, List.getElem?_eq_getElem ha]
    simp only [hx]
    rw [if_neg (fun g => g (chk1_op (.inl h4))), har, show (1 : Int).toNat = 0 + 1 from rfl, repS, i1, if_neg (fun g => g rfl), repS, flat, List.length_cons]
    congr 1
    omega
  | .bin x p q, k + 1, l, a, r, hp, hl, hk => by
    obtain ⟨ha, hx, h2⟩ := drop_cons (x := x) (r := flat p ++ (flat q ++ r)) (by rw [hl, flat, List.cons_append, List.append_assoc])
    obtain ⟨h4, hp, hq⟩ := hp
    have har : arity x.op = 2 := by rcases h4 with h4 | h4 <;> rw [h4] <;> rfl
    rw [flat, List.length_cons, List.length_append] at hk
    have i1 := scan_tree sw p k l (a + 1) _ hp h2 (by omega)
    have i2 := scan_tree sw q k l (a + 1 + (flat p).length) r hq (drop_app h2) (by omega)
    rw [scan, List.getElem?_eq_getElem ha]
    simp only [hx]
    rw [if_neg (fun g => g (chk1_op (.inr h4))), har, show (2 : Int).toNat = 0 + 1 + 1 from rfl, repS, i1, if_neg (fun g => g rfl), repS, i2, if_neg (fun g => g rfl), repS, flat, List.length_cons, List.length_append]
    congr 1
    omega
theorem end40 (p : Pr) (l : List Nd) (a : Nat) (r : List Nd) (hp : okP 1000000000 p) (h : l.drop a = flat p ++ r) (ha : a ≤ l.length) (hl : l.length ≤ 4000000) :
    PC Tryd.prog 40 [slN l, .int .i64 a] (.int .i64 ((a : Int) + (flat p).length)) := by
  have hn := drop_len ha h
  exact pc40 p l a r (scan_tree 1000000000 p _ l a r hp h (by omega)) ha (by omega) hl
theorem checkP_tree {sw : Int} {l : List Nd} (h : checkP sw l = 0) : l.length ≤ 24 ∧ ∃ p, okP sw p ∧ l = flat p := by
  unfold checkP at h
  split at h
  · omega
  split at h
  · omega
  rename_i h1 h2
  refine ⟨by omega, ?_⟩
  obtain ⟨p, hp, hl⟩ := chk_tree sw l.length l h
  refine ⟨p, hp, ?_⟩
  have : (chk sw l.length l).1 = [] := Decidable.not_not.1 (fun g => h2 ⟨h, g⟩)
  rw [this, List.append_nil] at hl
  exact hl
theorem tree_checkP {sw : Int} : ∀ {p : Pr}, okP sw p → (flat p).length ≤ 24 → checkP sw (flat p) = 0 := by
  intro p hp hl
  have hs := scan_chk sw (flat p).length (flat p) 0 (Nat.zero_le _)
  rw [List.drop_zero, scan_tree sw p _ (flat p) 0 [] hp (by rw [List.drop_zero, List.append_nil]) (Nat.le_refl _)] at hs
  rw [checkP, if_neg (by omega), ← hs.1, if_neg]
  rintro ⟨_, h⟩
  apply h
  rw [← hs.2 rfl]
  exact List.drop_eq_nil_iff.2 (by simp)
end Go.Proofs.YtginpkchjeooeaaDoor

/- Chapter 44: the first place of a byte in a text. -/
set_option maxRecDepth 100000
set_option maxHeartbeats 4000000
set_option linter.all false
namespace Go.Proofs.YtginpkchjeooeaaDoor
open Go.Vm

def idxGo (c : Int) : List UInt8 → Nat → Int
  | [], _ => -1
  | x :: l, i => if (x.toNat : Int) = c then i else idxGo c l (i + 1)
def idxB (s : List UInt8) (c : Int) : Int := idxGo c s 0
theorem find_idx {s : List UInt8} {c : UInt8} : ∀ {i : Nat}, i ≤ s.length → (match (List.range' i (s.length - i)).find? (fun j => s[j]! == c) with | some j => (j : Int) | none => -1) = idxGo c.toNat (s.drop i) i := by
  intro i hi
  generalize hk : s.length - i = k
  induction k generalizing i with
  | zero =>
    rw [List.drop_of_length_le (by omega)]
    rfl
  | succ k ih =>
    have h : i < s.length := by omega
    rw [List.drop_eq_getElem_cons h, List.range'_succ, List.find?_cons, idxGo, List.getElem!_eq_getElem?_getD, List.getElem?_eq_getElem h, Option.getD_some]
    by_cases he : s[i] = c
    · simp [he]
    · have h1 : (s[i] == c) = false := by simpa using he
      have h2 : ¬ (s[i].toNat : Int) = (c.toNat : Int) := by
        intro e
        exact he (UInt8.toNat_inj.1 (by omega))
      rw [h1, if_neg h2]
      exact ih (by omega) (by omega)
theorem firstIdx_eq {s : List UInt8} {c : Int} (hc : 0 ≤ c ∧ c ≤ 255) : firstIdx ⟨s.toArray⟩ c.toNat.toUInt8 = idxB s c := by
  have hg : ∀ i : Nat, (⟨s.toArray⟩ : ByteArray)[i]! = s[i]! := by
    intro i
    have hs : (⟨s.toArray⟩ : ByteArray).size = s.length := by simp [ByteArray.size]
    by_cases h : i < s.length
    · rw [getElem!_pos (⟨s.toArray⟩ : ByteArray) i (by rw [hs]; exact h), getElem!_pos s i h]
      rfl
    · rw [getElem!_neg (⟨s.toArray⟩ : ByteArray) i (by rw [hs]; exact h), getElem!_neg s i h]
  have hcc : ((c.toNat.toUInt8).toNat : Int) = c := by
    rw [Nat.toUInt8_eq, UInt8.toNat_ofNat']
    omega
  have hs : (⟨s.toArray⟩ : ByteArray).size = s.length := by simp [ByteArray.size]
  have := find_idx (s := s) (c := c.toNat.toUInt8) (i := 0) (Nat.zero_le _)
  rw [hcc, List.drop_zero, Nat.sub_zero, ← List.range_eq_range'] at this
  rw [firstIdx, hs, idxB, ← this]
  simp only [hg]
  rfl
theorem x104 (s : List UInt8) (c : Int) (hc : 0 ≤ c ∧ c ≤ 255) : XCall Tryd.prog 104 [.str s, .int .u8 c] (.int .i64 (idxB s c)) := by
  intro own w β vals h
  match vals, h with
  | [a, b], h =>
    simp only [VRs, VR, and_true] at h
    obtain ⟨rfl, rfl⟩ := h
    refine ⟨.int .i64 (idxB s c), ?_, by simp only [VR]⟩
    rw [run_callFunc_extern (fn := Tryd.f104) (e := Extern.BytealgIndexByte.indexByte) Tryd.func104 (by kernel_rfl) (by kernel_rfl) (by kernel_rfl) (by rfl)]
    rw [run_indexByte_string, firstIdx_eq hc]
    rfl
  | [], h => simp [VRs] at h
  | [_], h => simp [VRs] at h
  | _ :: _ :: _ :: _, h => simp [VRs] at h
theorem pc103 (s : List UInt8) (c : Int) (hc : 0 ≤ c ∧ c ≤ 255) : PC Tryd.prog 103 [.str s, .int .u8 c] (.int .i64 (idxB s c)) := by
  refine PC.walk tok mixed cfg0 Tryd.func103 rfl Tryd.call103 (by simp ) (by first | rfl | simp ) ?_; simp (maxSteps := 2000000) -implicitDefEqProofs +contextual (disch := first | assumption | omega | decide +kernel) only [push_cast, ↓capI, br2_true, br2_false, frk_tt, frk_tf, frk_f, frkD_tt, frkD_tf, frkD_f, pk2_true, pk2_false, imp_true, seval, Nat.reduceLeDiff, Nat.reduceEqDiff, reduceCtorEq, ↓reduceIte, cfg0, take_rest, ibeq_dec, Tryd.ntmps103]
  refine callO.ext (x104 s c hc) ?_
  simp (maxSteps := 2000000) -implicitDefEqProofs +contextual (disch := first | assumption | omega | decide +kernel) only [push_cast, ↓capI, br2_true, br2_false, frk_tt, frk_tf, frk_f, frkD_tt, frkD_tf, frkD_f, pk2_true, pk2_false, imp_true, seval, Nat.reduceLeDiff, Nat.reduceEqDiff, reduceCtorEq, ↓reduceIte, cfg0, take_rest, ibeq_dec]
  refine endK.ret ?_ (by first | rfl | simp ); simp [evRes, getT, retV, Tryd.f103]
theorem pc99 (s : List UInt8) (c : Int) (hc : 0 ≤ c ∧ c ≤ 255) : PC Tryd.prog 99 [.str s, .int .u8 c] (.int .i64 (idxB s c)) := by
  refine PC.walk tok mixed cfg0 Tryd.func99 rfl Tryd.call99 (by simp ) (by first | rfl | simp ) ?_; simp (maxSteps := 2000000) -implicitDefEqProofs +contextual (disch := first | assumption | omega | decide +kernel) only [push_cast, ↓capI, br2_true, br2_false, frk_tt, frk_tf, frk_f, frkD_tt, frkD_tf, frkD_f, pk2_true, pk2_false, imp_true, seval, Nat.reduceLeDiff, Nat.reduceEqDiff, reduceCtorEq, ↓reduceIte, cfg0, take_rest, ibeq_dec, Tryd.ntmps99]
  refine callO.pc (pc103 s c hc) ?_
  simp (maxSteps := 2000000) -implicitDefEqProofs +contextual (disch := first | assumption | omega | decide +kernel) only [push_cast, ↓capI, br2_true, br2_false, frk_tt, frk_tf, frk_f, frkD_tt, frkD_tf, frkD_f, pk2_true, pk2_false, imp_true, seval, Nat.reduceLeDiff, Nat.reduceEqDiff, reduceCtorEq, ↓reduceIte, cfg0, take_rest, ibeq_dec]
  refine endK.ret ?_ (by first | rfl | simp ); simp [evRes, getT, retV, Tryd.f99]
end Go.Proofs.YtginpkchjeooeaaDoor

/- Chapter 44: decimal numbers read by the program. -/
set_option maxRecDepth 100000
set_option maxHeartbeats 4000000
set_option linter.all false
namespace Go.Proofs.YtginpkchjeooeaaDoor
open Go.Vm

def isDig (b : UInt8) : Bool := decide (48 ≤ b.toNat) && decide (b.toNat ≤ 57)
def hexs : List UInt8 := [48, 49, 50, 51, 52, 53, 54, 55, 56, 57, 97, 98, 99, 100, 101, 102]
theorem idx_dig {b : UInt8} : idxB [48, 49, 50, 51, 52, 53, 54, 55, 56, 57] (b.toNat : Int) = if isDig b = true then (b.toNat : Int) - 48 else -1 := by
  have key : ∀ n : Fin 256, idxB [48, 49, 50, 51, 52, 53, 54, 55, 56, 57] ((n.val : Nat) : Int) = if (decide (48 ≤ n.val) && decide (n.val ≤ 57)) = true then ((n.val : Nat) : Int) - 48 else -1 := by decide +kernel
  exact key ⟨b.toNat, b.toNat_lt⟩
theorem callO.part0 {P : Program} {H : List Ob} {KV : V → List Ob → Prop} {n : Nat} {args a b args0 : List V} {v : V} {G G' : List Ob} (ps : List Nat) (h : GCall P n args0 G v G') (hn : ps.Nodup) (hk' : G'.length = G.length)
    (ha : a ++ args ++ b = rns (qn ps H.length) args0) (hG : objsAt H ps (rnOs (qn ps H.length) G)) (k : KV (v.rn (qn ps H.length)) (setPs H ps (rnOs (qn ps H.length) G'))) : callO P (.fn (.func n) a b) args H KV :=
  callO.part (G' := G') (J := []) ps (by rw [List.append_nil]; exact h) hn hk' ha hG (by rw [rnOs, List.append_nil]; exact k)
def num (s : List UInt8) (i : Int) : List Ob := [.cells 0 [.str s, .int .i64 i, .int .i64 10]]
theorem pc93 (s : List UInt8) (i : Nat) (hs : s.length ≤ 4000000000) (h : i < s.length) (hd : isDig s[i] = true) :
    GCall Tryd.prog 93 [.ptr 0 0 0, .int .i64 10] (num s i) (.tup [.int .i64 ((s[i].toNat : Int) - 48), .bool true]) (num s ((i : Int) + 1)) := by
  have hn : ¬ (i : Int) = s.length := by omega
  have hb : (s[i].toNat : Int) ≤ 255 := by have := s[i].toNat_lt; omega
  have hd2 := hd
  simp only [isDig, Bool.and_eq_true, decide_eq_true_eq] at hd2
  have hneg : ¬ (s[i].toNat : Int) - 48 < 0 := by omega
  have hx := pc99 [48, 49, 50, 51, 52, 53, 54, 55, 56, 57] (s[i].toNat : Int) ⟨by omega, hb⟩
  rw [idx_dig, if_pos hd] at hx
  unfold num
  refine GC.walk tok mixed cfg0 Tryd.func93 rfl Tryd.call93 ?_; simp (maxSteps := 2000000) -implicitDefEqProofs +contextual (disch := first | assumption | omega | decide +kernel) only [push_cast, ↓capI, br2_true, br2_false, frk_tt, frk_tf, frk_f, frkD_tt, frkD_tf, frkD_f, pk2_true, pk2_false, imp_true, seval, Nat.reduceLeDiff, Nat.reduceEqDiff, reduceCtorEq, ↓reduceIte, cfg0, take_rest, ibeq_dec, V.rn, rns, qn, setPs, rnOs, Ob.rn, List.set_cons_zero, List.size_toArray, Tryd.ntmps93]
  refine callO.part0 [0] (pc94 s i [.int .i64 10] rfl) (by decide) rfl rfl ⟨by rfl, by simp, trivial⟩ ?_
  have hgd : s.getD i 0 = s[i] := by rw [List.getD_eq_getElem?_getD, List.getElem?_eq_getElem h]; rfl
  simp (maxSteps := 2000000) -implicitDefEqProofs +contextual (disch := first | assumption | omega | decide +kernel) only [push_cast, ↓capI, br2_true, br2_false, frk_tt, frk_tf, frk_f, frkD_tt, frkD_tf, frkD_f, pk2_true, pk2_false, imp_true, seval, Nat.reduceLeDiff, Nat.reduceEqDiff, reduceCtorEq, ↓reduceIte, cfg0, take_rest, ibeq_dec, V.rn, rns, qn, setPs, rnOs, Ob.rn, List.set_cons_zero, List.size_toArray, hn, hgd]
  refine callG.pc1 hx ?_
  simp (maxSteps := 2000000) -implicitDefEqProofs +contextual (disch := first | assumption | omega | decide +kernel) only [push_cast, ↓capI, br2_true, br2_false, frk_tt, frk_tf, frk_f, frkD_tt, frkD_tf, frkD_f, pk2_true, pk2_false, imp_true, seval, Nat.reduceLeDiff, Nat.reduceEqDiff, reduceCtorEq, ↓reduceIte, cfg0, take_rest, ibeq_dec, V.rn, rns, qn, setPs, rnOs, Ob.rn, List.set_cons_zero, List.size_toArray, hneg]
  refine endG.ret ([]) (by first | rfl | simp [fzs_ok, getO, setO, fzs, fz, fzH, Nat.beq, tt_3, tt_4, tt_5, tt_9, tt_91, tt_112, tt_115, tt_117, tt_133, tt_111, tt_124, cfg0, take_rest, ibeq_dec, V.rn, rns, qn, setPs, rnOs, Ob.rn, List.set_cons_zero, List.size_toArray]) (by simp) (by simp [fzs_ok, imp, lenOK_iff, List.take_of_length_le, evRes, getT, getO, setO, fzs, fz, fzH, Nat.beq, retV, Res.then, ldT, ldR, mkV, getV, tt_3, tt_4, tt_5, tt_9, tt_91, tt_112, tt_115, tt_117, tt_133, tt_111, tt_124, cfg0, take_rest, ibeq_dec, V.rn, rns, qn, setPs, rnOs, Ob.rn, List.set_cons_zero, List.size_toArray, Tryd.f93]) (by first | rfl | simp ) (by first | rfl | simp )
theorem pc103_no (s : List UInt8) (i : Nat) (hs : s.length ≤ 4000000000) (hi : i ≤ s.length) (hd : ∀ h : i < s.length, isDig s[i] = false) :
    GCall Tryd.prog 93 [.ptr 0 0 0, .int .i64 10] (num s i) (.tup [.int .i64 0, .bool false]) (num s i) := by
  unfold num
  refine GC.walk tok mixed cfg0 Tryd.func93 rfl Tryd.call93 ?_; simp (maxSteps := 2000000) -implicitDefEqProofs +contextual (disch := first | assumption | omega | decide +kernel) only [push_cast, ↓capI, br2_true, br2_false, frk_tt, frk_tf, frk_f, frkD_tt, frkD_tf, frkD_f, pk2_true, pk2_false, imp_true, seval, Nat.reduceLeDiff, Nat.reduceEqDiff, reduceCtorEq, ↓reduceIte, cfg0, take_rest, ibeq_dec, V.rn, rns, qn, setPs, rnOs, Ob.rn, List.set_cons_zero, List.size_toArray, Tryd.ntmps93]
  refine callO.part0 [0] (pc94 s i [.int .i64 10] rfl) (by decide) rfl rfl ⟨by rfl, by simp, trivial⟩ ?_
  by_cases h : i < s.length
  case neg =>
    have hn : (i : Int) = s.length := by omega
    simp (maxSteps := 2000000) -implicitDefEqProofs +contextual (disch := first | assumption | omega | decide +kernel) only [push_cast, ↓capI, br2_true, br2_false, frk_tt, frk_tf, frk_f, frkD_tt, frkD_tf, frkD_f, pk2_true, pk2_false, imp_true, seval, Nat.reduceLeDiff, Nat.reduceEqDiff, reduceCtorEq, ↓reduceIte, cfg0, take_rest, ibeq_dec, V.rn, rns, qn, setPs, rnOs, Ob.rn, List.set_cons_zero, List.size_toArray, hn]
    refine endG.ret ([]) (by first | rfl | simp [fzs_ok, getO, setO, fzs, fz, fzH, Nat.beq, tt_3, tt_4, tt_5, tt_9, tt_91, tt_112, tt_115, tt_117, tt_133, tt_111, tt_124, cfg0, take_rest, ibeq_dec, V.rn, rns, qn, setPs, rnOs, Ob.rn, List.set_cons_zero, List.size_toArray, hn]) (by simp) (by simp [fzs_ok, imp, lenOK_iff, List.take_of_length_le, evRes, getT, getO, setO, fzs, fz, fzH, Nat.beq, retV, Res.then, ldT, ldR, mkV, getV, tt_3, tt_4, tt_5, tt_9, tt_91, tt_112, tt_115, tt_117, tt_133, tt_111, tt_124, cfg0, take_rest, ibeq_dec, V.rn, rns, qn, setPs, rnOs, Ob.rn, List.set_cons_zero, List.size_toArray, Tryd.f93, hn]) (by first | rfl | simp [hn]) (by first | rfl | simp [hn])
  have hn : ¬ (i : Int) = s.length := by omega
  have hb : (s[i].toNat : Int) ≤ 255 := by have := s[i].toNat_lt; omega
  have hx := pc99 [48, 49, 50, 51, 52, 53, 54, 55, 56, 57] (s[i].toNat : Int) ⟨by omega, hb⟩
  rw [idx_dig, if_neg (by rw [hd h]; simp)] at hx
  have hgd : s.getD i 0 = s[i] := by rw [List.getD_eq_getElem?_getD, List.getElem?_eq_getElem h]; rfl
  simp (maxSteps := 2000000) -implicitDefEqProofs +contextual (disch := first | assumption | omega | decide +kernel) only [push_cast, ↓capI, br2_true, br2_false, frk_tt, frk_tf, frk_f, frkD_tt, frkD_tf, frkD_f, pk2_true, pk2_false, imp_true, seval, Nat.reduceLeDiff, Nat.reduceEqDiff, reduceCtorEq, ↓reduceIte, cfg0, take_rest, ibeq_dec, V.rn, rns, qn, setPs, rnOs, Ob.rn, List.set_cons_zero, List.size_toArray, hn, hgd]
  refine callG.pc1 hx ?_
  simp (maxSteps := 2000000) -implicitDefEqProofs +contextual (disch := first | assumption | omega | decide +kernel) only [push_cast, ↓capI, br2_true, br2_false, frk_tt, frk_tf, frk_f, frkD_tt, frkD_tf, frkD_f, pk2_true, pk2_false, imp_true, seval, Nat.reduceLeDiff, Nat.reduceEqDiff, reduceCtorEq, ↓reduceIte, cfg0, take_rest, ibeq_dec, V.rn, rns, qn, setPs, rnOs, Ob.rn, List.set_cons_zero, List.size_toArray]
  refine endG.ret ([]) (by first | rfl | simp [fzs_ok, getO, setO, fzs, fz, fzH, Nat.beq, tt_3, tt_4, tt_5, tt_9, tt_91, tt_112, tt_115, tt_117, tt_133, tt_111, tt_124, cfg0, take_rest, ibeq_dec, V.rn, rns, qn, setPs, rnOs, Ob.rn, List.set_cons_zero, List.size_toArray]) (by simp) (by simp [fzs_ok, imp, lenOK_iff, List.take_of_length_le, evRes, getT, getO, setO, fzs, fz, fzH, Nat.beq, retV, Res.then, ldT, ldR, mkV, getV, tt_3, tt_4, tt_5, tt_9, tt_91, tt_112, tt_115, tt_117, tt_133, tt_111, tt_124, cfg0, take_rest, ibeq_dec, V.rn, rns, qn, setPs, rnOs, Ob.rn, List.set_cons_zero, List.size_toArray, Tryd.f93]) (by first | rfl | simp ) (by first | rfl | simp )
def valL : List UInt8 → Nat → Option Nat
  | [], v => some v
  | c :: l, v => if isDig c = true then valL l (v * 10 + (c.toNat - 48)) else none
def valR (s : List UInt8) (i : Nat) : V := match valL (s.drop i) 0 with
  | some v => .tup [.int .u64 v, .int .i64 ((s.length - i : Nat) : Int), .bool (decide (i < s.length))]
  | none => .tup [.int .u64 0, .int .i64 0, .bool false]
theorem valR_some {s : List UInt8} {i v : Nat} (h : valL (s.drop i) 0 = some v) : valR s i = .tup [.int .u64 v, .int .i64 ((s.length - i : Nat) : Int), .bool (decide (i < s.length))] := by rw [valR, h]
theorem valR_none {s : List UInt8} {i : Nat} (h : valL (s.drop i) 0 = none) : valR s i = .tup [.int .u64 0, .int .i64 0, .bool false] := by rw [valR, h]
theorem pc82 (s : List UInt8) (i : Nat) (hs : s.length ≤ 4000000000) (hi : i ≤ s.length) (h9 : s.length - i ≤ 9) :
    GCall Tryd.prog 82 [.ptr 0 0 0, .int .u64 4294967295] (num s i) (valR s i) [.dead] := by
  unfold num
  refine GC.walk tok mixed cfg0 Tryd.func82 rfl Tryd.call82 ?_; simp (maxSteps := 2000000) -implicitDefEqProofs +contextual (disch := first | assumption | omega | decide +kernel) only [push_cast, ↓capI, br2_true, br2_false, frk_tt, frk_tf, frk_f, frkD_tt, frkD_tf, frkD_f, pk2_true, pk2_false, imp_true, seval, Nat.reduceLeDiff, Nat.reduceEqDiff, reduceCtorEq, ↓reduceIte, cfg0, take_rest, ibeq_dec, V.rn, rns, qn, setPs, rnOs, Ob.rn, List.set_cons_zero, List.size_toArray, Tryd.ntmps82]
  refine T.lp tok mixed cfg0 (fun ((j, v) : Nat × Nat) => kp 2 (dd 2 (sv (.int .u64 (v : Int)) (sv (.int .i64 ((j - i : Nat) : Int)) (dd 1 (kp 1 (dd 41 (nl)))))))) (fun H0 ((j, v) : Nat × Nat) => num s j) (fun ((j, v) : Nat × Nat) => i ≤ j ∧ j ≤ s.length ∧ v < 10 ^ (j - i) ∧ valL (s.drop j) v = valL (s.drop i) 0) (fun ((j, v) : Nat × Nat) => s.length - j) ((i, 0)) ?_ ?_ ?_
  · exact ⟨Nat.le_refl _, hi, by simp, rfl⟩
  · unfold num
    exact Gn.canon (J := []) (by first | rfl | (simp [List.append_nil]; done) | (simp [List.append_nil]; rfl)) (by simp [wk, putT, kp, dd, sv, nl]) (by simp [List.length_append]) (by simp [kp, dd, sv, nl]) (by simp )
  rintro ⟨j, v⟩ ⟨hij, hj, hv, hr⟩
  have hv9 : v < 1000000000 := Nat.lt_of_lt_of_le hv (Nat.pow_le_pow_right (by omega) (by omega : j - i ≤ 9))
  simp (maxSteps := 2000000) -implicitDefEqProofs +contextual (disch := first | assumption | omega | decide +kernel) only [push_cast, ↓capI, br2_true, br2_false, frk_tt, frk_tf, frk_f, frkD_tt, frkD_tf, frkD_f, pk2_true, pk2_false, imp_true, seval, Nat.reduceLeDiff, Nat.reduceEqDiff, reduceCtorEq, ↓reduceIte, cfg0, take_rest, ibeq_dec, V.rn, rns, qn, setPs, rnOs, Ob.rn, List.set_cons_zero, List.size_toArray, num]
  refine callO.part0 [0] (pc94 s j [.int .i64 10] rfl) (by decide) rfl rfl ⟨by rfl, by simp, trivial⟩ ?_
  by_cases hlt : j < s.length
  case neg =>
    have hn : (j : Int) = s.length := by omega
    rw [List.drop_of_length_le (by omega), valL] at hr
    have hdec : decide ((0 : Int) < (s.length : Int) - (i : Int)) = decide (i < s.length) := by
      rw [decide_eq_decide]; omega
    rw [valR_some hr.symm]
    simp (maxSteps := 2000000) -implicitDefEqProofs +contextual (disch := first | assumption | omega | decide +kernel) only [push_cast, ↓capI, br2_true, br2_false, frk_tt, frk_tf, frk_f, frkD_tt, frkD_tf, frkD_f, pk2_true, pk2_false, imp_true, seval, Nat.reduceLeDiff, Nat.reduceEqDiff, reduceCtorEq, ↓reduceIte, cfg0, take_rest, ibeq_dec, V.rn, rns, qn, setPs, rnOs, Ob.rn, List.set_cons_zero, List.size_toArray, hn]
    refine endG.gn (Gn.freeze (id := 0) rfl) ?_; refine endG.ret ([]) (by first | rfl | simp [fzs_ok, getO, setO, fzs, fz, fzH, Nat.beq, tt_3, tt_4, tt_5, tt_9, tt_91, tt_112, tt_115, tt_117, tt_133, tt_111, tt_124, cfg0, take_rest, ibeq_dec, V.rn, rns, qn, setPs, rnOs, Ob.rn, List.set_cons_zero, List.size_toArray, hdec]) (by simp) (by simp [fzs_ok, imp, lenOK_iff, List.take_of_length_le, evRes, getT, getO, setO, fzs, fz, fzH, Nat.beq, retV, Res.then, ldT, ldR, mkV, getV, tt_3, tt_4, tt_5, tt_9, tt_91, tt_112, tt_115, tt_117, tt_133, tt_111, tt_124, cfg0, take_rest, ibeq_dec, V.rn, rns, qn, setPs, rnOs, Ob.rn, List.set_cons_zero, List.size_toArray, Tryd.f82, hdec]) (by first | rfl | simp [hdec]) (by first | rfl | simp [hdec])
  have hn : ¬ (j : Int) = s.length := by omega
  rw [List.drop_eq_getElem_cons hlt, valL] at hr
  simp (maxSteps := 2000000) -implicitDefEqProofs +contextual (disch := first | assumption | omega | decide +kernel) only [push_cast, ↓capI, br2_true, br2_false, frk_tt, frk_tf, frk_f, frkD_tt, frkD_tf, frkD_f, pk2_true, pk2_false, imp_true, seval, Nat.reduceLeDiff, Nat.reduceEqDiff, reduceCtorEq, ↓reduceIte, cfg0, take_rest, ibeq_dec, V.rn, rns, qn, setPs, rnOs, Ob.rn, List.set_cons_zero, List.size_toArray, hn]
  cases hd : isDig s[j]
  case false =>
    refine callO.part0 [0] (pc103_no s j hs hj (fun _ => hd)) (by decide) rfl rfl ⟨by rfl, by simp, trivial⟩ ?_
    rw [hd, if_neg (by simp)] at hr
    rw [valR_none hr.symm]
    simp (maxSteps := 2000000) -implicitDefEqProofs +contextual (disch := first | assumption | omega | decide +kernel) only [push_cast, ↓capI, br2_true, br2_false, frk_tt, frk_tf, frk_f, frkD_tt, frkD_tf, frkD_f, pk2_true, pk2_false, imp_true, seval, Nat.reduceLeDiff, Nat.reduceEqDiff, reduceCtorEq, ↓reduceIte, cfg0, take_rest, ibeq_dec, V.rn, rns, qn, setPs, rnOs, Ob.rn, List.set_cons_zero, List.size_toArray, num]
    refine endG.gn (Gn.freeze (id := 0) rfl) ?_; refine endG.ret ([]) (by first | rfl | simp [fzs_ok, getO, setO, fzs, fz, fzH, Nat.beq, tt_3, tt_4, tt_5, tt_9, tt_91, tt_112, tt_115, tt_117, tt_133, tt_111, tt_124, cfg0, take_rest, ibeq_dec, V.rn, rns, qn, setPs, rnOs, Ob.rn, List.set_cons_zero, List.size_toArray]) (by simp) (by simp [fzs_ok, imp, lenOK_iff, List.take_of_length_le, evRes, getT, getO, setO, fzs, fz, fzH, Nat.beq, retV, Res.then, ldT, ldR, mkV, getV, tt_3, tt_4, tt_5, tt_9, tt_91, tt_112, tt_115, tt_117, tt_133, tt_111, tt_124, cfg0, take_rest, ibeq_dec, V.rn, rns, qn, setPs, rnOs, Ob.rn, List.set_cons_zero, List.size_toArray, Tryd.f82]) (by first | rfl | simp ) (by first | rfl | simp )
  refine callO.part0 [0] (pc93 s j hs hlt hd) (by decide) rfl rfl ⟨by rfl, by simp, trivial⟩ ?_
  rw [hd, if_pos rfl] at hr
  have hd2 := hd
  simp only [isDig, Bool.and_eq_true, decide_eq_true_eq] at hd2
  have hc : ((s[j].toNat : Int) - 48) = ((s[j].toNat - 48 : Nat) : Int) := by omega
  have hp : v * 10 + (s[j].toNat - 48) < 10 ^ (j + 1 - i) := by
    rw [show j + 1 - i = (j - i) + 1 by omega, Nat.pow_succ]
    omega
  have hp2 : v * 10 + (s[j].toNat - 48) < 1000000000 := Nat.lt_of_lt_of_le hp (Nat.pow_le_pow_right (by omega) (by omega : j + 1 - i ≤ 9))
  generalize s[j].toNat - 48 = c at hr hc hp hp2
  rw [hc]
  simp (maxSteps := 2000000) -implicitDefEqProofs +contextual (disch := first | assumption | omega | decide +kernel) only [push_cast, ↓capI, br2_true, br2_false, frk_tt, frk_tf, frk_f, frkD_tt, frkD_tf, frkD_f, pk2_true, pk2_false, imp_true, seval, Nat.reduceLeDiff, Nat.reduceEqDiff, reduceCtorEq, ↓reduceIte, cfg0, take_rest, ibeq_dec, V.rn, rns, qn, setPs, rnOs, Ob.rn, List.set_cons_zero, List.size_toArray, num]
  have hji : (j : Int) - (i : Int) + 1 = ((j + 1 - i : Nat) : Int) := by omega
  refine ⟨(j + 1, v * 10 + c), ⟨by simp only; omega, by simp only; omega, hp, hr⟩, by (try simp only); omega, ?_⟩; exact Gn.canon (by first | rfl | (simp [List.append_nil, num, hji]; rfl)) (by simp [wk, num, hji]) (by simp [List.length_append]) (by simp ) (by simp )
end Go.Proofs.YtginpkchjeooeaaDoor

/- Chapter 44: integers read by the program. -/
set_option maxRecDepth 100000
set_option maxHeartbeats 4000000
set_option linter.all false
namespace Go.Proofs.YtginpkchjeooeaaDoor
open Go.Vm

def canonD (d : List UInt8) : Bool := decide (d.length = 1) || (decide (d ≠ []) && (((d.getD 0 0).toNat : Int) != 48))
theorem pcj79 (s : List UInt8) : PCJ Tryd.prog 79 [.str s] (.ptr 0 0 0) (num s 0) := by
  refine PCJ.walk tok mixed cfg0 Tryd.func79 rfl Tryd.call79 (by simp ) ?_; simp (maxSteps := 2000000) -implicitDefEqProofs +contextual (disch := first | assumption | omega | decide +kernel) only [push_cast, ↓capI, br2_true, br2_false, frk_tt, frk_tf, frk_f, frkD_tt, frkD_tf, frkD_f, pk2_true, pk2_false, imp_true, seval, Nat.reduceLeDiff, Nat.reduceEqDiff, reduceCtorEq, ↓reduceIte, cfg0, take_rest, ibeq_dec, V.rn, rns, qn, setPs, rnOs, Ob.rn, List.set_cons_zero, List.size_toArray, Tryd.ntmps79]
  refine endJ.ret ([]) (by simp [fzs_ok, getO, setO, fzs, fz, fzH, Nat.beq, tt_3, tt_4, tt_5, tt_9, tt_91, tt_112, tt_115, tt_117, tt_133, tt_111, tt_124, cfg0, take_rest, ibeq_dec, V.rn, rns, qn, setPs, rnOs, Ob.rn, List.set_cons_zero, List.size_toArray, num]) (by simp [fzs_ok, imp, lenOK_iff, List.take_of_length_le, evRes, getT, getO, setO, fzs, fz, fzH, Nat.beq, retV, Res.then, ldT, ldR, mkV, getV, tt_3, tt_4, tt_5, tt_9, tt_91, tt_112, tt_115, tt_117, tt_133, tt_111, tt_124, cfg0, take_rest, ibeq_dec, V.rn, rns, qn, setPs, rnOs, Ob.rn, List.set_cons_zero, List.size_toArray, Tryd.f79, num]) (by first | rfl | simp [num]) (by first | rfl | simp [num])
theorem pc81 (d : List UInt8) : PC Tryd.prog 81 [.str d] (.bool (canonD d)) := by
  refine PC.walk tok mixed cfg0 Tryd.func81 rfl Tryd.call81 (by simp ) (by first | rfl | simp ) ?_; simp (maxSteps := 2000000) -implicitDefEqProofs +contextual (disch := first | assumption | omega | decide +kernel) only [push_cast, ↓capI, br2_true, br2_false, frk_tt, frk_tf, frk_f, frkD_tt, frkD_tf, frkD_f, pk2_true, pk2_false, imp_true, seval, Nat.reduceLeDiff, Nat.reduceEqDiff, reduceCtorEq, ↓reduceIte, cfg0, take_rest, ibeq_dec, V.rn, rns, qn, setPs, rnOs, Ob.rn, List.set_cons_zero, List.size_toArray, Tryd.ntmps81]
  refine ⟨fun h => ⟨fun h2 => ?_, fun h2 => ?_⟩, fun h => ?_⟩
  · have h3 : (0 : Int) < (d.length : Int) := by
      have := List.length_pos_iff.2 h2
      omega
    have h4 : ¬ d.length = 1 := by omega
    refine ⟨h3, fun _ => ?_⟩
    refine endK.ret ?_ (by first | rfl | simp ); simp [evRes, getT, retV, Tryd.f81,  canonD, h2, h4]
  · refine endK.ret ?_ (by first | rfl | simp ); simp [evRes, getT, retV, Tryd.f81,  canonD]
  · have h4 : d.length = 1 := by omega
    refine endK.ret ?_ (by first | rfl | simp ); simp [evRes, getT, retV, Tryd.f81,  canonD, h4]
def parseI (s : List UInt8) : Int × Bool :=
  if begins s [45] = true then
    (if 9 < (s.drop 1).length ∨ canonD (s.drop 1) = false then (0, false) else match valL (s.drop 1) 0 with
      | some v => if v = 0 then (0, false) else (-(v : Int), true)
      | none => (0, false))
  else (if 9 < s.length ∨ canonD s = false then (0, false) else match valL s 0 with
    | some v => ((v : Int), true)
    | none => (0, false))
def encIB (r : Int × Bool) : V := .tup [.int .i64 r.1, .bool r.2]
theorem valL_lt : ∀ {s : List UInt8} {v r : Nat}, valL s v = some r → r < (v + 1) * 10 ^ s.length
  | [], v, r, h => by
    simp only [valL, Option.some.injEq] at h
    simp; omega
  | c :: s, v, r, h => by
    rw [valL] at h
    split at h
    · rename_i hd
      simp only [isDig, Bool.and_eq_true, decide_eq_true_eq] at hd
      have := valL_lt h
      rw [List.length_cons, Nat.pow_succ]
      refine Nat.lt_of_lt_of_le this ?_
      have : (v * 10 + (c.toNat - 48) + 1) ≤ (v + 1) * 10 := by omega
      calc (v * 10 + (c.toNat - 48) + 1) * 10 ^ s.length ≤ ((v + 1) * 10) * 10 ^ s.length := Nat.mul_le_mul_right _ this
        _ = (v + 1) * (10 ^ s.length * 10) := by rw [Nat.mul_assoc, Nat.mul_comm 10]
    · cases h
theorem canonD_pos {d : List UInt8} (h : canonD d = true) : 0 < d.length := by
  cases d with
  | nil => simp [canonD] at h
  | cons => simp
theorem pc68 (s : List UInt8) (hs : s.length ≤ 4000000000) : PC Tryd.prog 68 [.str s] (encIB (parseI s)) := by
  refine PC.walk tok mixed cfg0 Tryd.func68 rfl Tryd.call68 (by simp ) (by first | rfl | simp ) ?_; simp (maxSteps := 2000000) -implicitDefEqProofs +contextual (disch := first | assumption | omega | decide +kernel) only [push_cast, ↓capI, br2_true, br2_false, frk_tt, frk_tf, frk_f, frkD_tt, frkD_tf, frkD_f, pk2_true, pk2_false, imp_true, seval, Nat.reduceLeDiff, Nat.reduceEqDiff, reduceCtorEq, ↓reduceIte, cfg0, take_rest, ibeq_dec, V.rn, rns, qn, setPs, rnOs, Ob.rn, List.set_cons_zero, List.size_toArray, Tryd.ntmps68]
  refine callO.pcj (pcj79 s) ?_
  simp (maxSteps := 2000000) -implicitDefEqProofs +contextual (disch := first | assumption | omega | decide +kernel) only [push_cast, ↓capI, br2_true, br2_false, frk_tt, frk_tf, frk_f, frkD_tt, frkD_tf, frkD_f, pk2_true, pk2_false, imp_true, seval, Nat.reduceLeDiff, Nat.reduceEqDiff, reduceCtorEq, ↓reduceIte, cfg0, take_rest, ibeq_dec, V.rn, rns, qn, setPs, rnOs, Ob.rn, List.set_cons_zero, List.size_toArray, num, V.sh, shs, shOs, Ob.sh]
  refine callO.part0 [0] (pc80 s [45] 0 [.int .i64 10] rfl (Nat.zero_le _) hs (by decide)) (by decide) rfl rfl ⟨by rfl, by simp, trivial⟩ ?_
  rw [List.drop_zero]
  have hmin : min (s.length - 0) s.length = s.length := by omega
  have htk : List.take (s.length - 0) s = s := by rw [Nat.sub_zero]; exact List.take_length
  unfold parseI
  cases hb : begins s [45]
  · rw [if_neg (by simp)]
    simp (maxSteps := 2000000) -implicitDefEqProofs +contextual (disch := first | assumption | omega | decide +kernel) only [push_cast, ↓capI, br2_true, br2_false, frk_tt, frk_tf, frk_f, frkD_tt, frkD_tf, frkD_f, pk2_true, pk2_false, imp_true, seval, Nat.reduceLeDiff, Nat.reduceEqDiff, reduceCtorEq, ↓reduceIte, cfg0, take_rest, ibeq_dec, V.rn, rns, qn, setPs, rnOs, Ob.rn, List.set_cons_zero, List.size_toArray, htk, hmin, Nat.sub_zero, List.take_length, Nat.min_self]
    refine ⟨fun h9 => ?_, fun h9 => ?_⟩
    · have h9n : ¬ 9 < s.length := by omega
      refine callO.pc (pc81 s) ?_
      cases hc : canonD s
      · simp (maxSteps := 2000000) -implicitDefEqProofs +contextual (disch := first | assumption | omega | decide +kernel) only [push_cast, ↓capI, br2_true, br2_false, frk_tt, frk_tf, frk_f, frkD_tt, frkD_tf, frkD_f, pk2_true, pk2_false, imp_true, seval, Nat.reduceLeDiff, Nat.reduceEqDiff, reduceCtorEq, ↓reduceIte, cfg0, take_rest, ibeq_dec, V.rn, rns, qn, setPs, rnOs, Ob.rn, List.set_cons_zero, List.size_toArray, hc]
        refine endK.ret ?_ (by first | rfl | simp ); simp [evRes, getT, retV, Tryd.f68,  encIB, h9n, hc]
      simp (maxSteps := 2000000) -implicitDefEqProofs +contextual (disch := first | assumption | omega | decide +kernel) only [push_cast, ↓capI, br2_true, br2_false, frk_tt, frk_tf, frk_f, frkD_tt, frkD_tf, frkD_f, pk2_true, pk2_false, imp_true, seval, Nat.reduceLeDiff, Nat.reduceEqDiff, reduceCtorEq, ↓reduceIte, cfg0, take_rest, ibeq_dec, V.rn, rns, qn, setPs, rnOs, Ob.rn, List.set_cons_zero, List.size_toArray, hc]
      refine callO.part0 [0] (pc82 s 0 hs (Nat.zero_le _) (by omega)) (by decide) rfl rfl ⟨by rfl, by simp, trivial⟩ ?_
      have hv := @valL_lt s 0
      have hp9 : 10 ^ s.length ≤ 1000000000 := Nat.pow_le_pow_right (by omega) (by omega : s.length ≤ 9)
      cases he : valL s 0 with
      | none =>
        rw [valR_none (by rw [List.drop_zero]; exact he)]
        simp (maxSteps := 2000000) -implicitDefEqProofs +contextual (disch := first | assumption | omega | decide +kernel) only [push_cast, ↓capI, br2_true, br2_false, frk_tt, frk_tf, frk_f, frkD_tt, frkD_tf, frkD_f, pk2_true, pk2_false, imp_true, seval, Nat.reduceLeDiff, Nat.reduceEqDiff, reduceCtorEq, ↓reduceIte, cfg0, take_rest, ibeq_dec, V.rn, rns, qn, setPs, rnOs, Ob.rn, List.set_cons_zero, List.size_toArray, he]
        refine endK.ret ?_ (by first | rfl | simp ); simp [evRes, getT, retV, Tryd.f68,  encIB, h9n, hc, he]
      | some v =>
        have hv2 := hv he
        have hpos := canonD_pos hc
        rw [valR_some (by rw [List.drop_zero]; exact he)]
        simp (maxSteps := 2000000) -implicitDefEqProofs +contextual (disch := first | assumption | omega | decide +kernel) only [push_cast, ↓capI, br2_true, br2_false, frk_tt, frk_tf, frk_f, frkD_tt, frkD_tf, frkD_f, pk2_true, pk2_false, imp_true, seval, Nat.reduceLeDiff, Nat.reduceEqDiff, reduceCtorEq, ↓reduceIte, cfg0, take_rest, ibeq_dec, V.rn, rns, qn, setPs, rnOs, Ob.rn, List.set_cons_zero, List.size_toArray, he, hpos]
        refine endK.ret ?_ (by first | rfl | simp ); simp [evRes, getT, retV, Tryd.f68,  encIB, or_self, if_false]
    · have h9n : 9 < s.length := by omega
      refine endK.ret ?_ (by first | rfl | simp ); simp [evRes, getT, retV, Tryd.f68,  encIB, h9n]
  · have hl := begins_le hb
    rw [if_pos rfl]
    simp (maxSteps := 2000000) -implicitDefEqProofs +contextual (disch := first | assumption | omega | decide +kernel) only [push_cast, ↓capI, br2_true, br2_false, frk_tt, frk_tf, frk_f, frkD_tt, frkD_tf, frkD_f, pk2_true, pk2_false, imp_true, seval, Nat.reduceLeDiff, Nat.reduceEqDiff, reduceCtorEq, ↓reduceIte, cfg0, take_rest, ibeq_dec, V.rn, rns, qn, setPs, rnOs, Ob.rn, List.set_cons_zero, List.size_toArray, htk, hmin, Nat.sub_zero, List.take_length, Nat.min_self]
    simp only [List.length_cons, List.length_nil] at hl
    have hl1 : (1 : Int) ≤ (s.length : Int) := by omega
    have hdl : (s.drop 1).length = s.length - 1 := List.length_drop
    refine ⟨hl1, fun _ => ⟨fun h9 => ?_, fun h9 => ?_⟩⟩
    · have h9n : ¬ 9 < (s.drop 1).length := by omega
      refine callO.pc (pc81 (s.drop 1)) ?_
      cases hc : canonD (s.drop 1)
      · simp (maxSteps := 2000000) -implicitDefEqProofs +contextual (disch := first | assumption | omega | decide +kernel) only [push_cast, ↓capI, br2_true, br2_false, frk_tt, frk_tf, frk_f, frkD_tt, frkD_tf, frkD_f, pk2_true, pk2_false, imp_true, seval, Nat.reduceLeDiff, Nat.reduceEqDiff, reduceCtorEq, ↓reduceIte, cfg0, take_rest, ibeq_dec, V.rn, rns, qn, setPs, rnOs, Ob.rn, List.set_cons_zero, List.size_toArray, hc]
        refine endK.ret ?_ (by first | rfl | simp ); simp [evRes, getT, retV, Tryd.f68,  encIB, h9n, hc]
      simp (maxSteps := 2000000) -implicitDefEqProofs +contextual (disch := first | assumption | omega | decide +kernel) only [push_cast, ↓capI, br2_true, br2_false, frk_tt, frk_tf, frk_f, frkD_tt, frkD_tf, frkD_f, pk2_true, pk2_false, imp_true, seval, Nat.reduceLeDiff, Nat.reduceEqDiff, reduceCtorEq, ↓reduceIte, cfg0, take_rest, ibeq_dec, V.rn, rns, qn, setPs, rnOs, Ob.rn, List.set_cons_zero, List.size_toArray, hc]
      refine callO.part0 [0] (pc82 s 1 hs (by omega) (by omega)) (by decide) rfl rfl ⟨by rfl, by simp, trivial⟩ ?_
      have hv := @valL_lt (s.drop 1) 0
      have hp9 : 10 ^ (s.drop 1).length ≤ 1000000000 := Nat.pow_le_pow_right (by omega) (by omega : (s.drop 1).length ≤ 9)
      cases he : valL (s.drop 1) 0 with
      | none =>
        rw [valR_none he]
        simp (maxSteps := 2000000) -implicitDefEqProofs +contextual (disch := first | assumption | omega | decide +kernel) only [push_cast, ↓capI, br2_true, br2_false, frk_tt, frk_tf, frk_f, frkD_tt, frkD_tf, frkD_f, pk2_true, pk2_false, imp_true, seval, Nat.reduceLeDiff, Nat.reduceEqDiff, reduceCtorEq, ↓reduceIte, cfg0, take_rest, ibeq_dec, V.rn, rns, qn, setPs, rnOs, Ob.rn, List.set_cons_zero, List.size_toArray, he]
        refine endK.ret ?_ (by first | rfl | simp ); simp [evRes, getT, retV, Tryd.f68,  encIB, h9n, hc, he]
      | some v =>
        have hv2 := hv he
        have hpos := canonD_pos hc
        have hpos2 : 1 < s.length := by omega
        have hd1 : decide (1 < s.length) = true := by simpa using hpos2
        rw [valR_some he]
        by_cases hv0 : v = 0
        · subst hv0
          simp (maxSteps := 2000000) -implicitDefEqProofs +contextual (disch := first | assumption | omega | decide +kernel) only [push_cast, ↓capI, br2_true, br2_false, frk_tt, frk_tf, frk_f, frkD_tt, frkD_tf, frkD_f, pk2_true, pk2_false, imp_true, seval, Nat.reduceLeDiff, Nat.reduceEqDiff, reduceCtorEq, ↓reduceIte, cfg0, take_rest, ibeq_dec, V.rn, rns, qn, setPs, rnOs, Ob.rn, List.set_cons_zero, List.size_toArray, he, hd1, hpos2]
          refine endK.ret ?_ (by first | rfl | simp ); simp [evRes, getT, retV, Tryd.f68,  encIB, or_self, if_false, if_true]
        · have hvi : ¬ (v : Int) = 0 := by omega
          simp (maxSteps := 2000000) -implicitDefEqProofs +contextual (disch := first | assumption | omega | decide +kernel) only [push_cast, ↓capI, br2_true, br2_false, frk_tt, frk_tf, frk_f, frkD_tt, frkD_tf, frkD_f, pk2_true, pk2_false, imp_true, seval, Nat.reduceLeDiff, Nat.reduceEqDiff, reduceCtorEq, ↓reduceIte, cfg0, take_rest, ibeq_dec, V.rn, rns, qn, setPs, rnOs, Ob.rn, List.set_cons_zero, List.size_toArray, he, hd1, hpos2, hvi]
          refine endK.ret ?_ (by first | rfl | simp ); simp [evRes, getT, retV, Tryd.f68,  encIB, or_self, if_false, hv0]
    · have h9n : 9 < (s.drop 1).length := by omega
      refine endK.ret ?_ (by first | rfl | simp ); simp [evRes, getT, retV, Tryd.f68,  encIB, h9n]
end Go.Proofs.YtginpkchjeooeaaDoor

/- Chapter 41: the length of the longest list that is matched, program and reference. -/
set_option maxRecDepth 100000
set_option maxHeartbeats 4000000
set_option linter.all false
namespace Go.Proofs.YtginpkchjeooeaaDoor
open Go.Vm

/-- the tree of a list is one -/
theorem flat_inj (sw : Int) : ∀ (p q : Pr) (r s : List Nd), okP sw p → okP sw q → flat p ++ r = flat q ++ s → p = q ∧ r = s := by
  intro p
  induction p with
  | leaf x =>
    intro q r s hp hq h
    have h1 := hp.1
    cases q with
    | leaf y =>
      injection h with h1 h2
      exact ⟨by rw [h1], h2⟩
    | un y q =>
      injection h with h2 _
      have := hq.1
      rw [h2] at h1
      omega
    | bin y q1 q2 =>
      injection h with h2 _
      have := hq.1
      rw [h2] at h1
      omega
  | un x p ih =>
    intro q r s hp hq h
    have h1 := hp.1
    cases q with
    | leaf y =>
      injection h with h2 _
      have := hq.1
      rw [h2] at h1
      omega
    | un y q =>
      injection h with h2 h3
      obtain ⟨e1, e2⟩ := ih q r s hp.2 hq.2 h3
      exact ⟨by rw [h2, e1], e2⟩
    | bin y q1 q2 =>
      injection h with h2 _
      have := hq.1
      rw [h2] at h1
      omega
  | bin x p1 p2 i1 i2 =>
    intro q r s hp hq h
    have h1 := hp.1
    cases q with
    | leaf y =>
      injection h with h2 _
      have := hq.1
      rw [h2] at h1
      omega
    | un y q =>
      injection h with h2 _
      have := hq.1
      rw [h2] at h1
      omega
    | bin y q1 q2 =>
      injection h with h2 h3
      rw [List.append_eq, List.append_eq, List.append_assoc, List.append_assoc] at h3
      obtain ⟨e1, e2⟩ := i1 q1 _ _ hp.2.1 hq.2.1 h3
      obtain ⟨e3, e4⟩ := i2 q2 r s hp.2.2 hq.2.2 e2
      exact ⟨by rw [h2, e1, e3], e4⟩
theorem wf_ok {p : Pr} (hp : okP 1000000000 p) (hl : (flat p).length ≤ 24) : PC Tryd.prog 28 [slN (flat p)] (.tup [encX p, .int .i64 0]) := by
  rcases tree28 (flat p) (by omega) with ⟨hc, q, hq, hf, h24, hpc⟩ | ⟨hc, hpc⟩
  · obtain ⟨e, _⟩ := flat_inj 1000000000 p q [] [] hp hq (by rw [hf])
    rw [← e] at hpc
    exact hpc
  · exact absurd (tree_checkP hp hl) hc
theorem wf_no {l : List Nd} (hl : l.length ≤ 4000000) (hc : checkP 1000000000 l ≠ 0) : PC Tryd.prog 28 [slN l] (.tup [.nili, .int .i64 (checkP 1000000000 l)]) := by
  rcases tree28 l hl with ⟨h, _⟩ | ⟨_, hpc⟩
  · exact absurd h hc
  · exact hpc
def lng : Pr → Int × Bool
  | .leaf x => (if x.op = 1 then 0 else 1, true)
  | .un _ p => (0, (lng p).2 && decide ((lng p).1 = 0))
  | .bin x p q => if (lng p).2 = true ∧ (lng q).2 = true then (if x.op = 5 then max (lng p).1 (lng q).1 else (lng p).1 + (lng q).1, true) else (0, false)
theorem lng_le : ∀ p, 0 ≤ (lng p).1 ∧ (lng p).1 ≤ (flat p).length
  | .leaf x => by
    rw [lng, flat]
    split <;> simp
  | .un x p => by
    rw [lng, flat]
    simp only [List.length_cons]
    omega
  | .bin x p q => by
    have h1 := lng_le p
    have h2 := lng_le q
    rw [lng, flat, List.length_cons, List.length_append]
    split
    · simp only
      split <;> omega
    · simp only
      omega
theorem pc29 : ∀ p : Pr, (flat p).length ≤ 4000000 → PC Tryd.prog 29 [encX p] (encIB (lng p))
  | .leaf x, _ => by
    by_cases h : x.op = 1
    · refine PC.walk tok mixed cfg0 Tryd.func29 rfl Tryd.call29 (by simp [belN, bel_Ns, bel_slN, bel_clX, bel_encX]) (by first | rfl | simp [belN, bel_Ns, bel_slN, bel_clX, bel_encX]) ?_; simp (maxSteps := 2000000) -implicitDefEqProofs +contextual (disch := first | assumption | omega | decide +kernel) only [push_cast, ↓capI, br2_true, br2_false, frk_tt, frk_tf, frk_f, frkD_tt, frkD_tf, frkD_f, pk2_true, pk2_false, imp_true, seval, Nat.reduceLeDiff, Nat.reduceEqDiff, reduceCtorEq, ↓reduceIte, fmN, fm0, take_N, toN1, slN_nil, encN, slN, cfg0, get_flat_part lenN, get_flat_drop lenN, len_flat lenN, encX, ibeq_dec, Tryd.ntmps29]
      simp (maxSteps := 2000000) -implicitDefEqProofs +contextual (disch := first | assumption | omega | decide +kernel) only [push_cast, ↓capI, br2_true, br2_false, frk_tt, frk_tf, frk_f, frkD_tt, frkD_tf, frkD_f, pk2_true, pk2_false, imp_true, seval, Nat.reduceLeDiff, Nat.reduceEqDiff, reduceCtorEq, ↓reduceIte, fmN, fm0, take_N, toN1, slN_nil, encN, slN, cfg0, get_flat_part lenN, get_flat_drop lenN, len_flat lenN, encX, ibeq_dec, tgX, clX, h]
      refine endK.ret ?_ (by first | rfl | simp [belN, bel_Ns, bel_slN, bel_clX, bel_encX]); simp [evRes, getT, retV, Tryd.f29,  encIB, lng, h]
    · refine PC.walk tok mixed cfg0 Tryd.func29 rfl Tryd.call29 (by simp [belN, bel_Ns, bel_slN, bel_clX, bel_encX]) (by first | rfl | simp [belN, bel_Ns, bel_slN, bel_clX, bel_encX]) ?_; simp (maxSteps := 2000000) -implicitDefEqProofs +contextual (disch := first | assumption | omega | decide +kernel) only [push_cast, ↓capI, br2_true, br2_false, frk_tt, frk_tf, frk_f, frkD_tt, frkD_tf, frkD_f, pk2_true, pk2_false, imp_true, seval, Nat.reduceLeDiff, Nat.reduceEqDiff, reduceCtorEq, ↓reduceIte, fmN, fm0, take_N, toN1, slN_nil, encN, slN, cfg0, get_flat_part lenN, get_flat_drop lenN, len_flat lenN, encX, ibeq_dec, Tryd.ntmps29]
      simp (maxSteps := 2000000) -implicitDefEqProofs +contextual (disch := first | assumption | omega | decide +kernel) only [push_cast, ↓capI, br2_true, br2_false, frk_tt, frk_tf, frk_f, frkD_tt, frkD_tf, frkD_f, pk2_true, pk2_false, imp_true, seval, Nat.reduceLeDiff, Nat.reduceEqDiff, reduceCtorEq, ↓reduceIte, fmN, fm0, take_N, toN1, slN_nil, encN, slN, cfg0, get_flat_part lenN, get_flat_drop lenN, len_flat lenN, encX, ibeq_dec, tgX, clX, h]
      refine endK.ret ?_ (by first | rfl | simp [belN, bel_Ns, bel_slN, bel_clX, bel_encX]); simp [evRes, getT, retV, Tryd.f29,  encIB, lng, h]
  | .un x p, hl => by
    rw [flat, List.length_cons] at hl
    have i1 := pc29 p (by omega)
    rw [encIB, encX] at i1
    generalize hg : lng p = g at i1
    obtain ⟨n, b⟩ := g
    cases b
    · refine PC.walk tok mixed cfg0 Tryd.func29 rfl Tryd.call29 (by simp [belN, bel_Ns, bel_slN, bel_clX, bel_encX]) (by first | rfl | simp [belN, bel_Ns, bel_slN, bel_clX, bel_encX]) ?_; simp (maxSteps := 2000000) -implicitDefEqProofs +contextual (disch := first | assumption | omega | decide +kernel) only [push_cast, ↓capI, br2_true, br2_false, frk_tt, frk_tf, frk_f, frkD_tt, frkD_tf, frkD_f, pk2_true, pk2_false, imp_true, seval, Nat.reduceLeDiff, Nat.reduceEqDiff, reduceCtorEq, ↓reduceIte, fmN, fm0, take_N, toN1, slN_nil, encN, slN, cfg0, get_flat_part lenN, get_flat_drop lenN, len_flat lenN, encX, ibeq_dec, Tryd.ntmps29]
      simp (maxSteps := 2000000) -implicitDefEqProofs +contextual (disch := first | assumption | omega | decide +kernel) only [push_cast, ↓capI, br2_true, br2_false, frk_tt, frk_tf, frk_f, frkD_tt, frkD_tf, frkD_f, pk2_true, pk2_false, imp_true, seval, Nat.reduceLeDiff, Nat.reduceEqDiff, reduceCtorEq, ↓reduceIte, fmN, fm0, take_N, toN1, slN_nil, encN, slN, cfg0, get_flat_part lenN, get_flat_drop lenN, len_flat lenN, encX, ibeq_dec, tgX, clX]
      refine callO.pc i1 ?_
      simp (maxSteps := 2000000) -implicitDefEqProofs +contextual (disch := first | assumption | omega | decide +kernel) only [push_cast, ↓capI, br2_true, br2_false, frk_tt, frk_tf, frk_f, frkD_tt, frkD_tf, frkD_f, pk2_true, pk2_false, imp_true, seval, Nat.reduceLeDiff, Nat.reduceEqDiff, reduceCtorEq, ↓reduceIte, fmN, fm0, take_N, toN1, slN_nil, encN, slN, cfg0, get_flat_part lenN, get_flat_drop lenN, len_flat lenN, encX, ibeq_dec]
      refine endK.ret ?_ (by first | rfl | simp [belN, bel_Ns, bel_slN, bel_clX, bel_encX]); simp [evRes, getT, retV, Tryd.f29,  encIB, lng, hg]
    · refine PC.walk tok mixed cfg0 Tryd.func29 rfl Tryd.call29 (by simp [belN, bel_Ns, bel_slN, bel_clX, bel_encX]) (by first | rfl | simp [belN, bel_Ns, bel_slN, bel_clX, bel_encX]) ?_; simp (maxSteps := 2000000) -implicitDefEqProofs +contextual (disch := first | assumption | omega | decide +kernel) only [push_cast, ↓capI, br2_true, br2_false, frk_tt, frk_tf, frk_f, frkD_tt, frkD_tf, frkD_f, pk2_true, pk2_false, imp_true, seval, Nat.reduceLeDiff, Nat.reduceEqDiff, reduceCtorEq, ↓reduceIte, fmN, fm0, take_N, toN1, slN_nil, encN, slN, cfg0, get_flat_part lenN, get_flat_drop lenN, len_flat lenN, encX, ibeq_dec, Tryd.ntmps29]
      simp (maxSteps := 2000000) -implicitDefEqProofs +contextual (disch := first | assumption | omega | decide +kernel) only [push_cast, ↓capI, br2_true, br2_false, frk_tt, frk_tf, frk_f, frkD_tt, frkD_tf, frkD_f, pk2_true, pk2_false, imp_true, seval, Nat.reduceLeDiff, Nat.reduceEqDiff, reduceCtorEq, ↓reduceIte, fmN, fm0, take_N, toN1, slN_nil, encN, slN, cfg0, get_flat_part lenN, get_flat_drop lenN, len_flat lenN, encX, ibeq_dec, tgX, clX]
      refine callO.pc i1 ?_
      simp (maxSteps := 2000000) -implicitDefEqProofs +contextual (disch := first | assumption | omega | decide +kernel) only [push_cast, ↓capI, br2_true, br2_false, frk_tt, frk_tf, frk_f, frkD_tt, frkD_tf, frkD_f, pk2_true, pk2_false, imp_true, seval, Nat.reduceLeDiff, Nat.reduceEqDiff, reduceCtorEq, ↓reduceIte, fmN, fm0, take_N, toN1, slN_nil, encN, slN, cfg0, get_flat_part lenN, get_flat_drop lenN, len_flat lenN, encX, ibeq_dec]
      refine endK.ret ?_ (by first | rfl | simp [belN, bel_Ns, bel_slN, bel_clX, bel_encX]); simp [evRes, getT, retV, Tryd.f29,  encIB, lng, hg, ibeq_dec]
  | .bin x p q, hl => by
    rw [flat, List.length_cons, List.length_append] at hl
    have i1 := pc29 p (by omega)
    have i2 := pc29 q (by omega)
    have l1 := lng_le p
    have l2 := lng_le q
    rw [encIB, encX] at i1 i2
    generalize hg1 : lng p = g1 at i1 l1
    generalize hg2 : lng q = g2 at i2 l2
    obtain ⟨n1, b1⟩ := g1
    obtain ⟨n2, b2⟩ := g2
    simp only at l1 l2
    cases b1
    · refine PC.walk tok mixed cfg0 Tryd.func29 rfl Tryd.call29 (by simp [belN, bel_Ns, bel_slN, bel_clX, bel_encX]) (by first | rfl | simp [belN, bel_Ns, bel_slN, bel_clX, bel_encX]) ?_; simp (maxSteps := 2000000) -implicitDefEqProofs +contextual (disch := first | assumption | omega | decide +kernel) only [push_cast, ↓capI, br2_true, br2_false, frk_tt, frk_tf, frk_f, frkD_tt, frkD_tf, frkD_f, pk2_true, pk2_false, imp_true, seval, Nat.reduceLeDiff, Nat.reduceEqDiff, reduceCtorEq, ↓reduceIte, fmN, fm0, take_N, toN1, slN_nil, encN, slN, cfg0, get_flat_part lenN, get_flat_drop lenN, len_flat lenN, encX, ibeq_dec, Tryd.ntmps29]
      simp (maxSteps := 2000000) -implicitDefEqProofs +contextual (disch := first | assumption | omega | decide +kernel) only [push_cast, ↓capI, br2_true, br2_false, frk_tt, frk_tf, frk_f, frkD_tt, frkD_tf, frkD_f, pk2_true, pk2_false, imp_true, seval, Nat.reduceLeDiff, Nat.reduceEqDiff, reduceCtorEq, ↓reduceIte, fmN, fm0, take_N, toN1, slN_nil, encN, slN, cfg0, get_flat_part lenN, get_flat_drop lenN, len_flat lenN, encX, ibeq_dec, tgX, clX]
      refine callO.pc i1 ?_
      simp (maxSteps := 2000000) -implicitDefEqProofs +contextual (disch := first | assumption | omega | decide +kernel) only [push_cast, ↓capI, br2_true, br2_false, frk_tt, frk_tf, frk_f, frkD_tt, frkD_tf, frkD_f, pk2_true, pk2_false, imp_true, seval, Nat.reduceLeDiff, Nat.reduceEqDiff, reduceCtorEq, ↓reduceIte, fmN, fm0, take_N, toN1, slN_nil, encN, slN, cfg0, get_flat_part lenN, get_flat_drop lenN, len_flat lenN, encX, ibeq_dec]
      refine callO.pc i2 ?_
      simp (maxSteps := 2000000) -implicitDefEqProofs +contextual (disch := first | assumption | omega | decide +kernel) only [push_cast, ↓capI, br2_true, br2_false, frk_tt, frk_tf, frk_f, frkD_tt, frkD_tf, frkD_f, pk2_true, pk2_false, imp_true, seval, Nat.reduceLeDiff, Nat.reduceEqDiff, reduceCtorEq, ↓reduceIte, fmN, fm0, take_N, toN1, slN_nil, encN, slN, cfg0, get_flat_part lenN, get_flat_drop lenN, len_flat lenN, encX, ibeq_dec]
      refine endK.ret ?_ (by first | rfl | simp [belN, bel_Ns, bel_slN, bel_clX, bel_encX]); simp [evRes, getT, retV, Tryd.f29,  encIB, lng, hg1, hg2]
    cases b2
    · refine PC.walk tok mixed cfg0 Tryd.func29 rfl Tryd.call29 (by simp [belN, bel_Ns, bel_slN, bel_clX, bel_encX]) (by first | rfl | simp [belN, bel_Ns, bel_slN, bel_clX, bel_encX]) ?_; simp (maxSteps := 2000000) -implicitDefEqProofs +contextual (disch := first | assumption | omega | decide +kernel) only [push_cast, ↓capI, br2_true, br2_false, frk_tt, frk_tf, frk_f, frkD_tt, frkD_tf, frkD_f, pk2_true, pk2_false, imp_true, seval, Nat.reduceLeDiff, Nat.reduceEqDiff, reduceCtorEq, ↓reduceIte, fmN, fm0, take_N, toN1, slN_nil, encN, slN, cfg0, get_flat_part lenN, get_flat_drop lenN, len_flat lenN, encX, ibeq_dec, Tryd.ntmps29]
      simp (maxSteps := 2000000) -implicitDefEqProofs +contextual (disch := first | assumption | omega | decide +kernel) only [push_cast, ↓capI, br2_true, br2_false, frk_tt, frk_tf, frk_f, frkD_tt, frkD_tf, frkD_f, pk2_true, pk2_false, imp_true, seval, Nat.reduceLeDiff, Nat.reduceEqDiff, reduceCtorEq, ↓reduceIte, fmN, fm0, take_N, toN1, slN_nil, encN, slN, cfg0, get_flat_part lenN, get_flat_drop lenN, len_flat lenN, encX, ibeq_dec, tgX, clX]
      refine callO.pc i1 ?_
      simp (maxSteps := 2000000) -implicitDefEqProofs +contextual (disch := first | assumption | omega | decide +kernel) only [push_cast, ↓capI, br2_true, br2_false, frk_tt, frk_tf, frk_f, frkD_tt, frkD_tf, frkD_f, pk2_true, pk2_false, imp_true, seval, Nat.reduceLeDiff, Nat.reduceEqDiff, reduceCtorEq, ↓reduceIte, fmN, fm0, take_N, toN1, slN_nil, encN, slN, cfg0, get_flat_part lenN, get_flat_drop lenN, len_flat lenN, encX, ibeq_dec]
      refine callO.pc i2 ?_
      simp (maxSteps := 2000000) -implicitDefEqProofs +contextual (disch := first | assumption | omega | decide +kernel) only [push_cast, ↓capI, br2_true, br2_false, frk_tt, frk_tf, frk_f, frkD_tt, frkD_tf, frkD_f, pk2_true, pk2_false, imp_true, seval, Nat.reduceLeDiff, Nat.reduceEqDiff, reduceCtorEq, ↓reduceIte, fmN, fm0, take_N, toN1, slN_nil, encN, slN, cfg0, get_flat_part lenN, get_flat_drop lenN, len_flat lenN, encX, ibeq_dec]
      refine endK.ret ?_ (by first | rfl | simp [belN, bel_Ns, bel_slN, bel_clX, bel_encX]); simp [evRes, getT, retV, Tryd.f29,  encIB, lng, hg1, hg2]
    by_cases h5 : x.op = 5
    · refine PC.walk tok mixed cfg0 Tryd.func29 rfl Tryd.call29 (by simp [belN, bel_Ns, bel_slN, bel_clX, bel_encX]) (by first | rfl | simp [belN, bel_Ns, bel_slN, bel_clX, bel_encX]) ?_; simp (maxSteps := 2000000) -implicitDefEqProofs +contextual (disch := first | assumption | omega | decide +kernel) only [push_cast, ↓capI, br2_true, br2_false, frk_tt, frk_tf, frk_f, frkD_tt, frkD_tf, frkD_f, pk2_true, pk2_false, imp_true, seval, Nat.reduceLeDiff, Nat.reduceEqDiff, reduceCtorEq, ↓reduceIte, fmN, fm0, take_N, toN1, slN_nil, encN, slN, cfg0, get_flat_part lenN, get_flat_drop lenN, len_flat lenN, encX, ibeq_dec, Tryd.ntmps29]
      simp (maxSteps := 2000000) -implicitDefEqProofs +contextual (disch := first | assumption | omega | decide +kernel) only [push_cast, ↓capI, br2_true, br2_false, frk_tt, frk_tf, frk_f, frkD_tt, frkD_tf, frkD_f, pk2_true, pk2_false, imp_true, seval, Nat.reduceLeDiff, Nat.reduceEqDiff, reduceCtorEq, ↓reduceIte, fmN, fm0, take_N, toN1, slN_nil, encN, slN, cfg0, get_flat_part lenN, get_flat_drop lenN, len_flat lenN, encX, ibeq_dec, tgX, clX]
      refine callO.pc i1 ?_
      simp (maxSteps := 2000000) -implicitDefEqProofs +contextual (disch := first | assumption | omega | decide +kernel) only [push_cast, ↓capI, br2_true, br2_false, frk_tt, frk_tf, frk_f, frkD_tt, frkD_tf, frkD_f, pk2_true, pk2_false, imp_true, seval, Nat.reduceLeDiff, Nat.reduceEqDiff, reduceCtorEq, ↓reduceIte, fmN, fm0, take_N, toN1, slN_nil, encN, slN, cfg0, get_flat_part lenN, get_flat_drop lenN, len_flat lenN, encX, ibeq_dec]
      refine callO.pc i2 ?_
      simp (maxSteps := 2000000) -implicitDefEqProofs +contextual (disch := first | assumption | omega | decide +kernel) only [push_cast, ↓capI, br2_true, br2_false, frk_tt, frk_tf, frk_f, frkD_tt, frkD_tf, frkD_f, pk2_true, pk2_false, imp_true, seval, Nat.reduceLeDiff, Nat.reduceEqDiff, reduceCtorEq, ↓reduceIte, fmN, fm0, take_N, toN1, slN_nil, encN, slN, cfg0, get_flat_part lenN, get_flat_drop lenN, len_flat lenN, encX, ibeq_dec, h5]
      refine endK.ret ?_ (by first | rfl | simp [belN, bel_Ns, bel_slN, bel_clX, bel_encX]); simp [evRes, getT, retV, Tryd.f29,  encIB, lng, hg1, hg2, h5]
      split <;> omega
    · refine PC.walk tok mixed cfg0 Tryd.func29 rfl Tryd.call29 (by simp [belN, bel_Ns, bel_slN, bel_clX, bel_encX]) (by first | rfl | simp [belN, bel_Ns, bel_slN, bel_clX, bel_encX]) ?_; simp (maxSteps := 2000000) -implicitDefEqProofs +contextual (disch := first | assumption | omega | decide +kernel) only [push_cast, ↓capI, br2_true, br2_false, frk_tt, frk_tf, frk_f, frkD_tt, frkD_tf, frkD_f, pk2_true, pk2_false, imp_true, seval, Nat.reduceLeDiff, Nat.reduceEqDiff, reduceCtorEq, ↓reduceIte, fmN, fm0, take_N, toN1, slN_nil, encN, slN, cfg0, get_flat_part lenN, get_flat_drop lenN, len_flat lenN, encX, ibeq_dec, Tryd.ntmps29]
      simp (maxSteps := 2000000) -implicitDefEqProofs +contextual (disch := first | assumption | omega | decide +kernel) only [push_cast, ↓capI, br2_true, br2_false, frk_tt, frk_tf, frk_f, frkD_tt, frkD_tf, frkD_f, pk2_true, pk2_false, imp_true, seval, Nat.reduceLeDiff, Nat.reduceEqDiff, reduceCtorEq, ↓reduceIte, fmN, fm0, take_N, toN1, slN_nil, encN, slN, cfg0, get_flat_part lenN, get_flat_drop lenN, len_flat lenN, encX, ibeq_dec, tgX, clX]
      refine callO.pc i1 ?_
      simp (maxSteps := 2000000) -implicitDefEqProofs +contextual (disch := first | assumption | omega | decide +kernel) only [push_cast, ↓capI, br2_true, br2_false, frk_tt, frk_tf, frk_f, frkD_tt, frkD_tf, frkD_f, pk2_true, pk2_false, imp_true, seval, Nat.reduceLeDiff, Nat.reduceEqDiff, reduceCtorEq, ↓reduceIte, fmN, fm0, take_N, toN1, slN_nil, encN, slN, cfg0, get_flat_part lenN, get_flat_drop lenN, len_flat lenN, encX, ibeq_dec]
      refine callO.pc i2 ?_
      simp (maxSteps := 2000000) -implicitDefEqProofs +contextual (disch := first | assumption | omega | decide +kernel) only [push_cast, ↓capI, br2_true, br2_false, frk_tt, frk_tf, frk_f, frkD_tt, frkD_tf, frkD_f, pk2_true, pk2_false, imp_true, seval, Nat.reduceLeDiff, Nat.reduceEqDiff, reduceCtorEq, ↓reduceIte, fmN, fm0, take_N, toN1, slN_nil, encN, slN, cfg0, get_flat_part lenN, get_flat_drop lenN, len_flat lenN, encX, ibeq_dec, h5]
      refine endK.ret ?_ (by first | rfl | simp [belN, bel_Ns, bel_slN, bel_clX, bel_encX]); simp [evRes, getT, retV, Tryd.f29,  encIB, lng, hg1, hg2, h5]
/-- what MaxLen answers -/
def mxL (l : List Nd) (r : Int × Bool) : Prop := (checkP 1000000000 l = 0 ∧ ∃ p, okP 1000000000 p ∧ l = flat p ∧ l.length ≤ 24 ∧ r = lng p) ∨ (checkP 1000000000 l ≠ 0 ∧ r = (0, false))
theorem mxL_ex (l : List Nd) : ∃ r, mxL l r := by
  by_cases h : checkP 1000000000 l = 0
  · obtain ⟨h24, p, hp, hf⟩ := checkP_tree h
    exact ⟨_, .inl ⟨h, p, hp, hf, h24, rfl⟩⟩
  · exact ⟨_, .inr ⟨h, rfl⟩⟩
theorem pc13 (l : List Nd) (hl : l.length ≤ 4000000) (r : Int × Bool) (h : mxL l r) : PC Tryd.prog 13 [slN l] (encIB r) := by
  rcases h with ⟨hc, p, hp, rfl, h24, rfl⟩ | ⟨hc, rfl⟩
  · have i1 := pc29 p hl
    rw [encX] at i1
    generalize lng p = g at i1
    obtain ⟨n, b⟩ := g
    rw [encIB] at i1
    refine PC.walk tok mixed cfg0 Tryd.func13 rfl Tryd.call13 (by simp [belN, bel_Ns, bel_slN, bel_clX, bel_encX]) (by first | rfl | simp [belN, bel_Ns, bel_slN, bel_clX, bel_encX]) ?_; simp (maxSteps := 2000000) -implicitDefEqProofs +contextual (disch := first | assumption | omega | decide +kernel) only [push_cast, ↓capI, br2_true, br2_false, frk_tt, frk_tf, frk_f, frkD_tt, frkD_tf, frkD_f, pk2_true, pk2_false, imp_true, seval, Nat.reduceLeDiff, Nat.reduceEqDiff, reduceCtorEq, ↓reduceIte, fmN, fm0, take_N, toN1, slN_nil, encN, slN, cfg0, get_flat_part lenN, get_flat_drop lenN, len_flat lenN, encX, ibeq_dec, Tryd.ntmps13]
    refine callO.pc (wf_ok hp h24) ?_
    simp (maxSteps := 2000000) -implicitDefEqProofs +contextual (disch := first | assumption | omega | decide +kernel) only [push_cast, ↓capI, br2_true, br2_false, frk_tt, frk_tf, frk_f, frkD_tt, frkD_tf, frkD_f, pk2_true, pk2_false, imp_true, seval, Nat.reduceLeDiff, Nat.reduceEqDiff, reduceCtorEq, ↓reduceIte, fmN, fm0, take_N, toN1, slN_nil, encN, slN, cfg0, get_flat_part lenN, get_flat_drop lenN, len_flat lenN, encX, ibeq_dec]
    refine callO.pc i1 ?_
    simp (maxSteps := 2000000) -implicitDefEqProofs +contextual (disch := first | assumption | omega | decide +kernel) only [push_cast, ↓capI, br2_true, br2_false, frk_tt, frk_tf, frk_f, frkD_tt, frkD_tf, frkD_f, pk2_true, pk2_false, imp_true, seval, Nat.reduceLeDiff, Nat.reduceEqDiff, reduceCtorEq, ↓reduceIte, fmN, fm0, take_N, toN1, slN_nil, encN, slN, cfg0, get_flat_part lenN, get_flat_drop lenN, len_flat lenN, encX, ibeq_dec]
    refine endK.ret ?_ (by first | rfl | simp [belN, bel_Ns, bel_slN, bel_clX, bel_encX]); simp [evRes, getT, retV, Tryd.f13,  encIB]
  · refine PC.walk tok mixed cfg0 Tryd.func13 rfl Tryd.call13 (by simp [belN, bel_Ns, bel_slN, bel_clX, bel_encX]) (by first | rfl | simp [belN, bel_Ns, bel_slN, bel_clX, bel_encX]) ?_; simp (maxSteps := 2000000) -implicitDefEqProofs +contextual (disch := first | assumption | omega | decide +kernel) only [push_cast, ↓capI, br2_true, br2_false, frk_tt, frk_tf, frk_f, frkD_tt, frkD_tf, frkD_f, pk2_true, pk2_false, imp_true, seval, Nat.reduceLeDiff, Nat.reduceEqDiff, reduceCtorEq, ↓reduceIte, fmN, fm0, take_N, toN1, slN_nil, encN, slN, cfg0, get_flat_part lenN, get_flat_drop lenN, len_flat lenN, encX, ibeq_dec, Tryd.ntmps13]
    refine callO.pc (wf_no hl hc) ?_
    simp (maxSteps := 2000000) -implicitDefEqProofs +contextual (disch := first | assumption | omega | decide +kernel) only [push_cast, ↓capI, br2_true, br2_false, frk_tt, frk_tf, frk_f, frkD_tt, frkD_tf, frkD_f, pk2_true, pk2_false, imp_true, seval, Nat.reduceLeDiff, Nat.reduceEqDiff, reduceCtorEq, ↓reduceIte, fmN, fm0, take_N, toN1, slN_nil, encN, slN, cfg0, get_flat_part lenN, get_flat_drop lenN, len_flat lenN, encX, ibeq_dec, hc]
    refine endK.ret ?_ (by first | rfl | simp [belN, bel_Ns, bel_slN, bel_clX, bel_encX]); simp [evRes, getT, retV, Tryd.f13,  encIB]
def lngR (p : Pr) : Int := if (lng p).2 = true then (lng p).1 else -1
theorem pc31 (l : List Nd) (hm : l.length ≤ 4000000) : ∀ (p : Pr) (a : Nat) (r : List Nd), okP 1000000000 p → l.drop a = flat p ++ r → PC Tryd.prog 31 [slN l, .int .i64 a] (.int .i64 (lngR p))
  | .leaf x, a, r, hp, hl => by
    obtain ⟨h0, hc⟩ := hp
    obtain ⟨hlt, hX, h2⟩ := drop_cons (x := x) (r := r) hl
    rcases h0 with h | h | h
    · refine PC.walk tok mixed cfg0 Tryd.func31 rfl Tryd.call31 (by simp [belN, bel_Ns, bel_slN, bel_clX, bel_encX]) (by first | rfl | simp [belN, bel_Ns, bel_slN, bel_clX, bel_encX]) ?_; simp (maxSteps := 2000000) -implicitDefEqProofs +contextual (disch := first | assumption | omega | decide +kernel) only [push_cast, ↓capI, br2_true, br2_false, frk_tt, frk_tf, frk_f, frkD_tt, frkD_tf, frkD_f, pk2_true, pk2_false, imp_true, seval, Nat.reduceLeDiff, Nat.reduceEqDiff, reduceCtorEq, ↓reduceIte, fmN, fm0, take_N, toN1, slN_nil, encN, slN, cfg0, get_flat_part lenN, get_flat_drop lenN, len_flat lenN, encX, ibeq_dec, Tryd.ntmps31]
      simp (maxSteps := 2000000) -implicitDefEqProofs +contextual (disch := first | assumption | omega | decide +kernel) only [push_cast, ↓capI, br2_true, br2_false, frk_tt, frk_tf, frk_f, frkD_tt, frkD_tf, frkD_f, pk2_true, pk2_false, imp_true, seval, Nat.reduceLeDiff, Nat.reduceEqDiff, reduceCtorEq, ↓reduceIte, fmN, fm0, take_N, toN1, slN_nil, encN, slN, cfg0, get_flat_part lenN, get_flat_drop lenN, len_flat lenN, encX, ibeq_dec, hX, h]
      refine endK.ret ?_ (by first | rfl | simp [belN, bel_Ns, bel_slN, bel_clX, bel_encX]); simp [evRes, getT, retV, Tryd.f31,  lngR, lng, h]
    · refine PC.walk tok mixed cfg0 Tryd.func31 rfl Tryd.call31 (by simp [belN, bel_Ns, bel_slN, bel_clX, bel_encX]) (by first | rfl | simp [belN, bel_Ns, bel_slN, bel_clX, bel_encX]) ?_; simp (maxSteps := 2000000) -implicitDefEqProofs +contextual (disch := first | assumption | omega | decide +kernel) only [push_cast, ↓capI, br2_true, br2_false, frk_tt, frk_tf, frk_f, frkD_tt, frkD_tf, frkD_f, pk2_true, pk2_false, imp_true, seval, Nat.reduceLeDiff, Nat.reduceEqDiff, reduceCtorEq, ↓reduceIte, fmN, fm0, take_N, toN1, slN_nil, encN, slN, cfg0, get_flat_part lenN, get_flat_drop lenN, len_flat lenN, encX, ibeq_dec, Tryd.ntmps31]
      simp (maxSteps := 2000000) -implicitDefEqProofs +contextual (disch := first | assumption | omega | decide +kernel) only [push_cast, ↓capI, br2_true, br2_false, frk_tt, frk_tf, frk_f, frkD_tt, frkD_tf, frkD_f, pk2_true, pk2_false, imp_true, seval, Nat.reduceLeDiff, Nat.reduceEqDiff, reduceCtorEq, ↓reduceIte, fmN, fm0, take_N, toN1, slN_nil, encN, slN, cfg0, get_flat_part lenN, get_flat_drop lenN, len_flat lenN, encX, ibeq_dec, hX, h]
      refine endK.ret ?_ (by first | rfl | simp [belN, bel_Ns, bel_slN, bel_clX, bel_encX]); simp [evRes, getT, retV, Tryd.f31,  lngR, lng, h]
    · refine PC.walk tok mixed cfg0 Tryd.func31 rfl Tryd.call31 (by simp [belN, bel_Ns, bel_slN, bel_clX, bel_encX]) (by first | rfl | simp [belN, bel_Ns, bel_slN, bel_clX, bel_encX]) ?_; simp (maxSteps := 2000000) -implicitDefEqProofs +contextual (disch := first | assumption | omega | decide +kernel) only [push_cast, ↓capI, br2_true, br2_false, frk_tt, frk_tf, frk_f, frkD_tt, frkD_tf, frkD_f, pk2_true, pk2_false, imp_true, seval, Nat.reduceLeDiff, Nat.reduceEqDiff, reduceCtorEq, ↓reduceIte, fmN, fm0, take_N, toN1, slN_nil, encN, slN, cfg0, get_flat_part lenN, get_flat_drop lenN, len_flat lenN, encX, ibeq_dec, Tryd.ntmps31]
      simp (maxSteps := 2000000) -implicitDefEqProofs +contextual (disch := first | assumption | omega | decide +kernel) only [push_cast, ↓capI, br2_true, br2_false, frk_tt, frk_tf, frk_f, frkD_tt, frkD_tf, frkD_f, pk2_true, pk2_false, imp_true, seval, Nat.reduceLeDiff, Nat.reduceEqDiff, reduceCtorEq, ↓reduceIte, fmN, fm0, take_N, toN1, slN_nil, encN, slN, cfg0, get_flat_part lenN, get_flat_drop lenN, len_flat lenN, encX, ibeq_dec, hX, h]
      refine endK.ret ?_ (by first | rfl | simp [belN, bel_Ns, bel_slN, bel_clX, bel_encX]); simp [evRes, getT, retV, Tryd.f31,  lngR, lng, h]
  | .un x p, a, r, hp, hl => by
    obtain ⟨h4, hp⟩ := hp
    obtain ⟨hlt, hX, h2⟩ := drop_cons (x := x) (r := flat p ++ r) (by rw [hl, flat, List.cons_append])
    have i1 := pc31 l hm p (a + 1) r hp h2
    rw [show ((a + 1 : Nat) : Int) = a + 1 from rfl] at i1
    have hn := drop_len hlt h2
    have hle := lng_le p
    have e : lngR (.un x p) = if lngR p = 0 then 0 else -1 := by
      rw [lngR, lng, lngR]
      simp only [Bool.and_eq_true, decide_eq_true_eq]
      by_cases hb : (lng p).2 = true
      · simp only [hb, if_true, true_and]
      · rw [if_neg (fun g => hb g.1), if_neg hb]
        decide
    rw [e]
    by_cases h0 : lngR p = 0
    · rw [if_pos h0]
      refine PC.walk tok mixed cfg0 Tryd.func31 rfl Tryd.call31 (by simp [belN, bel_Ns, bel_slN, bel_clX, bel_encX]) (by first | rfl | simp [belN, bel_Ns, bel_slN, bel_clX, bel_encX]) ?_; simp (maxSteps := 2000000) -implicitDefEqProofs +contextual (disch := first | assumption | omega | decide +kernel) only [push_cast, ↓capI, br2_true, br2_false, frk_tt, frk_tf, frk_f, frkD_tt, frkD_tf, frkD_f, pk2_true, pk2_false, imp_true, seval, Nat.reduceLeDiff, Nat.reduceEqDiff, reduceCtorEq, ↓reduceIte, fmN, fm0, take_N, toN1, slN_nil, encN, slN, cfg0, get_flat_part lenN, get_flat_drop lenN, len_flat lenN, encX, ibeq_dec, Tryd.ntmps31]
      simp (maxSteps := 2000000) -implicitDefEqProofs +contextual (disch := first | assumption | omega | decide +kernel) only [push_cast, ↓capI, br2_true, br2_false, frk_tt, frk_tf, frk_f, frkD_tt, frkD_tf, frkD_f, pk2_true, pk2_false, imp_true, seval, Nat.reduceLeDiff, Nat.reduceEqDiff, reduceCtorEq, ↓reduceIte, fmN, fm0, take_N, toN1, slN_nil, encN, slN, cfg0, get_flat_part lenN, get_flat_drop lenN, len_flat lenN, encX, ibeq_dec, hX, h4]
      refine callO.pc i1 ?_
      simp (maxSteps := 2000000) -implicitDefEqProofs +contextual (disch := first | assumption | omega | decide +kernel) only [push_cast, ↓capI, br2_true, br2_false, frk_tt, frk_tf, frk_f, frkD_tt, frkD_tf, frkD_f, pk2_true, pk2_false, imp_true, seval, Nat.reduceLeDiff, Nat.reduceEqDiff, reduceCtorEq, ↓reduceIte, fmN, fm0, take_N, toN1, slN_nil, encN, slN, cfg0, get_flat_part lenN, get_flat_drop lenN, len_flat lenN, encX, ibeq_dec, h0]
      refine endK.ret ?_ (by first | rfl | simp [belN, bel_Ns, bel_slN, bel_clX, bel_encX]); simp [evRes, getT, retV, Tryd.f31]
    · rw [if_neg h0]
      refine PC.walk tok mixed cfg0 Tryd.func31 rfl Tryd.call31 (by simp [belN, bel_Ns, bel_slN, bel_clX, bel_encX]) (by first | rfl | simp [belN, bel_Ns, bel_slN, bel_clX, bel_encX]) ?_; simp (maxSteps := 2000000) -implicitDefEqProofs +contextual (disch := first | assumption | omega | decide +kernel) only [push_cast, ↓capI, br2_true, br2_false, frk_tt, frk_tf, frk_f, frkD_tt, frkD_tf, frkD_f, pk2_true, pk2_false, imp_true, seval, Nat.reduceLeDiff, Nat.reduceEqDiff, reduceCtorEq, ↓reduceIte, fmN, fm0, take_N, toN1, slN_nil, encN, slN, cfg0, get_flat_part lenN, get_flat_drop lenN, len_flat lenN, encX, ibeq_dec, Tryd.ntmps31]
      simp (maxSteps := 2000000) -implicitDefEqProofs +contextual (disch := first | assumption | omega | decide +kernel) only [push_cast, ↓capI, br2_true, br2_false, frk_tt, frk_tf, frk_f, frkD_tt, frkD_tf, frkD_f, pk2_true, pk2_false, imp_true, seval, Nat.reduceLeDiff, Nat.reduceEqDiff, reduceCtorEq, ↓reduceIte, fmN, fm0, take_N, toN1, slN_nil, encN, slN, cfg0, get_flat_part lenN, get_flat_drop lenN, len_flat lenN, encX, ibeq_dec, hX, h4]
      refine callO.pc i1 ?_
      simp (maxSteps := 2000000) -implicitDefEqProofs +contextual (disch := first | assumption | omega | decide +kernel) only [push_cast, ↓capI, br2_true, br2_false, frk_tt, frk_tf, frk_f, frkD_tt, frkD_tf, frkD_f, pk2_true, pk2_false, imp_true, seval, Nat.reduceLeDiff, Nat.reduceEqDiff, reduceCtorEq, ↓reduceIte, fmN, fm0, take_N, toN1, slN_nil, encN, slN, cfg0, get_flat_part lenN, get_flat_drop lenN, len_flat lenN, encX, ibeq_dec, h0]
      refine endK.ret ?_ (by first | rfl | simp [belN, bel_Ns, bel_slN, bel_clX, bel_encX]); simp [evRes, getT, retV, Tryd.f31]
  | .bin x p q, a, r, hp, hl => by
    obtain ⟨h4, hp, hq⟩ := hp
    obtain ⟨hlt, hX, h2⟩ := drop_cons (x := x) (r := flat p ++ (flat q ++ r)) (by rw [hl, flat, List.cons_append, List.append_assoc])
    have j1 := pc31 l hm p (a + 1) _ hp h2
    have j2 := pc31 l hm q (a + 1 + (flat p).length) r hq (drop_app h2)
    have i3 := end40 p l (a + 1) _ hp h2 hlt hm
    have hn := drop_len hlt h2
    have hn2 := drop_len (by omega) (drop_app h2)
    have hnn : (flat p).length ≤ 4000000 := by omega
    rw [show ((a + 1 + (flat p).length : Nat) : Int) = (a : Int) + 1 + ((flat p).length : Nat) by omega] at j2
    rw [show ((a + 1 : Nat) : Int) = a + 1 from rfl] at j1 i3
    have l1 := lng_le p
    have l2 := lng_le q
    have e : lngR (.bin x p q) = if lngR p < 0 ∨ lngR q < 0 then -1 else if x.op = 5 then max (lngR p) (lngR q) else lngR p + lngR q := by
      rw [lngR, lng, lngR, lngR]
      by_cases b1 : (lng p).2 = true <;> by_cases b2 : (lng q).2 = true
      · simp only [b1, b2, if_true, and_self]
        have hz : ¬ ((lng p).1 < 0 ∨ (lng q).1 < 0) := by omega
        rw [if_neg hz]
      · simp [b1, b2]
      · simp [b1, b2]
      · simp [b1, b2]
    have m1 : -1 ≤ lngR p ∧ lngR p ≤ 4000000 := by
      rw [lngR]
      split <;> omega
    have m2 : -1 ≤ lngR q ∧ lngR q ≤ 4000000 := by
      rw [lngR]
      split <;> omega
    rw [e]
    generalize lngR p = P at *
    generalize lngR q = Q at *
    by_cases c1 : P < 0
    · rw [if_pos (.inl c1)]
      rcases h4 with h | h
      all_goals
        refine PC.walk tok mixed cfg0 Tryd.func31 rfl Tryd.call31 (by simp [belN, bel_Ns, bel_slN, bel_clX, bel_encX]) (by first | rfl | simp [belN, bel_Ns, bel_slN, bel_clX, bel_encX]) ?_; simp (maxSteps := 2000000) -implicitDefEqProofs +contextual (disch := first | assumption | omega | decide +kernel) only [push_cast, ↓capI, br2_true, br2_false, frk_tt, frk_tf, frk_f, frkD_tt, frkD_tf, frkD_f, pk2_true, pk2_false, imp_true, seval, Nat.reduceLeDiff, Nat.reduceEqDiff, reduceCtorEq, ↓reduceIte, fmN, fm0, take_N, toN1, slN_nil, encN, slN, cfg0, get_flat_part lenN, get_flat_drop lenN, len_flat lenN, encX, ibeq_dec, Tryd.ntmps31]
        simp (maxSteps := 2000000) -implicitDefEqProofs +contextual (disch := first | assumption | omega | decide +kernel) only [push_cast, ↓capI, br2_true, br2_false, frk_tt, frk_tf, frk_f, frkD_tt, frkD_tf, frkD_f, pk2_true, pk2_false, imp_true, seval, Nat.reduceLeDiff, Nat.reduceEqDiff, reduceCtorEq, ↓reduceIte, fmN, fm0, take_N, toN1, slN_nil, encN, slN, cfg0, get_flat_part lenN, get_flat_drop lenN, len_flat lenN, encX, ibeq_dec, hX, h]
        refine callO.pc j1 ?_
        simp (maxSteps := 2000000) -implicitDefEqProofs +contextual (disch := first | assumption | omega | decide +kernel) only [push_cast, ↓capI, br2_true, br2_false, frk_tt, frk_tf, frk_f, frkD_tt, frkD_tf, frkD_f, pk2_true, pk2_false, imp_true, seval, Nat.reduceLeDiff, Nat.reduceEqDiff, reduceCtorEq, ↓reduceIte, fmN, fm0, take_N, toN1, slN_nil, encN, slN, cfg0, get_flat_part lenN, get_flat_drop lenN, len_flat lenN, encX, ibeq_dec]
        refine callO.pc i3 ?_
        simp (maxSteps := 2000000) -implicitDefEqProofs +contextual (disch := first | assumption | omega | decide +kernel) only [push_cast, ↓capI, br2_true, br2_false, frk_tt, frk_tf, frk_f, frkD_tt, frkD_tf, frkD_f, pk2_true, pk2_false, imp_true, seval, Nat.reduceLeDiff, Nat.reduceEqDiff, reduceCtorEq, ↓reduceIte, fmN, fm0, take_N, toN1, slN_nil, encN, slN, cfg0, get_flat_part lenN, get_flat_drop lenN, len_flat lenN, encX, ibeq_dec]
        refine callO.pc j2 ?_
        simp (maxSteps := 2000000) -implicitDefEqProofs +contextual (disch := first | assumption | omega | decide +kernel) only [push_cast, ↓capI, br2_true, br2_false, frk_tt, frk_tf, frk_f, frkD_tt, frkD_tf, frkD_f, pk2_true, pk2_false, imp_true, seval, Nat.reduceLeDiff, Nat.reduceEqDiff, reduceCtorEq, ↓reduceIte, fmN, fm0, take_N, toN1, slN_nil, encN, slN, cfg0, get_flat_part lenN, get_flat_drop lenN, len_flat lenN, encX, ibeq_dec, c1]
        refine endK.ret ?_ (by first | rfl | simp [belN, bel_Ns, bel_slN, bel_clX, bel_encX]); simp [evRes, getT, retV, Tryd.f31]
    by_cases c2 : Q < 0
    · rw [if_pos (.inr c2)]
      rcases h4 with h | h
      all_goals
        refine PC.walk tok mixed cfg0 Tryd.func31 rfl Tryd.call31 (by simp [belN, bel_Ns, bel_slN, bel_clX, bel_encX]) (by first | rfl | simp [belN, bel_Ns, bel_slN, bel_clX, bel_encX]) ?_; simp (maxSteps := 2000000) -implicitDefEqProofs +contextual (disch := first | assumption | omega | decide +kernel) only [push_cast, ↓capI, br2_true, br2_false, frk_tt, frk_tf, frk_f, frkD_tt, frkD_tf, frkD_f, pk2_true, pk2_false, imp_true, seval, Nat.reduceLeDiff, Nat.reduceEqDiff, reduceCtorEq, ↓reduceIte, fmN, fm0, take_N, toN1, slN_nil, encN, slN, cfg0, get_flat_part lenN, get_flat_drop lenN, len_flat lenN, encX, ibeq_dec, Tryd.ntmps31]
        simp (maxSteps := 2000000) -implicitDefEqProofs +contextual (disch := first | assumption | omega | decide +kernel) only [push_cast, ↓capI, br2_true, br2_false, frk_tt, frk_tf, frk_f, frkD_tt, frkD_tf, frkD_f, pk2_true, pk2_false, imp_true, seval, Nat.reduceLeDiff, Nat.reduceEqDiff, reduceCtorEq, ↓reduceIte, fmN, fm0, take_N, toN1, slN_nil, encN, slN, cfg0, get_flat_part lenN, get_flat_drop lenN, len_flat lenN, encX, ibeq_dec, hX, h]
        refine callO.pc j1 ?_
        simp (maxSteps := 2000000) -implicitDefEqProofs +contextual (disch := first | assumption | omega | decide +kernel) only [push_cast, ↓capI, br2_true, br2_false, frk_tt, frk_tf, frk_f, frkD_tt, frkD_tf, frkD_f, pk2_true, pk2_false, imp_true, seval, Nat.reduceLeDiff, Nat.reduceEqDiff, reduceCtorEq, ↓reduceIte, fmN, fm0, take_N, toN1, slN_nil, encN, slN, cfg0, get_flat_part lenN, get_flat_drop lenN, len_flat lenN, encX, ibeq_dec]
        refine callO.pc i3 ?_
        simp (maxSteps := 2000000) -implicitDefEqProofs +contextual (disch := first | assumption | omega | decide +kernel) only [push_cast, ↓capI, br2_true, br2_false, frk_tt, frk_tf, frk_f, frkD_tt, frkD_tf, frkD_f, pk2_true, pk2_false, imp_true, seval, Nat.reduceLeDiff, Nat.reduceEqDiff, reduceCtorEq, ↓reduceIte, fmN, fm0, take_N, toN1, slN_nil, encN, slN, cfg0, get_flat_part lenN, get_flat_drop lenN, len_flat lenN, encX, ibeq_dec]
        refine callO.pc j2 ?_
        simp (maxSteps := 2000000) -implicitDefEqProofs +contextual (disch := first | assumption | omega | decide +kernel) only [push_cast, ↓capI, br2_true, br2_false, frk_tt, frk_tf, frk_f, frkD_tt, frkD_tf, frkD_f, pk2_true, pk2_false, imp_true, seval, Nat.reduceLeDiff, Nat.reduceEqDiff, reduceCtorEq, ↓reduceIte, fmN, fm0, take_N, toN1, slN_nil, encN, slN, cfg0, get_flat_part lenN, get_flat_drop lenN, len_flat lenN, encX, ibeq_dec, c1, c2]
        refine endK.ret ?_ (by first | rfl | simp [belN, bel_Ns, bel_slN, bel_clX, bel_encX]); simp [evRes, getT, retV, Tryd.f31]
    rw [if_neg (by omega)]
    rcases h4 with h | h
    · rw [if_neg (by omega)]
      refine PC.walk tok mixed cfg0 Tryd.func31 rfl Tryd.call31 (by simp [belN, bel_Ns, bel_slN, bel_clX, bel_encX]) (by first | rfl | simp [belN, bel_Ns, bel_slN, bel_clX, bel_encX]) ?_; simp (maxSteps := 2000000) -implicitDefEqProofs +contextual (disch := first | assumption | omega | decide +kernel) only [push_cast, ↓capI, br2_true, br2_false, frk_tt, frk_tf, frk_f, frkD_tt, frkD_tf, frkD_f, pk2_true, pk2_false, imp_true, seval, Nat.reduceLeDiff, Nat.reduceEqDiff, reduceCtorEq, ↓reduceIte, fmN, fm0, take_N, toN1, slN_nil, encN, slN, cfg0, get_flat_part lenN, get_flat_drop lenN, len_flat lenN, encX, ibeq_dec, Tryd.ntmps31]
      simp (maxSteps := 2000000) -implicitDefEqProofs +contextual (disch := first | assumption | omega | decide +kernel) only [push_cast, ↓capI, br2_true, br2_false, frk_tt, frk_tf, frk_f, frkD_tt, frkD_tf, frkD_f, pk2_true, pk2_false, imp_true, seval, Nat.reduceLeDiff, Nat.reduceEqDiff, reduceCtorEq, ↓reduceIte, fmN, fm0, take_N, toN1, slN_nil, encN, slN, cfg0, get_flat_part lenN, get_flat_drop lenN, len_flat lenN, encX, ibeq_dec, hX, h]
      refine callO.pc j1 ?_
      simp (maxSteps := 2000000) -implicitDefEqProofs +contextual (disch := first | assumption | omega | decide +kernel) only [push_cast, ↓capI, br2_true, br2_false, frk_tt, frk_tf, frk_f, frkD_tt, frkD_tf, frkD_f, pk2_true, pk2_false, imp_true, seval, Nat.reduceLeDiff, Nat.reduceEqDiff, reduceCtorEq, ↓reduceIte, fmN, fm0, take_N, toN1, slN_nil, encN, slN, cfg0, get_flat_part lenN, get_flat_drop lenN, len_flat lenN, encX, ibeq_dec]
      refine callO.pc i3 ?_
      simp (maxSteps := 2000000) -implicitDefEqProofs +contextual (disch := first | assumption | omega | decide +kernel) only [push_cast, ↓capI, br2_true, br2_false, frk_tt, frk_tf, frk_f, frkD_tt, frkD_tf, frkD_f, pk2_true, pk2_false, imp_true, seval, Nat.reduceLeDiff, Nat.reduceEqDiff, reduceCtorEq, ↓reduceIte, fmN, fm0, take_N, toN1, slN_nil, encN, slN, cfg0, get_flat_part lenN, get_flat_drop lenN, len_flat lenN, encX, ibeq_dec]
      refine callO.pc j2 ?_
      simp (maxSteps := 2000000) -implicitDefEqProofs +contextual (disch := first | assumption | omega | decide +kernel) only [push_cast, ↓capI, br2_true, br2_false, frk_tt, frk_tf, frk_f, frkD_tt, frkD_tf, frkD_f, pk2_true, pk2_false, imp_true, seval, Nat.reduceLeDiff, Nat.reduceEqDiff, reduceCtorEq, ↓reduceIte, fmN, fm0, take_N, toN1, slN_nil, encN, slN, cfg0, get_flat_part lenN, get_flat_drop lenN, len_flat lenN, encX, ibeq_dec, c1, c2, hX, h]
      refine endK.ret ?_ (by first | rfl | simp [belN, bel_Ns, bel_slN, bel_clX, bel_encX]); simp [evRes, getT, retV, Tryd.f31]
    · rw [if_pos h]
      refine PC.walk tok mixed cfg0 Tryd.func31 rfl Tryd.call31 (by simp [belN, bel_Ns, bel_slN, bel_clX, bel_encX]) (by first | rfl | simp [belN, bel_Ns, bel_slN, bel_clX, bel_encX]) ?_; simp (maxSteps := 2000000) -implicitDefEqProofs +contextual (disch := first | assumption | omega | decide +kernel) only [push_cast, ↓capI, br2_true, br2_false, frk_tt, frk_tf, frk_f, frkD_tt, frkD_tf, frkD_f, pk2_true, pk2_false, imp_true, seval, Nat.reduceLeDiff, Nat.reduceEqDiff, reduceCtorEq, ↓reduceIte, fmN, fm0, take_N, toN1, slN_nil, encN, slN, cfg0, get_flat_part lenN, get_flat_drop lenN, len_flat lenN, encX, ibeq_dec, Tryd.ntmps31]
      simp (maxSteps := 2000000) -implicitDefEqProofs +contextual (disch := first | assumption | omega | decide +kernel) only [push_cast, ↓capI, br2_true, br2_false, frk_tt, frk_tf, frk_f, frkD_tt, frkD_tf, frkD_f, pk2_true, pk2_false, imp_true, seval, Nat.reduceLeDiff, Nat.reduceEqDiff, reduceCtorEq, ↓reduceIte, fmN, fm0, take_N, toN1, slN_nil, encN, slN, cfg0, get_flat_part lenN, get_flat_drop lenN, len_flat lenN, encX, ibeq_dec, hX, h]
      refine callO.pc j1 ?_
      simp (maxSteps := 2000000) -implicitDefEqProofs +contextual (disch := first | assumption | omega | decide +kernel) only [push_cast, ↓capI, br2_true, br2_false, frk_tt, frk_tf, frk_f, frkD_tt, frkD_tf, frkD_f, pk2_true, pk2_false, imp_true, seval, Nat.reduceLeDiff, Nat.reduceEqDiff, reduceCtorEq, ↓reduceIte, fmN, fm0, take_N, toN1, slN_nil, encN, slN, cfg0, get_flat_part lenN, get_flat_drop lenN, len_flat lenN, encX, ibeq_dec]
      refine callO.pc i3 ?_
      simp (maxSteps := 2000000) -implicitDefEqProofs +contextual (disch := first | assumption | omega | decide +kernel) only [push_cast, ↓capI, br2_true, br2_false, frk_tt, frk_tf, frk_f, frkD_tt, frkD_tf, frkD_f, pk2_true, pk2_false, imp_true, seval, Nat.reduceLeDiff, Nat.reduceEqDiff, reduceCtorEq, ↓reduceIte, fmN, fm0, take_N, toN1, slN_nil, encN, slN, cfg0, get_flat_part lenN, get_flat_drop lenN, len_flat lenN, encX, ibeq_dec]
      refine callO.pc j2 ?_
      simp (maxSteps := 2000000) -implicitDefEqProofs +contextual (disch := first | assumption | omega | decide +kernel) only [push_cast, ↓capI, br2_true, br2_false, frk_tt, frk_tf, frk_f, frkD_tt, frkD_tf, frkD_f, pk2_true, pk2_false, imp_true, seval, Nat.reduceLeDiff, Nat.reduceEqDiff, reduceCtorEq, ↓reduceIte, fmN, fm0, take_N, toN1, slN_nil, encN, slN, cfg0, get_flat_part lenN, get_flat_drop lenN, len_flat lenN, encX, ibeq_dec, c1, c2, hX, h]
      refine endK.ret ?_ (by first | rfl | simp [belN, bel_Ns, bel_slN, bel_clX, bel_encX]); simp [evRes, getT, retV, Tryd.f31]
      split <;> omega
theorem pc14 (l : List Nd) (hl : l.length ≤ 4000000) (r : Int × Bool) (h : mxL l r) : PC Tryd.prog 14 [slN l] (encIB r) := by
  have i0 := pc30 l hl
  rcases h with ⟨hc, p, hp, rfl, h24, rfl⟩ | ⟨hc, rfl⟩
  · have i1 := pc31 (flat p) hl p 0 [] hp (by rw [List.append_nil, List.drop_zero])
    rw [hc] at i0
    have hle := lng_le p
    by_cases hb : (lng p).2 = true
    · have e : lngR p = (lng p).1 := by rw [lngR, if_pos hb]
      rw [e] at i1
      have hn : ¬ (lng p).1 < 0 := by omega
      refine PC.walk tok mixed cfg0 Tryd.func14 rfl Tryd.call14 (by simp [belN, bel_Ns, bel_slN, bel_clX, bel_encX]) (by first | rfl | simp [belN, bel_Ns, bel_slN, bel_clX, bel_encX]) ?_; simp (maxSteps := 2000000) -implicitDefEqProofs +contextual (disch := first | assumption | omega | decide +kernel) only [push_cast, ↓capI, br2_true, br2_false, frk_tt, frk_tf, frk_f, frkD_tt, frkD_tf, frkD_f, pk2_true, pk2_false, imp_true, seval, Nat.reduceLeDiff, Nat.reduceEqDiff, reduceCtorEq, ↓reduceIte, fmN, fm0, take_N, toN1, slN_nil, encN, slN, cfg0, get_flat_part lenN, get_flat_drop lenN, len_flat lenN, encX, ibeq_dec, Tryd.ntmps14]
      refine callO.pc i0 ?_
      simp (maxSteps := 2000000) -implicitDefEqProofs +contextual (disch := first | assumption | omega | decide +kernel) only [push_cast, ↓capI, br2_true, br2_false, frk_tt, frk_tf, frk_f, frkD_tt, frkD_tf, frkD_f, pk2_true, pk2_false, imp_true, seval, Nat.reduceLeDiff, Nat.reduceEqDiff, reduceCtorEq, ↓reduceIte, fmN, fm0, take_N, toN1, slN_nil, encN, slN, cfg0, get_flat_part lenN, get_flat_drop lenN, len_flat lenN, encX, ibeq_dec]
      refine callO.pc i1 ?_
      simp (maxSteps := 2000000) -implicitDefEqProofs +contextual (disch := first | assumption | omega | decide +kernel) only [push_cast, ↓capI, br2_true, br2_false, frk_tt, frk_tf, frk_f, frkD_tt, frkD_tf, frkD_f, pk2_true, pk2_false, imp_true, seval, Nat.reduceLeDiff, Nat.reduceEqDiff, reduceCtorEq, ↓reduceIte, fmN, fm0, take_N, toN1, slN_nil, encN, slN, cfg0, get_flat_part lenN, get_flat_drop lenN, len_flat lenN, encX, ibeq_dec, hn]
      refine callO.pc i1 ?_
      simp (maxSteps := 2000000) -implicitDefEqProofs +contextual (disch := first | assumption | omega | decide +kernel) only [push_cast, ↓capI, br2_true, br2_false, frk_tt, frk_tf, frk_f, frkD_tt, frkD_tf, frkD_f, pk2_true, pk2_false, imp_true, seval, Nat.reduceLeDiff, Nat.reduceEqDiff, reduceCtorEq, ↓reduceIte, fmN, fm0, take_N, toN1, slN_nil, encN, slN, cfg0, get_flat_part lenN, get_flat_drop lenN, len_flat lenN, encX, ibeq_dec]
      refine endK.ret ?_ (by first | rfl | simp [belN, bel_Ns, bel_slN, bel_clX, bel_encX]); simp [evRes, getT, retV, Tryd.f14,  encIB, hb]
    · have e : lngR p = -1 := by rw [lngR, if_neg hb]
      rw [e] at i1
      have h0 : (lng p).1 = 0 ∧ (lng p).2 = false := by
        refine ⟨?_, by simpa using hb⟩
        cases p with
        | leaf x => simp [lng] at hb
        | un x p => rfl
        | bin x p q =>
          rw [lng] at hb ⊢
          split at hb
          · simp at hb
          · rename_i hh
            rw [if_neg hh]
      have e2 : lng p = (0, false) := Prod.ext h0.1 h0.2
      rw [e2]
      refine PC.walk tok mixed cfg0 Tryd.func14 rfl Tryd.call14 (by simp [belN, bel_Ns, bel_slN, bel_clX, bel_encX]) (by first | rfl | simp [belN, bel_Ns, bel_slN, bel_clX, bel_encX]) ?_; simp (maxSteps := 2000000) -implicitDefEqProofs +contextual (disch := first | assumption | omega | decide +kernel) only [push_cast, ↓capI, br2_true, br2_false, frk_tt, frk_tf, frk_f, frkD_tt, frkD_tf, frkD_f, pk2_true, pk2_false, imp_true, seval, Nat.reduceLeDiff, Nat.reduceEqDiff, reduceCtorEq, ↓reduceIte, fmN, fm0, take_N, toN1, slN_nil, encN, slN, cfg0, get_flat_part lenN, get_flat_drop lenN, len_flat lenN, encX, ibeq_dec, Tryd.ntmps14]
      refine callO.pc i0 ?_
      simp (maxSteps := 2000000) -implicitDefEqProofs +contextual (disch := first | assumption | omega | decide +kernel) only [push_cast, ↓capI, br2_true, br2_false, frk_tt, frk_tf, frk_f, frkD_tt, frkD_tf, frkD_f, pk2_true, pk2_false, imp_true, seval, Nat.reduceLeDiff, Nat.reduceEqDiff, reduceCtorEq, ↓reduceIte, fmN, fm0, take_N, toN1, slN_nil, encN, slN, cfg0, get_flat_part lenN, get_flat_drop lenN, len_flat lenN, encX, ibeq_dec]
      refine callO.pc i1 ?_
      simp (maxSteps := 2000000) -implicitDefEqProofs +contextual (disch := first | assumption | omega | decide +kernel) only [push_cast, ↓capI, br2_true, br2_false, frk_tt, frk_tf, frk_f, frkD_tt, frkD_tf, frkD_f, pk2_true, pk2_false, imp_true, seval, Nat.reduceLeDiff, Nat.reduceEqDiff, reduceCtorEq, ↓reduceIte, fmN, fm0, take_N, toN1, slN_nil, encN, slN, cfg0, get_flat_part lenN, get_flat_drop lenN, len_flat lenN, encX, ibeq_dec]
      refine endK.ret ?_ (by first | rfl | simp [belN, bel_Ns, bel_slN, bel_clX, bel_encX]); simp [evRes, getT, retV, Tryd.f14,  encIB]
  · rw [decide_eq_false hc] at i0
    refine PC.walk tok mixed cfg0 Tryd.func14 rfl Tryd.call14 (by simp [belN, bel_Ns, bel_slN, bel_clX, bel_encX]) (by first | rfl | simp [belN, bel_Ns, bel_slN, bel_clX, bel_encX]) ?_; simp (maxSteps := 2000000) -implicitDefEqProofs +contextual (disch := first | assumption | omega | decide +kernel) only [push_cast, ↓capI, br2_true, br2_false, frk_tt, frk_tf, frk_f, frkD_tt, frkD_tf, frkD_f, pk2_true, pk2_false, imp_true, seval, Nat.reduceLeDiff, Nat.reduceEqDiff, reduceCtorEq, ↓reduceIte, fmN, fm0, take_N, toN1, slN_nil, encN, slN, cfg0, get_flat_part lenN, get_flat_drop lenN, len_flat lenN, encX, ibeq_dec, Tryd.ntmps14]
    refine callO.pc i0 ?_
    simp (maxSteps := 2000000) -implicitDefEqProofs +contextual (disch := first | assumption | omega | decide +kernel) only [push_cast, ↓capI, br2_true, br2_false, frk_tt, frk_tf, frk_f, frkD_tt, frkD_tf, frkD_f, pk2_true, pk2_false, imp_true, seval, Nat.reduceLeDiff, Nat.reduceEqDiff, reduceCtorEq, ↓reduceIte, fmN, fm0, take_N, toN1, slN_nil, encN, slN, cfg0, get_flat_part lenN, get_flat_drop lenN, len_flat lenN, encX, ibeq_dec]
    refine endK.ret ?_ (by first | rfl | simp [belN, bel_Ns, bel_slN, bel_clX, bel_encX]); simp [evRes, getT, retV, Tryd.f14,  encIB]
end Go.Proofs.YtginpkchjeooeaaDoor

/- Chapter 41: Matches, by the program. -/
set_option maxRecDepth 100000
set_option maxHeartbeats 4000000
set_option linter.all false
namespace Go.Proofs.YtginpkchjeooeaaDoor
open Go.Vm

def slT (n : Nat) (f : Nat → Bool) : V := .sl false (tab n fun i => .bool (f i)) n
def slI (l : List Int) : V := .sl false (l.map (.int .i64 ·)) l.length
theorem bel_tb {m n : Nat} {f : Nat → Bool} : belAll m (tab n fun i => V.bool (f i)) = true := belAll_tab fun _ _ => rfl
theorem bel_slT {m n : Nat} {f : Nat → Bool} : (slT n f).bel m = true := by rw [slT, bel_sl, bel_tb]
theorem bel_I {m : Nat} {l : List Int} : belAll m (l.map (V.int .i64 ·)) = true := belAll_map (fun _ => rfl) l
theorem bel_slI {m : Nat} {l : List Int} : (slI l).bel m = true := by rw [slI, bel_sl, bel_I]
theorem get_mapI {l : List Int} {i : Nat} (h : i < l.length) : getV ((l.map (V.int .i64 ·)).drop (i * 1)) 0 1 = [.int .i64 l[i]] := get_map0 l i h
theorem get_mapI2 {l : List Int} {i : Nat} (h : i < l.length) : getV ((l.map (V.int .i64 ·)).drop i) 0 1 = [.int .i64 l[i]] := getV_map h
theorem getV_tab1 {n i : Nat} {g : Nat → V} (h : i < n) : getV ((tab n g).drop i) 0 1 = [g i] := by
  have := getV_tab (g := g) h
  rwa [Nat.mul_one] at this
theorem slT_ext {n : Nat} {f g : Nat → Bool} (h : ∀ i, i < n → f i = g i) : slT n f = slT n g := by
  unfold slT
  rw [tab_ext fun i hi => by rw [h i hi]]
theorem pc54 (n : Nat) (f : Nat → Bool) (hn : n ≤ 1000) : PC Tryd.prog 54 [slT n f] (.bool ((List.range n).any f)) := by
  refine PC.walk tok mixed cfg0 Tryd.func54 rfl Tryd.call54 (by simp [fmN, fm0, belN, bel_Ns, bel_slN, bel_clX, bel_encX, bel_slT, bel_tb, bel_slI, bel_I]) (by first | rfl | simp [fmN, fm0, belN, bel_Ns, bel_slN, bel_clX, bel_encX, bel_slT, bel_tb, bel_slI, bel_I]) ?_; simp (maxSteps := 2000000) -implicitDefEqProofs +contextual (disch := first | assumption | omega | decide +kernel) only [push_cast, ↓capI, br2_true, br2_false, frk_tt, frk_tf, frk_f, frkD_tt, frkD_tf, frkD_f, pk2_true, pk2_false, imp_true, seval, Nat.reduceLeDiff, Nat.reduceEqDiff, reduceCtorEq, ↓reduceIte, fmN, fm0, take_N, toN1, slN_nil, encN, slN, cfg0, get_flat_part lenN, get_flat_drop lenN, len_flat lenN, encX, slT, slI, Nat.mul_one, tab_length, putV_tab, getV_tab, getV_tabO, getV_tabP, getV_tab1, get_mapI, get_mapI2, List.length_map, Tryd.ntmps54]
  refine T.lp tok mixed cfg0 (fun (i : Nat) => dd 5 (kp 2 (sv (.int .i64 i) (dd 5 (nl))))) (fun H0 (i : Nat) => H0) (fun (i : Nat) => i ≤ n ∧ ∀ k, k < i → f k = false) (fun (i : Nat) => n - i) (0) ?_ ?_ ?_
  · exact ⟨Nat.zero_le _, fun k h => absurd h (Nat.not_lt_zero _)⟩
  · exact Gn.canon (J := []) (by first | rfl | (simp [slT, tab_length, rep_tab]; done) | (simp [slT, tab_length, rep_tab]; rfl)) (by simp [wk, slN, slT, slI, encX, putT, kp, dd, sv, nl]) (by simp [tab_length]) (by simp [fmN, fm0, belN, bel_Ns, bel_slN, bel_clX, bel_encX, bel_slT, bel_tb, bel_slI, bel_I, kp, dd, sv, nl]) (by simp [fmN, fm0, belN, bel_Ns, bel_slN, bel_clX, bel_encX, bel_slT, bel_tb, bel_slI, bel_I])
  rintro i ⟨hi, hf⟩
  by_cases hlt : i < n
  · cases hb : f i
    · simp (maxSteps := 2000000) -implicitDefEqProofs +contextual (disch := first | assumption | omega | decide +kernel) only [push_cast, ↓capI, br2_true, br2_false, frk_tt, frk_tf, frk_f, frkD_tt, frkD_tf, frkD_f, pk2_true, pk2_false, imp_true, seval, Nat.reduceLeDiff, Nat.reduceEqDiff, reduceCtorEq, ↓reduceIte, fmN, fm0, take_N, toN1, slN_nil, encN, slN, cfg0, get_flat_part lenN, get_flat_drop lenN, len_flat lenN, encX, slT, slI, Nat.mul_one, tab_length, putV_tab, getV_tab, getV_tabO, getV_tabP, getV_tab1, get_mapI, get_mapI2, List.length_map, hlt, hb]
      refine ⟨i + 1, ⟨by omega, fun k hk => by rcases Nat.lt_succ_iff_lt_or_eq.1 hk with h | h; exact hf k h; rw [h]; exact hb⟩, by (try simp only); omega, ?_⟩; exact Gn.canon (by first | rfl | (simp [slT, tab_length, rep_tab]; rfl)) (by simp [wk, slN, slT, slI, encX]) (by simp [tab_length]) (by simp [fmN, fm0, belN, bel_Ns, bel_slN, bel_clX, bel_encX, bel_slT, bel_tb, bel_slI, bel_I]) (by simp [fmN, fm0, belN, bel_Ns, bel_slN, bel_clX, bel_encX, bel_slT, bel_tb, bel_slI, bel_I])
    · have e : (List.range n).any f = true := List.any_eq_true.2 ⟨i, List.mem_range.2 hlt, hb⟩
      rw [e]
      simp (maxSteps := 2000000) -implicitDefEqProofs +contextual (disch := first | assumption | omega | decide +kernel) only [push_cast, ↓capI, br2_true, br2_false, frk_tt, frk_tf, frk_f, frkD_tt, frkD_tf, frkD_f, pk2_true, pk2_false, imp_true, seval, Nat.reduceLeDiff, Nat.reduceEqDiff, reduceCtorEq, ↓reduceIte, fmN, fm0, take_N, toN1, slN_nil, encN, slN, cfg0, get_flat_part lenN, get_flat_drop lenN, len_flat lenN, encX, slT, slI, Nat.mul_one, tab_length, putV_tab, getV_tab, getV_tabO, getV_tabP, getV_tab1, get_mapI, get_mapI2, List.length_map, hlt, hb]
      refine endK.ret ?_ (by first | rfl | simp [fmN, fm0, belN, bel_Ns, bel_slN, bel_clX, bel_encX, bel_slT, bel_tb, bel_slI, bel_I]); simp [evRes, getT, retV, Tryd.f54]
  · have e : (List.range n).any f = false := by
      rw [List.any_eq_false]
      intro k hk
      rw [hf k (by have := List.mem_range.1 hk; omega)]
      simp
    rw [e]
    simp (maxSteps := 2000000) -implicitDefEqProofs +contextual (disch := first | assumption | omega | decide +kernel) only [push_cast, ↓capI, br2_true, br2_false, frk_tt, frk_tf, frk_f, frkD_tt, frkD_tf, frkD_f, pk2_true, pk2_false, imp_true, seval, Nat.reduceLeDiff, Nat.reduceEqDiff, reduceCtorEq, ↓reduceIte, fmN, fm0, take_N, toN1, slN_nil, encN, slN, cfg0, get_flat_part lenN, get_flat_drop lenN, len_flat lenN, encX, slT, slI, Nat.mul_one, tab_length, putV_tab, getV_tab, getV_tabO, getV_tabP, getV_tab1, get_mapI, get_mapI2, List.length_map, hlt]
    refine endK.ret ?_ (by first | rfl | simp [fmN, fm0, belN, bel_Ns, bel_slN, bel_clX, bel_encX, bel_slT, bel_tb, bel_slI, bel_I]); simp [evRes, getT, retV, Tryd.f54]
theorem cell_step {n i : Nat} {h : Nat → Bool} {b : Bool} (hb : b = h i) : (tab n fun k => if k = i then V.bool b else V.bool (decide (k < i) && h k)) = tab n fun k => V.bool (decide (k < i + 1) && h k) := by
  refine tab_ext fun k _ => ?_
  by_cases e : k = i
  · rw [if_pos e, e, hb, decide_eq_true (Nat.lt_succ_self i), Bool.true_and]
  · rw [if_neg e]
    congr 2
    rw [decide_eq_decide]
    omega
theorem cell_zero {n : Nat} {h : Nat → Bool} : (tab n fun k => V.bool (decide (k < 0) && h k)) = tab n fun _ => V.bool false := tab_ext fun k _ => by simp
theorem cell_end {n : Nat} {h : Nat → Bool} : (tab n fun k => V.bool (decide (k < n) && h k)) = tab n fun k => V.bool (h k) := tab_ext fun k hk => by simp [hk]
theorem pc41 (n : Nat) (f g : Nat → Bool) (hn : n ≤ 1000) : PC Tryd.prog 41 [slT n f, slT n g] (slT n fun k => f k || g k) := by
  refine PC.walk tok mixed cfg0 Tryd.func41 rfl Tryd.call41 (by simp [fmN, fm0, belN, bel_Ns, bel_slN, bel_clX, bel_encX, bel_slT, bel_tb, bel_slI, bel_I]) (by first | rfl | simp [fmN, fm0, belN, bel_Ns, bel_slN, bel_clX, bel_encX, bel_slT, bel_tb, bel_slI, bel_I]) ?_; simp (maxSteps := 2000000) -implicitDefEqProofs +contextual (disch := first | assumption | omega | decide +kernel) only [push_cast, ↓capI, br2_true, br2_false, frk_tt, frk_tf, frk_f, frkD_tt, frkD_tf, frkD_f, pk2_true, pk2_false, imp_true, seval, Nat.reduceLeDiff, Nat.reduceEqDiff, reduceCtorEq, ↓reduceIte, fmN, fm0, take_N, toN1, slN_nil, encN, slN, cfg0, get_flat_part lenN, get_flat_drop lenN, len_flat lenN, encX, slT, slI, Nat.mul_one, tab_length, putV_tab, getV_tab, getV_tabO, getV_tabP, getV_tab1, get_mapI, get_mapI2, List.length_map, Tryd.ntmps41]
  simp (maxSteps := 2000000) -implicitDefEqProofs +contextual (disch := first | assumption | omega | decide +kernel) only [push_cast, ↓capI, br2_true, br2_false, frk_tt, frk_tf, frk_f, frkD_tt, frkD_tf, frkD_f, pk2_true, pk2_false, imp_true, seval, Nat.reduceLeDiff, Nat.reduceEqDiff, reduceCtorEq, ↓reduceIte, fmN, fm0, take_N, toN1, slN_nil, encN, slN, cfg0, get_flat_part lenN, get_flat_drop lenN, len_flat lenN, encX, slT, slI, Nat.mul_one, tab_length, putV_tab, getV_tab, getV_tabO, getV_tabP, getV_tab1, get_mapI, get_mapI2, List.length_map, rep_tab]
  refine T.lp tok mixed cfg0 (fun (i : Nat) => kp 2 (dd 3 (kp 1 (dd 5 (kp 1 (sv (.int .i64 i) (dd 17 (nl)))))))) (fun H0 (i : Nat) => [.cells 0 (tab n fun k => .bool (decide (k < i) && (f k || g k)))]) (fun (i : Nat) => i ≤ n) (fun (i : Nat) => n - i) (0) ?_ ?_ ?_
  · exact Nat.zero_le _
  · rw [cell_zero]
    exact Gn.canon (J := []) (by first | rfl | (simp [slT, tab_length, rep_tab]; done) | (simp [slT, tab_length, rep_tab]; rfl)) (by simp [wk, slN, slT, slI, encX, putT, kp, dd, sv, nl]) (by simp [tab_length]) (by simp [fmN, fm0, belN, bel_Ns, bel_slN, bel_clX, bel_encX, bel_slT, bel_tb, bel_slI, bel_I, kp, dd, sv, nl]) (by simp [fmN, fm0, belN, bel_Ns, bel_slN, bel_clX, bel_encX, bel_slT, bel_tb, bel_slI, bel_I])
  intro i hi
  by_cases hlt : i < n
  · cases hb : f i
    all_goals
      simp (maxSteps := 2000000) -implicitDefEqProofs +contextual (disch := first | assumption | omega | decide +kernel) only [push_cast, ↓capI, br2_true, br2_false, frk_tt, frk_tf, frk_f, frkD_tt, frkD_tf, frkD_f, pk2_true, pk2_false, imp_true, seval, Nat.reduceLeDiff, Nat.reduceEqDiff, reduceCtorEq, ↓reduceIte, fmN, fm0, take_N, toN1, slN_nil, encN, slN, cfg0, get_flat_part lenN, get_flat_drop lenN, len_flat lenN, encX, slT, slI, Nat.mul_one, tab_length, putV_tab, getV_tab, getV_tabO, getV_tabP, getV_tab1, get_mapI, get_mapI2, List.length_map, hlt, hb]
      refine ⟨i + 1, hlt, by (try simp only); omega, ?_⟩
      refine Gn.canon (J := []) ?_ (by simp [wk, slN, slT, slI, encX]) (by simp) (by simp [fmN, fm0, belN, bel_Ns, bel_slN, bel_clX, bel_encX, bel_slT, bel_tb, bel_slI, bel_I]) (by simp [fmN, fm0, belN, bel_Ns, bel_slN, bel_clX, bel_encX, bel_slT, bel_tb, bel_slI, bel_I])
      rw [List.append_nil, cell_step (h := fun k => f k || g k) (by simp [hb])]
  · have hie : i = n := by omega
    subst hie
    rw [cell_end]
    simp (maxSteps := 2000000) -implicitDefEqProofs +contextual (disch := first | assumption | omega | decide +kernel) only [push_cast, ↓capI, br2_true, br2_false, frk_tt, frk_tf, frk_f, frkD_tt, frkD_tf, frkD_f, pk2_true, pk2_false, imp_true, seval, Nat.reduceLeDiff, Nat.reduceEqDiff, reduceCtorEq, ↓reduceIte, fmN, fm0, take_N, toN1, slN_nil, encN, slN, cfg0, get_flat_part lenN, get_flat_drop lenN, len_flat lenN, encX, slT, slI, Nat.mul_one, tab_length, putV_tab, getV_tab, getV_tabO, getV_tabP, getV_tab1, get_mapI, get_mapI2, List.length_map, hlt]
    refine endK.gn (Gn.freeze (id := 0) rfl) ?_; refine endK.ret ?_ (by first | rfl | simp [fmN, fm0, belN, bel_Ns, bel_slN, bel_clX, bel_encX, bel_slT, bel_tb, bel_slI, bel_I]); simp [fmN, fm0, belN, bel_Ns, bel_slN, bel_clX, bel_encX, bel_slT, bel_tb, bel_slI, bel_I, fzs_ok, imp, lenOK_iff, List.take_of_length_le, evRes, getT, getO, setO, fzs, fz, fzH, Nat.beq, retV, Res.then, ldT, ldR, mkV, getV, fmN, fm0, take_N, toN1, slN_nil, encN, slN, cfg0, get_flat_part lenN, get_flat_drop lenN, len_flat lenN, encX, slT, slI, Nat.mul_one, tab_length, putV_tab, getV_tab, getV_tabO, getV_tabP, getV_tab1, get_mapI, get_mapI2, List.length_map, Tryd.f41,  slT, tab_length]
theorem pc43 (x : Nd) (p : Pr) : PC Tryd.prog 43 [.agg (clX (.un x p))] (encX (core p)) := by
  refine PC.walk tok mixed cfg0 Tryd.func43 rfl Tryd.call43 (by simp [fmN, fm0, belN, bel_Ns, bel_slN, bel_clX, bel_encX, bel_slT, bel_tb, bel_slI, bel_I]) (by first | rfl | simp [fmN, fm0, belN, bel_Ns, bel_slN, bel_clX, bel_encX, bel_slT, bel_tb, bel_slI, bel_I]) ?_; simp (maxSteps := 2000000) -implicitDefEqProofs +contextual (disch := first | assumption | omega | decide +kernel) only [push_cast, ↓capI, br2_true, br2_false, frk_tt, frk_tf, frk_f, frkD_tt, frkD_tf, frkD_f, pk2_true, pk2_false, imp_true, seval, Nat.reduceLeDiff, Nat.reduceEqDiff, reduceCtorEq, ↓reduceIte, fmN, fm0, take_N, toN1, slN_nil, encN, slN, cfg0, get_flat_part lenN, get_flat_drop lenN, len_flat lenN, encX, slT, slI, Nat.mul_one, tab_length, putV_tab, getV_tab, getV_tabO, getV_tabP, getV_tab1, get_mapI, get_mapI2, List.length_map, Tryd.ntmps43]
  simp (maxSteps := 2000000) -implicitDefEqProofs +contextual (disch := first | assumption | omega | decide +kernel) only [push_cast, ↓capI, br2_true, br2_false, frk_tt, frk_tf, frk_f, frkD_tt, frkD_tf, frkD_f, pk2_true, pk2_false, imp_true, seval, Nat.reduceLeDiff, Nat.reduceEqDiff, reduceCtorEq, ↓reduceIte, fmN, fm0, take_N, toN1, slN_nil, encN, slN, cfg0, get_flat_part lenN, get_flat_drop lenN, len_flat lenN, encX, slT, slI, Nat.mul_one, tab_length, putV_tab, getV_tab, getV_tabO, getV_tabP, getV_tab1, get_mapI, get_mapI2, List.length_map, clX]
  refine T.lp tok mixed cfg0 (fun (q : Pr) => dd 1 (kp 1 (dd 14 (nl)))) (fun H0 (q : Pr) => [.cells 0 [.ifc (tgX q) (.agg (clX q))]]) (fun (q : Pr) => core q = core p) (fun (q : Pr) => (flat q).length) (p) ?_ ?_ ?_
  · rfl
  · exact Gn.canon (J := []) (by first | rfl | (simp [slT, tab_length, rep_tab]; done) | (simp [slT, tab_length, rep_tab]; rfl)) (by simp [wk, slN, slT, slI, encX, putT, kp, dd, sv, nl]) (by simp [tab_length]) (by simp [fmN, fm0, belN, bel_Ns, bel_slN, bel_clX, bel_encX, bel_slT, bel_tb, bel_slI, bel_I, kp, dd, sv, nl]) (by simp [fmN, fm0, belN, bel_Ns, bel_slN, bel_clX, bel_encX, bel_slT, bel_tb, bel_slI, bel_I])
  intro q hq
  rw [← hq]
  cases q with
  | leaf y =>
    simp (maxSteps := 2000000) -implicitDefEqProofs +contextual (disch := first | assumption | omega | decide +kernel) only [push_cast, ↓capI, br2_true, br2_false, frk_tt, frk_tf, frk_f, frkD_tt, frkD_tf, frkD_f, pk2_true, pk2_false, imp_true, seval, Nat.reduceLeDiff, Nat.reduceEqDiff, reduceCtorEq, ↓reduceIte, fmN, fm0, take_N, toN1, slN_nil, encN, slN, cfg0, get_flat_part lenN, get_flat_drop lenN, len_flat lenN, encX, slT, slI, Nat.mul_one, tab_length, putV_tab, getV_tab, getV_tabO, getV_tabP, getV_tab1, get_mapI, get_mapI2, List.length_map, tgX, clX]
    refine endK.ret ?_ (by first | rfl | simp [fmN, fm0, belN, bel_Ns, bel_slN, bel_clX, bel_encX, bel_slT, bel_tb, bel_slI, bel_I]); simp [evRes, getT, retV, Tryd.f43,  encX, tgX, clX, core]
  | bin y a b =>
    simp (maxSteps := 2000000) -implicitDefEqProofs +contextual (disch := first | assumption | omega | decide +kernel) only [push_cast, ↓capI, br2_true, br2_false, frk_tt, frk_tf, frk_f, frkD_tt, frkD_tf, frkD_f, pk2_true, pk2_false, imp_true, seval, Nat.reduceLeDiff, Nat.reduceEqDiff, reduceCtorEq, ↓reduceIte, fmN, fm0, take_N, toN1, slN_nil, encN, slN, cfg0, get_flat_part lenN, get_flat_drop lenN, len_flat lenN, encX, slT, slI, Nat.mul_one, tab_length, putV_tab, getV_tab, getV_tabO, getV_tabP, getV_tab1, get_mapI, get_mapI2, List.length_map, tgX, clX]
    refine endK.ret ?_ (by first | rfl | simp [fmN, fm0, belN, bel_Ns, bel_slN, bel_clX, bel_encX, bel_slT, bel_tb, bel_slI, bel_I]); simp [evRes, getT, retV, Tryd.f43,  encX, tgX, clX, core]
  | un y q =>
    have hlt : (flat q).length < (flat (.un y q)).length := by rw [flat]; exact Nat.lt_succ_self _
    simp (maxSteps := 2000000) -implicitDefEqProofs +contextual (disch := first | assumption | omega | decide +kernel) only [push_cast, ↓capI, br2_true, br2_false, frk_tt, frk_tf, frk_f, frkD_tt, frkD_tf, frkD_f, pk2_true, pk2_false, imp_true, seval, Nat.reduceLeDiff, Nat.reduceEqDiff, reduceCtorEq, ↓reduceIte, fmN, fm0, take_N, toN1, slN_nil, encN, slN, cfg0, get_flat_part lenN, get_flat_drop lenN, len_flat lenN, encX, slT, slI, Nat.mul_one, tab_length, putV_tab, getV_tab, getV_tabO, getV_tabP, getV_tab1, get_mapI, get_mapI2, List.length_map, tgX, clX]
    refine ⟨q, rfl, by (try simp only); omega, ?_⟩; exact Gn.canon (by first | rfl | (simp [slT, tab_length, rep_tab, flat]; rfl)) (by simp [wk, slN, slT, slI, encX, flat]) (by simp [tab_length]) (by simp [fmN, fm0, belN, bel_Ns, bel_slN, bel_clX, bel_encX, bel_slT, bel_tb, bel_slI, bel_I]) (by simp [fmN, fm0, belN, bel_Ns, bel_slN, bel_clX, bel_encX, bel_slT, bel_tb, bel_slI, bel_I])
theorem pcj41 (n : Nat) (f g : Nat → Bool) (hn : n ≤ 1000) : PCJ Tryd.prog 41 [slT n f, slT n g] (.buf 0 0 0 n 1) [.cells 0 (tab n fun k => .bool (f k || g k))] := by
  refine PCJ.walk tok mixed cfg0 Tryd.func41 rfl Tryd.call41 (by simp [fmN, fm0, belN, bel_Ns, bel_slN, bel_clX, bel_encX, bel_slT, bel_tb, bel_slI, bel_I]) ?_; simp (maxSteps := 2000000) -implicitDefEqProofs +contextual (disch := first | assumption | omega | decide +kernel) only [push_cast, ↓capI, br2_true, br2_false, frk_tt, frk_tf, frk_f, frkD_tt, frkD_tf, frkD_f, pk2_true, pk2_false, imp_true, seval, Nat.reduceLeDiff, Nat.reduceEqDiff, reduceCtorEq, ↓reduceIte, fmN, fm0, take_N, toN1, slN_nil, encN, slN, cfg0, get_flat_part lenN, get_flat_drop lenN, len_flat lenN, encX, slT, slI, Nat.mul_one, tab_length, putV_tab, getV_tab, getV_tabO, getV_tabP, getV_tab1, get_mapI, get_mapI2, List.length_map, Tryd.ntmps41]
  simp (maxSteps := 2000000) -implicitDefEqProofs +contextual (disch := first | assumption | omega | decide +kernel) only [push_cast, ↓capI, br2_true, br2_false, frk_tt, frk_tf, frk_f, frkD_tt, frkD_tf, frkD_f, pk2_true, pk2_false, imp_true, seval, Nat.reduceLeDiff, Nat.reduceEqDiff, reduceCtorEq, ↓reduceIte, fmN, fm0, take_N, toN1, slN_nil, encN, slN, cfg0, get_flat_part lenN, get_flat_drop lenN, len_flat lenN, encX, slT, slI, Nat.mul_one, tab_length, putV_tab, getV_tab, getV_tabO, getV_tabP, getV_tab1, get_mapI, get_mapI2, List.length_map, rep_tab]
  refine T.lp tok mixed cfg0 (fun (i : Nat) => kp 2 (dd 3 (kp 1 (dd 5 (kp 1 (sv (.int .i64 i) (dd 17 (nl)))))))) (fun H0 (i : Nat) => [.cells 0 (tab n fun k => .bool (decide (k < i) && (f k || g k)))]) (fun (i : Nat) => i ≤ n) (fun (i : Nat) => n - i) (0) ?_ ?_ ?_
  · exact Nat.zero_le _
  · rw [cell_zero]
    exact Gn.canon (J := []) (by first | rfl | (simp [slT, tab_length, rep_tab]; done) | (simp [slT, tab_length, rep_tab]; rfl)) (by simp [wk, slN, slT, slI, encX, putT, kp, dd, sv, nl]) (by simp [tab_length]) (by simp [fmN, fm0, belN, bel_Ns, bel_slN, bel_clX, bel_encX, bel_slT, bel_tb, bel_slI, bel_I, kp, dd, sv, nl]) (by simp [fmN, fm0, belN, bel_Ns, bel_slN, bel_clX, bel_encX, bel_slT, bel_tb, bel_slI, bel_I])
  intro i hi
  by_cases hlt : i < n
  · cases hb : f i
    all_goals
      simp (maxSteps := 2000000) -implicitDefEqProofs +contextual (disch := first | assumption | omega | decide +kernel) only [push_cast, ↓capI, br2_true, br2_false, frk_tt, frk_tf, frk_f, frkD_tt, frkD_tf, frkD_f, pk2_true, pk2_false, imp_true, seval, Nat.reduceLeDiff, Nat.reduceEqDiff, reduceCtorEq, ↓reduceIte, fmN, fm0, take_N, toN1, slN_nil, encN, slN, cfg0, get_flat_part lenN, get_flat_drop lenN, len_flat lenN, encX, slT, slI, Nat.mul_one, tab_length, putV_tab, getV_tab, getV_tabO, getV_tabP, getV_tab1, get_mapI, get_mapI2, List.length_map, hlt, hb]
      refine ⟨i + 1, hlt, by (try simp only); omega, ?_⟩
      refine Gn.canon (J := []) ?_ (by simp [wk, slN, slT, slI, encX]) (by simp) (by simp [fmN, fm0, belN, bel_Ns, bel_slN, bel_clX, bel_encX, bel_slT, bel_tb, bel_slI, bel_I]) (by simp [fmN, fm0, belN, bel_Ns, bel_slN, bel_clX, bel_encX, bel_slT, bel_tb, bel_slI, bel_I])
      rw [List.append_nil, cell_step (h := fun k => f k || g k) (by simp [hb])]
  · have hie : i = n := by omega
    subst hie
    rw [cell_end]
    simp (maxSteps := 2000000) -implicitDefEqProofs +contextual (disch := first | assumption | omega | decide +kernel) only [push_cast, ↓capI, br2_true, br2_false, frk_tt, frk_tf, frk_f, frkD_tt, frkD_tf, frkD_f, pk2_true, pk2_false, imp_true, seval, Nat.reduceLeDiff, Nat.reduceEqDiff, reduceCtorEq, ↓reduceIte, fmN, fm0, take_N, toN1, slN_nil, encN, slN, cfg0, get_flat_part lenN, get_flat_drop lenN, len_flat lenN, encX, slT, slI, Nat.mul_one, tab_length, putV_tab, getV_tab, getV_tabO, getV_tabP, getV_tab1, get_mapI, get_mapI2, List.length_map, hlt]
    refine endJ.ret ([]) (by simp [fmN, fm0, belN, bel_Ns, bel_slN, bel_clX, bel_encX, bel_slT, bel_tb, bel_slI, bel_I, fzs_ok, getO, setO, fzs, fz, fzH, Nat.beq, fmN, fm0, take_N, toN1, slN_nil, encN, slN, cfg0, get_flat_part lenN, get_flat_drop lenN, len_flat lenN, encX, slT, slI, Nat.mul_one, tab_length, putV_tab, getV_tab, getV_tabO, getV_tabP, getV_tab1, get_mapI, get_mapI2, List.length_map, slT, tab_length]) (by simp [fmN, fm0, belN, bel_Ns, bel_slN, bel_clX, bel_encX, bel_slT, bel_tb, bel_slI, bel_I, fzs_ok, imp, lenOK_iff, List.take_of_length_le, evRes, getT, getO, setO, fzs, fz, fzH, Nat.beq, retV, Res.then, ldT, ldR, mkV, getV, fmN, fm0, take_N, toN1, slN_nil, encN, slN, cfg0, get_flat_part lenN, get_flat_drop lenN, len_flat lenN, encX, slT, slI, Nat.mul_one, tab_length, putV_tab, getV_tab, getV_tabO, getV_tabP, getV_tab1, get_mapI, get_mapI2, List.length_map, Tryd.f41, slT, tab_length]) (by first | rfl | simp [fmN, fm0, belN, bel_Ns, bel_slN, bel_clX, bel_encX, bel_slT, bel_tb, bel_slI, bel_I, slT, tab_length]) (by first | rfl | simp [fmN, fm0, belN, bel_Ns, bel_slN, bel_clX, bel_encX, bel_slT, bel_tb, bel_slI, bel_I, slT, tab_length])
theorem pur_tb {n : Nat} {f : Nat → Bool} : purs (tab n fun k => .bool (f k)) = true := by
  have : ∀ xs : List V, (∀ x ∈ xs, x.pur = true) → purs xs = true := by
    intro xs
    induction xs with
    | nil => intro _; rfl
    | cons x xs ih => intro h; rw [purs, h x (by simp), ih fun y hy => h y (by simp [hy])]; rfl
  refine this _ fun x hx => ?_
  obtain ⟨i, _, rfl⟩ := tab_mem.1 hx
  rfl
theorem shs_tb {k n : Nat} {f : Nat → Bool} : shs k (tab n fun i => .bool (f i)) = tab n fun i => .bool (f i) := shs_ok bel_tb
theorem fzs_tb {id ver n : Nat} {c : List V} {f : Nat → Bool} : fzs id ver c (tab n fun i => .bool (f i)) = tab n fun i => .bool (f i) := fzs_lt _ bel_tb
theorem take_tb {n : Nat} {f : Nat → V} : (tab n f).take n = tab n f := List.take_of_length_le (by rw [tab_length]; exact Nat.le_refl _)
theorem brw_f {n : Nat} {f g : Nat → Bool} : brws [.cells 0 (tab n fun k => .bool (g k))] [slT n f, .buf 0 0 0 n 1] = [slT n f, slT n g] := by
  simp only [brws, brw, getO, slT, Nat.beq, List.drop_zero, Nat.mul_one, take_tb]
/-- one more round of the closure -/
theorem pc42 (c : Pr) (l : List Int) (f : Nat → Bool) (hl : l.length ≤ 900) (ih : ∀ f, PC Tryd.prog 32 [encX c, slI l, slT (l.length + 1) f] (slT (l.length + 1) (endsG c l f)))
    (G : Nat → Bool) (hG : ∀ k, k ≤ l.length → (G k = true ↔ Reach c l f k)) : PC Tryd.prog 42 [encX c, slI l, slT (l.length + 1) f] (slT (l.length + 1) G) := by
  generalize hn : l.length + 1 = n at ih
  rw [encX] at ih
  refine PC.walk tok mixed cfg0 Tryd.func42 rfl Tryd.call42 (by simp [fmN, fm0, belN, bel_Ns, bel_slN, bel_clX, bel_encX, bel_slT, bel_tb, bel_slI, bel_I]) (by first | rfl | simp [fmN, fm0, belN, bel_Ns, bel_slN, bel_clX, bel_encX, bel_slT, bel_tb, bel_slI, bel_I]) ?_; simp (maxSteps := 2000000) -implicitDefEqProofs +contextual (disch := first | assumption | omega | decide +kernel) only [push_cast, ↓capI, br2_true, br2_false, frk_tt, frk_tf, frk_f, frkD_tt, frkD_tf, frkD_f, pk2_true, pk2_false, imp_true, seval, Nat.reduceLeDiff, Nat.reduceEqDiff, reduceCtorEq, ↓reduceIte, fmN, fm0, take_N, toN1, slN_nil, encN, slN, cfg0, get_flat_part lenN, get_flat_drop lenN, len_flat lenN, encX, slT, slI, Nat.mul_one, tab_length, putV_tab, getV_tab, getV_tabO, getV_tabP, getV_tab1, get_mapI, get_mapI2, List.length_map, Tryd.ntmps42]
  refine T.lp tok mixed cfg0 (fun ((out, fresh) : (Nat → Bool) × (Nat → Bool)) => kp 3 (dd 4 (sv (slT n out) (sv (slT n fresh) (dd 37 (nl)))))) (fun H0 ((out, fresh) : (Nat → Bool) × (Nat → Bool)) => []) (fun ((out, fresh) : (Nat → Bool) × (Nat → Bool)) => (∀ k, k ≤ l.length → f k = true → out k = true) ∧ (∀ k, k ≤ l.length → fresh k = true → out k = true) ∧ (∀ k, k ≤ l.length → out k = true → Reach c l f k) ∧ (∀ j k, j ≤ k → k ≤ l.length → out j = true → fresh j = false → Mt c (part l j k) → out k = true)) (fun ((out, fresh) : (Nat → Bool) × (Nat → Bool)) => cntF n out + (if (List.range n).any fresh = true then 1 else 0)) ((f, f)) ?_ ?_ ?_
  · exact ⟨fun k _ h => h, fun k _ h => h, fun k _ h => ⟨k, Nat.le_refl _, h, by rw [part_self]; exact .nil⟩, fun j k _ _ h1 h2 => by rw [h1] at h2; cases h2⟩
  · exact Gn.canon (J := []) (by first | rfl | (simp [slT, tab_length, rep_tab]; done) | (simp [slT, tab_length, rep_tab]; rfl)) (by simp [wk, slN, slT, slI, encX, putT, kp, dd, sv, nl]) (by simp [tab_length]) (by simp [fmN, fm0, belN, bel_Ns, bel_slN, bel_clX, bel_encX, bel_slT, bel_tb, bel_slI, bel_I, kp, dd, sv, nl]) (by simp [fmN, fm0, belN, bel_Ns, bel_slN, bel_clX, bel_encX, bel_slT, bel_tb, bel_slI, bel_I])
  rintro ⟨out, fresh⟩ ⟨i1, i2, i3, i4⟩
  have h54 := pc54 n fresh (by omega)
  cases hany : (List.range n).any fresh
  · have hno : ∀ k, k ≤ l.length → fresh k = false := by
      intro k hk
      rw [List.any_eq_false] at hany
      simpa using hany k (List.mem_range.2 (by omega))
    have e : (tab n fun k => V.bool (G k)) = tab n fun k => V.bool (out k) := tab_ext fun k hk => congrArg V.bool <| bool_ext (hG k (by omega)) ⟨fun h => i3 k (by omega) h, fun h => reach_all i1 (fun j k h1 h2 h3 h4 => i4 j k h1 h2 h3 (hno j (by omega)) h4) k (by omega) h⟩
    rw [e]
    rw [hany] at h54
    simp (maxSteps := 2000000) -implicitDefEqProofs +contextual (disch := first | assumption | omega | decide +kernel) only [push_cast, ↓capI, br2_true, br2_false, frk_tt, frk_tf, frk_f, frkD_tt, frkD_tf, frkD_f, pk2_true, pk2_false, imp_true, seval, Nat.reduceLeDiff, Nat.reduceEqDiff, reduceCtorEq, ↓reduceIte, fmN, fm0, take_N, toN1, slN_nil, encN, slN, cfg0, get_flat_part lenN, get_flat_drop lenN, len_flat lenN, encX, slT, slI, Nat.mul_one, tab_length, putV_tab, getV_tab, getV_tabO, getV_tabP, getV_tab1, get_mapI, get_mapI2, List.length_map]
    refine callO.pc h54 ?_
    simp (maxSteps := 2000000) -implicitDefEqProofs +contextual (disch := first | assumption | omega | decide +kernel) only [push_cast, ↓capI, br2_true, br2_false, frk_tt, frk_tf, frk_f, frkD_tt, frkD_tf, frkD_f, pk2_true, pk2_false, imp_true, seval, Nat.reduceLeDiff, Nat.reduceEqDiff, reduceCtorEq, ↓reduceIte, fmN, fm0, take_N, toN1, slN_nil, encN, slN, cfg0, get_flat_part lenN, get_flat_drop lenN, len_flat lenN, encX, slT, slI, Nat.mul_one, tab_length, putV_tab, getV_tab, getV_tabO, getV_tabP, getV_tab1, get_mapI, get_mapI2, List.length_map]
    refine endK.ret ?_ (by first | rfl | simp [fmN, fm0, belN, bel_Ns, bel_slN, bel_clX, bel_encX, bel_slT, bel_tb, bel_slI, bel_I]); simp [evRes, getT, retV, Tryd.f42,  slT]
  rw [hany] at h54
  have h32 := ih fresh
  simp (maxSteps := 2000000) -implicitDefEqProofs +contextual (disch := first | assumption | omega | decide +kernel) only [push_cast, ↓capI, br2_true, br2_false, frk_tt, frk_tf, frk_f, frkD_tt, frkD_tf, frkD_f, pk2_true, pk2_false, imp_true, seval, Nat.reduceLeDiff, Nat.reduceEqDiff, reduceCtorEq, ↓reduceIte, fmN, fm0, take_N, toN1, slN_nil, encN, slN, cfg0, get_flat_part lenN, get_flat_drop lenN, len_flat lenN, encX, slT, slI, Nat.mul_one, tab_length, putV_tab, getV_tab, getV_tabO, getV_tabP, getV_tab1, get_mapI, get_mapI2, List.length_map]
  refine callO.pc h54 ?_
  simp (maxSteps := 2000000) -implicitDefEqProofs +contextual (disch := first | assumption | omega | decide +kernel) only [push_cast, ↓capI, br2_true, br2_false, frk_tt, frk_tf, frk_f, frkD_tt, frkD_tf, frkD_f, pk2_true, pk2_false, imp_true, seval, Nat.reduceLeDiff, Nat.reduceEqDiff, reduceCtorEq, ↓reduceIte, fmN, fm0, take_N, toN1, slN_nil, encN, slN, cfg0, get_flat_part lenN, get_flat_drop lenN, len_flat lenN, encX, slT, slI, Nat.mul_one, tab_length, putV_tab, getV_tab, getV_tabO, getV_tabP, getV_tab1, get_mapI, get_mapI2, List.length_map]
  refine callO.pc h32 ?_
  simp (maxSteps := 2000000) -implicitDefEqProofs +contextual (disch := first | assumption | omega | decide +kernel) only [push_cast, ↓capI, br2_true, br2_false, frk_tt, frk_tf, frk_f, frkD_tt, frkD_tf, frkD_f, pk2_true, pk2_false, imp_true, seval, Nat.reduceLeDiff, Nat.reduceEqDiff, reduceCtorEq, ↓reduceIte, fmN, fm0, take_N, toN1, slN_nil, encN, slN, cfg0, get_flat_part lenN, get_flat_drop lenN, len_flat lenN, encX, slT, slI, Nat.mul_one, tab_length, putV_tab, getV_tab, getV_tabO, getV_tabP, getV_tab1, get_mapI, get_mapI2, List.length_map, rep_tab]
  refine T.lp tok mixed cfg0 (fun (i : Nat) => kp 3 (dd 4 (kp 2 (dd 14 (kp 2 (sv (.int .i64 i) (dd 20 (nl)))))))) (fun H0 (i : Nat) => [.cells 0 (tab n fun k => .bool (decide (k < i) && (endsG c l fresh k && !out k)))]) (fun (i : Nat) => i ≤ n) (fun (i : Nat) => n - i) (0) ?_ ?_ ?_
  · exact Nat.zero_le _
  · rw [cell_zero]
    exact Gn.canon (J := []) (by first | rfl | (simp [slT, tab_length, rep_tab]; done) | (simp [slT, tab_length, rep_tab]; rfl)) (by simp [wk, slN, slT, slI, encX, putT, kp, dd, sv, nl]) (by simp [tab_length]) (by simp [fmN, fm0, belN, bel_Ns, bel_slN, bel_clX, bel_encX, bel_slT, bel_tb, bel_slI, bel_I, kp, dd, sv, nl]) (by simp [fmN, fm0, belN, bel_Ns, bel_slN, bel_clX, bel_encX, bel_slT, bel_tb, bel_slI, bel_I])
  intro i hi
  by_cases hlt : i < n
  · cases hb : endsG c l fresh i <;> cases ho : out i
    all_goals
      simp (maxSteps := 2000000) -implicitDefEqProofs +contextual (disch := first | assumption | omega | decide +kernel) only [push_cast, ↓capI, br2_true, br2_false, frk_tt, frk_tf, frk_f, frkD_tt, frkD_tf, frkD_f, pk2_true, pk2_false, imp_true, seval, Nat.reduceLeDiff, Nat.reduceEqDiff, reduceCtorEq, ↓reduceIte, fmN, fm0, take_N, toN1, slN_nil, encN, slN, cfg0, get_flat_part lenN, get_flat_drop lenN, len_flat lenN, encX, slT, slI, Nat.mul_one, tab_length, putV_tab, getV_tab, getV_tabO, getV_tabP, getV_tab1, get_mapI, get_mapI2, List.length_map, hlt, hb, ho]
      refine ⟨i + 1, hlt, by (try simp only); omega, ?_⟩
      refine Gn.canon (J := []) ?_ (by simp [wk, slN, slT, slI, encX]) (by simp) (by simp [fmN, fm0, belN, bel_Ns, bel_slN, bel_clX, bel_encX, bel_slT, bel_tb, bel_slI, bel_I]) (by simp [fmN, fm0, belN, bel_Ns, bel_slN, bel_clX, bel_encX, bel_slT, bel_tb, bel_slI, bel_I])
      rw [List.append_nil, cell_step (h := fun k => endsG c l fresh k && !out k) (by simp [hb, ho])]
  have hie : i = n := by omega
  subst hie
  rw [cell_end]
  simp (maxSteps := 2000000) -implicitDefEqProofs +contextual (disch := first | assumption | omega | decide +kernel) only [push_cast, ↓capI, br2_true, br2_false, frk_tt, frk_tf, frk_f, frkD_tt, frkD_tf, frkD_f, pk2_true, pk2_false, imp_true, seval, Nat.reduceLeDiff, Nat.reduceEqDiff, reduceCtorEq, ↓reduceIte, fmN, fm0, take_N, toN1, slN_nil, encN, slN, cfg0, get_flat_part lenN, get_flat_drop lenN, len_flat lenN, encX, slT, slI, Nat.mul_one, tab_length, putV_tab, getV_tab, getV_tabO, getV_tabP, getV_tab1, get_mapI, get_mapI2, List.length_map, hlt]
  refine callO.lent (by rw [List.nil_append, List.append_nil]; exact brw_f ▸ pcj41 i out (fun k => endsG c l fresh k && !out k) (by omega)) (by rw [List.nil_append, List.append_nil]; exact (congrArg (belAll 0) brw_f).trans (by simp [fmN, fm0, belN, bel_Ns, bel_slN, bel_clX, bel_encX, bel_slT, bel_tb, bel_slI, bel_I])) rfl (by simp [pursO, Ob.pur, pur_tb]) ?_
  simp (maxSteps := 2000000) -implicitDefEqProofs +contextual (disch := first | assumption | omega | decide +kernel) only [push_cast, ↓capI, br2_true, br2_false, frk_tt, frk_tf, frk_f, frkD_tt, frkD_tf, frkD_f, pk2_true, pk2_false, imp_true, seval, Nat.reduceLeDiff, Nat.reduceEqDiff, reduceCtorEq, ↓reduceIte, fmN, fm0, take_N, toN1, slN_nil, encN, slN, cfg0, get_flat_part lenN, get_flat_drop lenN, len_flat lenN, encX, slT, slI, Nat.mul_one, tab_length, putV_tab, getV_tab, getV_tabO, getV_tabP, getV_tab1, get_mapI, get_mapI2, List.length_map, V.sh, shs, shOs, Ob.sh, shs_tb]
  have j1 : ∀ k, k ≤ l.length → f k = true → (out k || endsG c l fresh k && !out k) = true := fun k hk h => by rw [i1 k hk h]; rfl
  have j2 : ∀ k, k ≤ l.length → (endsG c l fresh k && !out k) = true → (out k || endsG c l fresh k && !out k) = true := fun k hk h => by rw [h, Bool.or_true]
  have j3 : ∀ k, k ≤ l.length → (out k || endsG c l fresh k && !out k) = true → Reach c l f k := by
    intro k hk h
    cases ho : out k with
    | true => exact i3 k hk ho
    | false =>
      rw [ho, Bool.false_or, Bool.not_false, Bool.and_true] at h
      obtain ⟨j, hjk, hf, hm⟩ := endsG_iff.1 h
      exact reach_step hjk hk (i3 j (by omega) (i2 j (by omega) hf)) hm
  have j4 : ∀ j k, j ≤ k → k ≤ l.length → (out j || endsG c l fresh j && !out j) = true → (endsG c l fresh j && !out j) = false → Mt c (part l j k) → (out k || endsG c l fresh k && !out k) = true := by
    intro j k hjk hk h1 h2 hm
    rw [h2, Bool.or_false] at h1
    cases hfr : fresh j with
    | false => rw [i4 j k hjk hk h1 hfr hm]; rfl
    | true =>
      have : endsG c l fresh k = true := endsG_iff.2 ⟨j, hjk, hfr, hm⟩
      rw [this]
      cases out k <;> rfl
  have jm : (cntF i fun k => out k || endsG c l fresh k && !out k) + (if (List.range i).any (fun k => endsG c l fresh k && !out k) = true then 1 else 0) < cntF i out + (if (List.range i).any fresh = true then 1 else 0) := by
    rw [if_pos (c := (List.range i).any fresh = true) hany]
    have hmono : ∀ k, k < i → out k = true → (out k || endsG c l fresh k && !out k) = true := fun k _ h => by rw [h]; rfl
    by_cases ha : (List.range i).any (fun k => endsG c l fresh k && !out k) = true
    · rw [if_pos ha]
      obtain ⟨k, hk, hb⟩ := List.any_eq_true.1 ha
      have hb2 := (Bool.and_eq_true _ _ ▸ hb : _ ∧ _)
      have ho : out k = false := by simpa using hb2.2
      have := cntF_lt hmono ⟨k, List.mem_range.1 hk, ho, by rw [hb, Bool.or_true]⟩
      omega
    · rw [if_neg ha]
      have := cntF_mono hmono
      omega
  refine ⟨(fun k => out k || endsG c l fresh k && !out k, fun k => endsG c l fresh k && !out k), ⟨j1, j2, j3, j4⟩, by (try simp only); omega, ?_⟩; refine (Gn.freeze (id := 0) rfl).trans ?_; refine (Gn.freeze (id := 1) rfl).trans ?_; exact Gn.canon (by first | rfl | (simp [slT, tab_length, rep_tab, fzs, fz, fzs_ok, fzH, setO, getO, Nat.beq, List.take_of_length_le, fmN, fm0, belN, bel_Ns, bel_slN, bel_clX, bel_encX, bel_slT, bel_tb, bel_slI, bel_I, fzs_tb, take_tb, hany]; done) | (simp [slT, tab_length, rep_tab, fzs, fz, fzs_ok, fzH, setO, getO, Nat.beq, List.take_of_length_le, fmN, fm0, belN, bel_Ns, bel_slN, bel_clX, bel_encX, bel_slT, bel_tb, bel_slI, bel_I, fzs_tb, take_tb, hany]; rfl)) (by simp [wk, slN, slT, slI, encX, fzs, fz, fzs_ok, fzH, setO, getO, Nat.beq, List.take_of_length_le, fmN, fm0, belN, bel_Ns, bel_slN, bel_clX, bel_encX, bel_slT, bel_tb, bel_slI, bel_I, fzs_tb, take_tb, hany, fmN, fm0, take_N, toN1, slN_nil, encN, slN, cfg0, get_flat_part lenN, get_flat_drop lenN, len_flat lenN, encX, slT, slI, Nat.mul_one, tab_length, putV_tab, getV_tab, getV_tabO, getV_tabP, getV_tab1, get_mapI, get_mapI2, List.length_map]) (by simp [tab_length]) (by simp [fmN, fm0, belN, bel_Ns, bel_slN, bel_clX, bel_encX, bel_slT, bel_tb, bel_slI, bel_I]) (by simp [fmN, fm0, belN, bel_Ns, bel_slN, bel_clX, bel_encX, bel_slT, bel_tb, bel_slI, bel_I])
end Go.Proofs.YtginpkchjeooeaaDoor

/- Chapter 41: Matches, by the program: leaves, pairs, repetitions. -/
set_option maxRecDepth 100000
set_option maxHeartbeats 4000000
set_option linter.all false
namespace Go.Proofs.YtginpkchjeooeaaDoor
open Go.Vm

/-- where a leaf ends -/
def leafG (x : Nd) (l : List Int) (f : Nat → Bool) (k : Nat) : Bool := if x.op = 1 then f k else decide (1 ≤ k) && (f (k - 1) && (decide (x.op = 2) || decide (l.getD (k - 1) 0 = nN x)))
theorem leafG_ends {x : Nd} {l : List Int} {f : Nat → Bool} {k : Nat} (hk : k ≤ l.length) : leafG x l f k = endsG (.leaf x) l f k := by
  refine bool_ext (P := Ends (.leaf x) l f k) ?_ endsG_iff
  unfold leafG Ends
  simp only [Mt]
  by_cases h1 : x.op = 1
  · simp only [if_pos h1]
    constructor
    · intro h
      exact ⟨k, Nat.le_refl _, h, part_self⟩
    · rintro ⟨i, hi, hf, he⟩
      have hl := congrArg List.length he
      rw [part_len hk, List.length_nil] at hl
      have : i = k := by omega
      rw [← this]
      exact hf
  simp only [if_neg h1]
  by_cases h2 : x.op = 2
  · simp only [if_pos h2, decide_eq_true h2, Bool.true_or, Bool.and_true, Bool.and_eq_true, decide_eq_true_eq]
    constructor
    · rintro ⟨hk1, hf⟩
      exact ⟨k - 1, by omega, hf, by rw [part_len hk]; omega⟩
    · rintro ⟨i, hi, hf, he⟩
      rw [part_len hk] at he
      have : i = k - 1 := by omega
      rw [← this]
      exact ⟨by omega, hf⟩
  · simp only [if_neg h2, decide_eq_false h2, Bool.false_or, Bool.and_eq_true, decide_eq_true_eq]
    constructor
    · rintro ⟨hk1, hf, hx⟩
      refine ⟨k - 1, by omega, hf, ?_⟩
      have hlt : k - 1 < l.length := by omega
      have e := part_one hlt
      rw [show k - 1 + 1 = k by omega] at e
      rw [e, ← hx, List.getD_eq_getElem?_getD, List.getElem?_eq_getElem hlt]
      rfl
    · rintro ⟨i, hi, hf, he⟩
      have hl := congrArg List.length he
      rw [part_len hk, List.length_singleton] at hl
      have hlt : i < l.length := by omega
      have hik : k = i + 1 := by omega
      subst hik
      rw [part_one hlt] at he
      injection he with he
      refine ⟨by omega, by simpa using hf, ?_⟩
      rw [Nat.add_sub_cancel, List.getD_eq_getElem?_getD, List.getElem?_eq_getElem hlt]
      exact he
theorem cell_stepN {n i : Nat} {h : Nat → Bool} (hb : h (i + 1) = false) : (tab n fun k => V.bool (decide (k < i + 1) && h k)) = tab n fun k => V.bool (decide (k < i + 2) && h k) := by
  refine tab_ext fun k _ => ?_
  by_cases e : k = i + 1
  · rw [e, hb, Bool.and_false, Bool.and_false]
  · congr 2
    rw [decide_eq_decide]
    omega
theorem cell_keep {n i : Nat} {h : Nat → Bool} (hb : h i = false) : (tab n fun k => V.bool (decide (k < i) && h k)) = tab n fun k => V.bool (decide (k < i + 1) && h k) := by
  refine tab_ext fun k _ => ?_
  by_cases e : k = i
  · rw [e, hb, Bool.and_false, Bool.and_false]
  · congr 2
    rw [decide_eq_decide]
    omega
theorem leaf32 (x : Nd) (l : List Int) (f : Nat → Bool) (hl : l.length ≤ 900) (hx : x.op = 1 ∨ x.op = 2 ∨ x.op = 3) : PC Tryd.prog 32 [encX (.leaf x), slI l, slT (l.length + 1) f] (slT (l.length + 1) (endsG (.leaf x) l f)) := by
  rw [← slT_ext (fun k hk => leafG_ends (by omega))]
  generalize hn : l.length + 1 = n
  by_cases h1 : x.op = 1
  · have e : slT n (leafG x l f) = slT n f := slT_ext fun k _ => by rw [leafG, if_pos h1]
    rw [e]
    refine PC.walk tok mixed cfg0 Tryd.func32 rfl Tryd.call32 (by simp [fmN, fm0, belN, bel_Ns, bel_slN, bel_clX, bel_encX, bel_slT, bel_tb, bel_slI, bel_I]) (by first | rfl | simp [fmN, fm0, belN, bel_Ns, bel_slN, bel_clX, bel_encX, bel_slT, bel_tb, bel_slI, bel_I]) ?_; simp (maxSteps := 2000000) -implicitDefEqProofs +contextual (disch := first | assumption | omega | decide +kernel) only [push_cast, ↓capI, br2_true, br2_false, frk_tt, frk_tf, frk_f, frkD_tt, frkD_tf, frkD_f, pk2_true, pk2_false, imp_true, seval, Nat.reduceLeDiff, Nat.reduceEqDiff, reduceCtorEq, ↓reduceIte, fmN, fm0, take_N, toN1, slN_nil, encN, slN, cfg0, get_flat_part lenN, get_flat_drop lenN, len_flat lenN, encX, slT, slI, Nat.mul_one, tab_length, putV_tab, getV_tab, getV_tabO, getV_tabP, getV_tab1, get_mapI, get_mapI2, List.length_map, fzs_tb, Tryd.ntmps32]
    simp (maxSteps := 2000000) -implicitDefEqProofs +contextual (disch := first | assumption | omega | decide +kernel) only [push_cast, ↓capI, br2_true, br2_false, frk_tt, frk_tf, frk_f, frkD_tt, frkD_tf, frkD_f, pk2_true, pk2_false, imp_true, seval, Nat.reduceLeDiff, Nat.reduceEqDiff, reduceCtorEq, ↓reduceIte, fmN, fm0, take_N, toN1, slN_nil, encN, slN, cfg0, get_flat_part lenN, get_flat_drop lenN, len_flat lenN, encX, slT, slI, Nat.mul_one, tab_length, putV_tab, getV_tab, getV_tabO, getV_tabP, getV_tab1, get_mapI, get_mapI2, List.length_map, fzs_tb, rep_tab, tgX, clX]
    refine T.lp tok mixed cfg0 (fun (i : Nat) => dd 1 (kp 1 (dd 5 (kp 2 (dd 12 (kp 2 (sv (.int .i64 i) (dd 76 (nl))))))))) (fun H0 (i : Nat) => [.cells 0 (tab n fun k => .bool (decide (k < i) && f k)), .cells 0 [.int .i64 x.op, .int .i64 (nN x)]]) (fun (i : Nat) => i ≤ n) (fun (i : Nat) => n - i) (0) ?_ ?_ ?_
    · exact Nat.zero_le _
    · rw [cell_zero]
      exact Gn.canon (J := []) (by first | rfl | (simp [slT, tab_length, rep_tab]; done) | (simp [slT, tab_length, rep_tab]; rfl)) (by simp [wk, slN, slT, slI, encX, putT, kp, dd, sv, nl]) (by simp [tab_length]) (by simp [fmN, fm0, belN, bel_Ns, bel_slN, bel_clX, bel_encX, bel_slT, bel_tb, bel_slI, bel_I, kp, dd, sv, nl]) (by simp [fmN, fm0, belN, bel_Ns, bel_slN, bel_clX, bel_encX, bel_slT, bel_tb, bel_slI, bel_I])
    intro i hi
    by_cases hlt : i < n
    · cases hb : f i
      all_goals
        simp (maxSteps := 2000000) -implicitDefEqProofs +contextual (disch := first | assumption | omega | decide +kernel) only [push_cast, ↓capI, br2_true, br2_false, frk_tt, frk_tf, frk_f, frkD_tt, frkD_tf, frkD_f, pk2_true, pk2_false, imp_true, seval, Nat.reduceLeDiff, Nat.reduceEqDiff, reduceCtorEq, ↓reduceIte, fmN, fm0, take_N, toN1, slN_nil, encN, slN, cfg0, get_flat_part lenN, get_flat_drop lenN, len_flat lenN, encX, slT, slI, Nat.mul_one, tab_length, putV_tab, getV_tab, getV_tabO, getV_tabP, getV_tab1, get_mapI, get_mapI2, List.length_map, fzs_tb, hlt, hb, h1]
        refine ⟨i + 1, hlt, by (try simp only); omega, ?_⟩
        refine Gn.canon (J := []) ?_ (by simp [wk, slN, slT, slI, encX]) (by simp) (by simp [fmN, fm0, belN, bel_Ns, bel_slN, bel_clX, bel_encX, bel_slT, bel_tb, bel_slI, bel_I]) (by simp [fmN, fm0, belN, bel_Ns, bel_slN, bel_clX, bel_encX, bel_slT, bel_tb, bel_slI, bel_I])
        rw [List.append_nil]
        first | rw [cell_step (h := f) hb.symm] | rw [cell_keep hb]
    · have hie : i = n := by omega
      subst hie
      rw [cell_end]
      simp (maxSteps := 2000000) -implicitDefEqProofs +contextual (disch := first | assumption | omega | decide +kernel) only [push_cast, ↓capI, br2_true, br2_false, frk_tt, frk_tf, frk_f, frkD_tt, frkD_tf, frkD_f, pk2_true, pk2_false, imp_true, seval, Nat.reduceLeDiff, Nat.reduceEqDiff, reduceCtorEq, ↓reduceIte, fmN, fm0, take_N, toN1, slN_nil, encN, slN, cfg0, get_flat_part lenN, get_flat_drop lenN, len_flat lenN, encX, slT, slI, Nat.mul_one, tab_length, putV_tab, getV_tab, getV_tabO, getV_tabP, getV_tab1, get_mapI, get_mapI2, List.length_map, fzs_tb, hlt]
      refine endK.gn (Gn.freeze (id := 0) rfl) ?_; refine endK.ret ?_ (by first | rfl | simp [fmN, fm0, belN, bel_Ns, bel_slN, bel_clX, bel_encX, bel_slT, bel_tb, bel_slI, bel_I]); simp [fmN, fm0, belN, bel_Ns, bel_slN, bel_clX, bel_encX, bel_slT, bel_tb, bel_slI, bel_I, fzs_ok, imp, lenOK_iff, List.take_of_length_le, evRes, getT, getO, setO, fzs, fz, fzH, Nat.beq, retV, Res.then, ldT, ldR, mkV, getV, fmN, fm0, take_N, toN1, slN_nil, encN, slN, cfg0, get_flat_part lenN, get_flat_drop lenN, len_flat lenN, encX, slT, slI, Nat.mul_one, tab_length, putV_tab, getV_tab, getV_tabO, getV_tabP, getV_tab1, get_mapI, get_mapI2, List.length_map, fzs_tb, Tryd.f32,  slT, tab_length, take_tb]
  have hL : ∀ i, leafG x l f (i + 1) = (f i && (decide (x.op = 2) || decide (l.getD i 0 = nN x))) := by
    intro i
    rw [leafG, if_neg h1, Nat.add_sub_cancel, decide_eq_true (Nat.le_add_left 1 i), Bool.true_and]
  have h0 : leafG x l f 0 = false := by rw [leafG, if_neg h1]; rfl
  generalize leafG x l f = g at hL h0
  refine PC.walk tok mixed cfg0 Tryd.func32 rfl Tryd.call32 (by simp [fmN, fm0, belN, bel_Ns, bel_slN, bel_clX, bel_encX, bel_slT, bel_tb, bel_slI, bel_I]) (by first | rfl | simp [fmN, fm0, belN, bel_Ns, bel_slN, bel_clX, bel_encX, bel_slT, bel_tb, bel_slI, bel_I]) ?_; simp (maxSteps := 2000000) -implicitDefEqProofs +contextual (disch := first | assumption | omega | decide +kernel) only [push_cast, ↓capI, br2_true, br2_false, frk_tt, frk_tf, frk_f, frkD_tt, frkD_tf, frkD_f, pk2_true, pk2_false, imp_true, seval, Nat.reduceLeDiff, Nat.reduceEqDiff, reduceCtorEq, ↓reduceIte, fmN, fm0, take_N, toN1, slN_nil, encN, slN, cfg0, get_flat_part lenN, get_flat_drop lenN, len_flat lenN, encX, slT, slI, Nat.mul_one, tab_length, putV_tab, getV_tab, getV_tabO, getV_tabP, getV_tab1, get_mapI, get_mapI2, List.length_map, fzs_tb, Tryd.ntmps32]
  simp (maxSteps := 2000000) -implicitDefEqProofs +contextual (disch := first | assumption | omega | decide +kernel) only [push_cast, ↓capI, br2_true, br2_false, frk_tt, frk_tf, frk_f, frkD_tt, frkD_tf, frkD_f, pk2_true, pk2_false, imp_true, seval, Nat.reduceLeDiff, Nat.reduceEqDiff, reduceCtorEq, ↓reduceIte, fmN, fm0, take_N, toN1, slN_nil, encN, slN, cfg0, get_flat_part lenN, get_flat_drop lenN, len_flat lenN, encX, slT, slI, Nat.mul_one, tab_length, putV_tab, getV_tab, getV_tabO, getV_tabP, getV_tab1, get_mapI, get_mapI2, List.length_map, fzs_tb, rep_tab, tgX, clX]
  refine T.lp tok mixed cfg0 (fun (i : Nat) => dd 1 (kp 1 (dd 5 (kp 2 (dd 12 (kp 2 (sv (.int .i64 i) (dd 76 (nl))))))))) (fun H0 (i : Nat) => [.cells 0 (tab n fun k => .bool (decide (k < i + 1) && g k)), .cells 0 [.int .i64 x.op, .int .i64 (nN x)]]) (fun (i : Nat) => i ≤ n) (fun (i : Nat) => n - i) (0) ?_ ?_ ?_
  · exact Nat.zero_le _
  · have e0 : (tab n fun k => V.bool (decide (k < 0 + 1) && g k)) = tab n fun _ => V.bool false := tab_ext fun k _ => by
      cases k with
      | zero => rw [h0]; rfl
      | succ k => rw [decide_eq_false (by omega)]; rfl
    rw [e0]
    exact Gn.canon (J := []) (by first | rfl | (simp [slT, tab_length, rep_tab]; done) | (simp [slT, tab_length, rep_tab]; rfl)) (by simp [wk, slN, slT, slI, encX, putT, kp, dd, sv, nl]) (by simp [tab_length]) (by simp [fmN, fm0, belN, bel_Ns, bel_slN, bel_clX, bel_encX, bel_slT, bel_tb, bel_slI, bel_I, kp, dd, sv, nl]) (by simp [fmN, fm0, belN, bel_Ns, bel_slN, bel_clX, bel_encX, bel_slT, bel_tb, bel_slI, bel_I])
  intro i hi
  by_cases hlt : i < n
  case neg =>
    have hie : i = n := by omega
    subst hie
    have e0 : (tab i fun k => V.bool (decide (k < i + 1) && g k)) = tab i fun k => V.bool (g k) := tab_ext fun k hk => by rw [decide_eq_true (by omega), Bool.true_and]
    rw [e0]
    simp (maxSteps := 2000000) -implicitDefEqProofs +contextual (disch := first | assumption | omega | decide +kernel) only [push_cast, ↓capI, br2_true, br2_false, frk_tt, frk_tf, frk_f, frkD_tt, frkD_tf, frkD_f, pk2_true, pk2_false, imp_true, seval, Nat.reduceLeDiff, Nat.reduceEqDiff, reduceCtorEq, ↓reduceIte, fmN, fm0, take_N, toN1, slN_nil, encN, slN, cfg0, get_flat_part lenN, get_flat_drop lenN, len_flat lenN, encX, slT, slI, Nat.mul_one, tab_length, putV_tab, getV_tab, getV_tabO, getV_tabP, getV_tab1, get_mapI, get_mapI2, List.length_map, fzs_tb, hlt]
    refine endK.gn (Gn.freeze (id := 0) rfl) ?_; refine endK.ret ?_ (by first | rfl | simp [fmN, fm0, belN, bel_Ns, bel_slN, bel_clX, bel_encX, bel_slT, bel_tb, bel_slI, bel_I]); simp [fmN, fm0, belN, bel_Ns, bel_slN, bel_clX, bel_encX, bel_slT, bel_tb, bel_slI, bel_I, fzs_ok, imp, lenOK_iff, List.take_of_length_le, evRes, getT, getO, setO, fzs, fz, fzH, Nat.beq, retV, Res.then, ldT, ldR, mkV, getV, fmN, fm0, take_N, toN1, slN_nil, encN, slN, cfg0, get_flat_part lenN, get_flat_drop lenN, len_flat lenN, encX, slT, slI, Nat.mul_one, tab_length, putV_tab, getV_tab, getV_tabO, getV_tabP, getV_tab1, get_mapI, get_mapI2, List.length_map, fzs_tb, Tryd.f32,  slT, tab_length, take_tb]
  have hLi := hL i
  by_cases hlast : i < l.length
  case neg =>
    have hie : n = i + 1 := by omega
    subst hie
    have e0 : (tab (i + 1) fun k => V.bool (decide (k < i + 1) && g k)) = tab (i + 1) fun k => V.bool (decide (k < i + 1 + 1) && g k) := tab_ext fun k hk => by
      rw [decide_eq_true hk, decide_eq_true (by omega)]
    cases hb : f i
    all_goals
      simp (maxSteps := 2000000) -implicitDefEqProofs +contextual (disch := first | assumption | omega | decide +kernel) only [push_cast, ↓capI, br2_true, br2_false, frk_tt, frk_tf, frk_f, frkD_tt, frkD_tf, frkD_f, pk2_true, pk2_false, imp_true, seval, Nat.reduceLeDiff, Nat.reduceEqDiff, reduceCtorEq, ↓reduceIte, fmN, fm0, take_N, toN1, slN_nil, encN, slN, cfg0, get_flat_part lenN, get_flat_drop lenN, len_flat lenN, encX, slT, slI, Nat.mul_one, tab_length, putV_tab, getV_tab, getV_tabO, getV_tabP, getV_tab1, get_mapI, get_mapI2, List.length_map, fzs_tb, hlt, hb, h1, hlast]
      refine ⟨i + 1, hlt, by (try simp only); omega, ?_⟩
      refine Gn.canon (J := []) ?_ (by simp [wk, slN, slT, slI, encX]) (by simp) (by simp [fmN, fm0, belN, bel_Ns, bel_slN, bel_clX, bel_encX, bel_slT, bel_tb, bel_slI, bel_I]) (by simp [fmN, fm0, belN, bel_Ns, bel_slN, bel_clX, bel_encX, bel_slT, bel_tb, bel_slI, bel_I])
      rw [List.append_nil, e0]
  have hgd : l.getD i 0 = l[i] := by rw [List.getD_eq_getElem?_getD, List.getElem?_eq_getElem hlast]; rfl
  rw [hgd] at hLi
  have hT : ((i : Int) + 1).toNat = i + 1 := by omega
  cases hb : f i
  · rw [hb, Bool.false_and] at hLi
    simp (maxSteps := 2000000) -implicitDefEqProofs +contextual (disch := first | assumption | omega | decide +kernel) only [push_cast, ↓capI, br2_true, br2_false, frk_tt, frk_tf, frk_f, frkD_tt, frkD_tf, frkD_f, pk2_true, pk2_false, imp_true, seval, Nat.reduceLeDiff, Nat.reduceEqDiff, reduceCtorEq, ↓reduceIte, fmN, fm0, take_N, toN1, slN_nil, encN, slN, cfg0, get_flat_part lenN, get_flat_drop lenN, len_flat lenN, encX, slT, slI, Nat.mul_one, tab_length, putV_tab, getV_tab, getV_tabO, getV_tabP, getV_tab1, get_mapI, get_mapI2, List.length_map, fzs_tb, hlt, hb, h1, hlast]
    refine ⟨i + 1, hlt, by (try simp only); omega, ?_⟩
    refine Gn.canon (J := []) ?_ (by simp [wk, slN, slT, slI, encX]) (by simp) (by simp [fmN, fm0, belN, bel_Ns, bel_slN, bel_clX, bel_encX, bel_slT, bel_tb, bel_slI, bel_I]) (by simp [fmN, fm0, belN, bel_Ns, bel_slN, bel_clX, bel_encX, bel_slT, bel_tb, bel_slI, bel_I])
    rw [List.append_nil, cell_stepN hLi]
  by_cases h2 : x.op = 2
  · rw [hb, decide_eq_true h2, Bool.true_or, Bool.true_and] at hLi
    simp (maxSteps := 2000000) -implicitDefEqProofs +contextual (disch := first | assumption | omega | decide +kernel) only [push_cast, ↓capI, br2_true, br2_false, frk_tt, frk_tf, frk_f, frkD_tt, frkD_tf, frkD_f, pk2_true, pk2_false, imp_true, seval, Nat.reduceLeDiff, Nat.reduceEqDiff, reduceCtorEq, ↓reduceIte, fmN, fm0, take_N, toN1, slN_nil, encN, slN, cfg0, get_flat_part lenN, get_flat_drop lenN, len_flat lenN, encX, slT, slI, Nat.mul_one, tab_length, putV_tab, getV_tab, getV_tabO, getV_tabP, getV_tab1, get_mapI, get_mapI2, List.length_map, fzs_tb, hlt, hb, h1, hlast, h2]
    refine ⟨i + 1, hlt, by (try simp only); omega, ?_⟩
    refine Gn.canon (J := []) ?_ (by simp [wk, slN, slT, slI, encX]) (by simp) (by simp [fmN, fm0, belN, bel_Ns, bel_slN, bel_clX, bel_encX, bel_slT, bel_tb, bel_slI, bel_I]) (by simp [fmN, fm0, belN, bel_Ns, bel_slN, bel_clX, bel_encX, bel_slT, bel_tb, bel_slI, bel_I])
    simp only [List.append_nil, hT]
    rw [cell_step (i := i + 1) (h := g) hLi.symm]
  rw [hb, decide_eq_false h2, Bool.true_and, Bool.false_or] at hLi
  by_cases h3 : l[i] = nN x
  · rw [decide_eq_true h3] at hLi
    simp (maxSteps := 2000000) -implicitDefEqProofs +contextual (disch := first | assumption | omega | decide +kernel) only [push_cast, ↓capI, br2_true, br2_false, frk_tt, frk_tf, frk_f, frkD_tt, frkD_tf, frkD_f, pk2_true, pk2_false, imp_true, seval, Nat.reduceLeDiff, Nat.reduceEqDiff, reduceCtorEq, ↓reduceIte, fmN, fm0, take_N, toN1, slN_nil, encN, slN, cfg0, get_flat_part lenN, get_flat_drop lenN, len_flat lenN, encX, slT, slI, Nat.mul_one, tab_length, putV_tab, getV_tab, getV_tabO, getV_tabP, getV_tab1, get_mapI, get_mapI2, List.length_map, fzs_tb, hlt, hb, h1, hlast, h2, h3]
    refine ⟨i + 1, hlt, by (try simp only); omega, ?_⟩
    refine Gn.canon (J := []) ?_ (by simp [wk, slN, slT, slI, encX]) (by simp) (by simp [fmN, fm0, belN, bel_Ns, bel_slN, bel_clX, bel_encX, bel_slT, bel_tb, bel_slI, bel_I]) (by simp [fmN, fm0, belN, bel_Ns, bel_slN, bel_clX, bel_encX, bel_slT, bel_tb, bel_slI, bel_I])
    simp only [List.append_nil, hT]
    rw [cell_step (i := i + 1) (h := g) hLi.symm]
  · rw [decide_eq_false h3] at hLi
    simp (maxSteps := 2000000) -implicitDefEqProofs +contextual (disch := first | assumption | omega | decide +kernel) only [push_cast, ↓capI, br2_true, br2_false, frk_tt, frk_tf, frk_f, frkD_tt, frkD_tf, frkD_f, pk2_true, pk2_false, imp_true, seval, Nat.reduceLeDiff, Nat.reduceEqDiff, reduceCtorEq, ↓reduceIte, fmN, fm0, take_N, toN1, slN_nil, encN, slN, cfg0, get_flat_part lenN, get_flat_drop lenN, len_flat lenN, encX, slT, slI, Nat.mul_one, tab_length, putV_tab, getV_tab, getV_tabO, getV_tabP, getV_tab1, get_mapI, get_mapI2, List.length_map, fzs_tb, hlt, hb, h1, hlast, h2, h3]
    refine ⟨i + 1, hlt, by (try simp only); omega, ?_⟩
    refine Gn.canon (J := []) ?_ (by simp [wk, slN, slT, slI, encX]) (by simp) (by simp [fmN, fm0, belN, bel_Ns, bel_slN, bel_clX, bel_encX, bel_slT, bel_tb, bel_slI, bel_I]) (by simp [fmN, fm0, belN, bel_Ns, bel_slN, bel_clX, bel_encX, bel_slT, bel_tb, bel_slI, bel_I])
    rw [List.append_nil, cell_stepN hLi]
theorem pc32 (l : List Int) (hl : l.length ≤ 900) : ∀ (m : Nat) (p : Pr), okP 1000000000 p → (flat p).length ≤ m → m ≤ 4000000 → ∀ f, PC Tryd.prog 32 [encX p, slI l, slT (l.length + 1) f] (slT (l.length + 1) (endsG p l f))
  | 0, p, _, h, _, _ => by
    have := flat_pos p
    omega
  | m + 1, .leaf x, hp, _, _, f => leaf32 x l f hl hp.1
  | m + 1, .un x p, hp, h, hm, f => by
    rw [flat, List.length_cons] at h
    have hcore : ∀ q, okP 1000000000 q → okP 1000000000 (core q) ∧ (flat (core q)).length ≤ (flat q).length := by
      intro q
      induction q with
      | leaf y => exact fun h => ⟨h, Nat.le_refl _⟩
      | bin y a b => exact fun h => ⟨h, Nat.le_refl _⟩
      | un y q ih =>
        intro h
        obtain ⟨i1, i2⟩ := ih h.2
        exact ⟨i1, by rw [core, flat, List.length_cons]; omega⟩
    obtain ⟨hc, hcl⟩ := hcore p hp.2
    have h42 := pc42 (core p) l f hl (pc32 l hl m (core p) hc (by omega) (by omega)) (endsG (.un x p) l f) (fun k _ => endsG_iff.trans reach_star.symm)
    have h43 := pc43 x p
    rw [encX] at h42 h43
    generalize hn : l.length + 1 = n at h42
    refine PC.walk tok mixed cfg0 Tryd.func32 rfl Tryd.call32 (by simp [fmN, fm0, belN, bel_Ns, bel_slN, bel_clX, bel_encX, bel_slT, bel_tb, bel_slI, bel_I]) (by first | rfl | simp [fmN, fm0, belN, bel_Ns, bel_slN, bel_clX, bel_encX, bel_slT, bel_tb, bel_slI, bel_I]) ?_; simp (maxSteps := 2000000) -implicitDefEqProofs +contextual (disch := first | assumption | omega | decide +kernel) only [push_cast, ↓capI, br2_true, br2_false, frk_tt, frk_tf, frk_f, frkD_tt, frkD_tf, frkD_f, pk2_true, pk2_false, imp_true, seval, Nat.reduceLeDiff, Nat.reduceEqDiff, reduceCtorEq, ↓reduceIte, fmN, fm0, take_N, toN1, slN_nil, encN, slN, cfg0, get_flat_part lenN, get_flat_drop lenN, len_flat lenN, encX, slT, slI, Nat.mul_one, tab_length, putV_tab, getV_tab, getV_tabO, getV_tabP, getV_tab1, get_mapI, get_mapI2, List.length_map, fzs_tb, Tryd.ntmps32]
    simp (maxSteps := 2000000) -implicitDefEqProofs +contextual (disch := first | assumption | omega | decide +kernel) only [push_cast, ↓capI, br2_true, br2_false, frk_tt, frk_tf, frk_f, frkD_tt, frkD_tf, frkD_f, pk2_true, pk2_false, imp_true, seval, Nat.reduceLeDiff, Nat.reduceEqDiff, reduceCtorEq, ↓reduceIte, fmN, fm0, take_N, toN1, slN_nil, encN, slN, cfg0, get_flat_part lenN, get_flat_drop lenN, len_flat lenN, encX, slT, slI, Nat.mul_one, tab_length, putV_tab, getV_tab, getV_tabO, getV_tabP, getV_tab1, get_mapI, get_mapI2, List.length_map, fzs_tb, rep_tab, tgX, clX]
    refine callO.pc (by rw [clX] at h43; exact h43) ?_
    simp (maxSteps := 2000000) -implicitDefEqProofs +contextual (disch := first | assumption | omega | decide +kernel) only [push_cast, ↓capI, br2_true, br2_false, frk_tt, frk_tf, frk_f, frkD_tt, frkD_tf, frkD_f, pk2_true, pk2_false, imp_true, seval, Nat.reduceLeDiff, Nat.reduceEqDiff, reduceCtorEq, ↓reduceIte, fmN, fm0, take_N, toN1, slN_nil, encN, slN, cfg0, get_flat_part lenN, get_flat_drop lenN, len_flat lenN, encX, slT, slI, Nat.mul_one, tab_length, putV_tab, getV_tab, getV_tabO, getV_tabP, getV_tab1, get_mapI, get_mapI2, List.length_map, fzs_tb]
    refine callO.pc h42 ?_
    simp (maxSteps := 2000000) -implicitDefEqProofs +contextual (disch := first | assumption | omega | decide +kernel) only [push_cast, ↓capI, br2_true, br2_false, frk_tt, frk_tf, frk_f, frkD_tt, frkD_tf, frkD_f, pk2_true, pk2_false, imp_true, seval, Nat.reduceLeDiff, Nat.reduceEqDiff, reduceCtorEq, ↓reduceIte, fmN, fm0, take_N, toN1, slN_nil, encN, slN, cfg0, get_flat_part lenN, get_flat_drop lenN, len_flat lenN, encX, slT, slI, Nat.mul_one, tab_length, putV_tab, getV_tab, getV_tabO, getV_tabP, getV_tab1, get_mapI, get_mapI2, List.length_map, fzs_tb]
    refine endK.ret ?_ (by first | rfl | simp [fmN, fm0, belN, bel_Ns, bel_slN, bel_clX, bel_encX, bel_slT, bel_tb, bel_slI, bel_I]); simp [evRes, getT, retV, Tryd.f32,  slT]
  | m + 1, .bin x p q, hp, h, hm, f => by
    rw [flat, List.length_cons, List.length_append] at h
    have i1 := pc32 l hl m p hp.2.1 (by omega) (by omega) f
    rw [encX] at i1
    by_cases h5 : x.op = 5
    · have i2 := pc32 l hl m q hp.2.2 (by omega) (by omega) f
      have h41 := pc41 (l.length + 1) (endsG p l f) (endsG q l f) (by omega)
      rw [slT_ext (fun k _ => ends_alt h5)] at h41
      rw [encX] at i2
      generalize hn : l.length + 1 = n at *
      refine PC.walk tok mixed cfg0 Tryd.func32 rfl Tryd.call32 (by simp [fmN, fm0, belN, bel_Ns, bel_slN, bel_clX, bel_encX, bel_slT, bel_tb, bel_slI, bel_I]) (by first | rfl | simp [fmN, fm0, belN, bel_Ns, bel_slN, bel_clX, bel_encX, bel_slT, bel_tb, bel_slI, bel_I]) ?_; simp (maxSteps := 2000000) -implicitDefEqProofs +contextual (disch := first | assumption | omega | decide +kernel) only [push_cast, ↓capI, br2_true, br2_false, frk_tt, frk_tf, frk_f, frkD_tt, frkD_tf, frkD_f, pk2_true, pk2_false, imp_true, seval, Nat.reduceLeDiff, Nat.reduceEqDiff, reduceCtorEq, ↓reduceIte, fmN, fm0, take_N, toN1, slN_nil, encN, slN, cfg0, get_flat_part lenN, get_flat_drop lenN, len_flat lenN, encX, slT, slI, Nat.mul_one, tab_length, putV_tab, getV_tab, getV_tabO, getV_tabP, getV_tab1, get_mapI, get_mapI2, List.length_map, fzs_tb, Tryd.ntmps32]
      simp (maxSteps := 2000000) -implicitDefEqProofs +contextual (disch := first | assumption | omega | decide +kernel) only [push_cast, ↓capI, br2_true, br2_false, frk_tt, frk_tf, frk_f, frkD_tt, frkD_tf, frkD_f, pk2_true, pk2_false, imp_true, seval, Nat.reduceLeDiff, Nat.reduceEqDiff, reduceCtorEq, ↓reduceIte, fmN, fm0, take_N, toN1, slN_nil, encN, slN, cfg0, get_flat_part lenN, get_flat_drop lenN, len_flat lenN, encX, slT, slI, Nat.mul_one, tab_length, putV_tab, getV_tab, getV_tabO, getV_tabP, getV_tab1, get_mapI, get_mapI2, List.length_map, fzs_tb, rep_tab, tgX, clX]
      refine callO.pc i1 ?_
      simp (maxSteps := 2000000) -implicitDefEqProofs +contextual (disch := first | assumption | omega | decide +kernel) only [push_cast, ↓capI, br2_true, br2_false, frk_tt, frk_tf, frk_f, frkD_tt, frkD_tf, frkD_f, pk2_true, pk2_false, imp_true, seval, Nat.reduceLeDiff, Nat.reduceEqDiff, reduceCtorEq, ↓reduceIte, fmN, fm0, take_N, toN1, slN_nil, encN, slN, cfg0, get_flat_part lenN, get_flat_drop lenN, len_flat lenN, encX, slT, slI, Nat.mul_one, tab_length, putV_tab, getV_tab, getV_tabO, getV_tabP, getV_tab1, get_mapI, get_mapI2, List.length_map, fzs_tb, h5]
      refine callO.pc i2 ?_
      simp (maxSteps := 2000000) -implicitDefEqProofs +contextual (disch := first | assumption | omega | decide +kernel) only [push_cast, ↓capI, br2_true, br2_false, frk_tt, frk_tf, frk_f, frkD_tt, frkD_tf, frkD_f, pk2_true, pk2_false, imp_true, seval, Nat.reduceLeDiff, Nat.reduceEqDiff, reduceCtorEq, ↓reduceIte, fmN, fm0, take_N, toN1, slN_nil, encN, slN, cfg0, get_flat_part lenN, get_flat_drop lenN, len_flat lenN, encX, slT, slI, Nat.mul_one, tab_length, putV_tab, getV_tab, getV_tabO, getV_tabP, getV_tab1, get_mapI, get_mapI2, List.length_map, fzs_tb]
      refine callO.pc h41 ?_
      simp (maxSteps := 2000000) -implicitDefEqProofs +contextual (disch := first | assumption | omega | decide +kernel) only [push_cast, ↓capI, br2_true, br2_false, frk_tt, frk_tf, frk_f, frkD_tt, frkD_tf, frkD_f, pk2_true, pk2_false, imp_true, seval, Nat.reduceLeDiff, Nat.reduceEqDiff, reduceCtorEq, ↓reduceIte, fmN, fm0, take_N, toN1, slN_nil, encN, slN, cfg0, get_flat_part lenN, get_flat_drop lenN, len_flat lenN, encX, slT, slI, Nat.mul_one, tab_length, putV_tab, getV_tab, getV_tabO, getV_tabP, getV_tab1, get_mapI, get_mapI2, List.length_map, fzs_tb]
      refine endK.ret ?_ (by first | rfl | simp [fmN, fm0, belN, bel_Ns, bel_slN, bel_clX, bel_encX, bel_slT, bel_tb, bel_slI, bel_I]); simp [evRes, getT, retV, Tryd.f32,  slT]
    · have h4 : x.op = 4 := by have := hp.1; omega
      have i2 := pc32 l hl m q hp.2.2 (by omega) (by omega) (endsG p l f)
      rw [slT_ext (fun k hk => ends_cat (x := x) h5 (by omega))] at i2
      rw [encX] at i2
      generalize hn : l.length + 1 = n at *
      refine PC.walk tok mixed cfg0 Tryd.func32 rfl Tryd.call32 (by simp [fmN, fm0, belN, bel_Ns, bel_slN, bel_clX, bel_encX, bel_slT, bel_tb, bel_slI, bel_I]) (by first | rfl | simp [fmN, fm0, belN, bel_Ns, bel_slN, bel_clX, bel_encX, bel_slT, bel_tb, bel_slI, bel_I]) ?_; simp (maxSteps := 2000000) -implicitDefEqProofs +contextual (disch := first | assumption | omega | decide +kernel) only [push_cast, ↓capI, br2_true, br2_false, frk_tt, frk_tf, frk_f, frkD_tt, frkD_tf, frkD_f, pk2_true, pk2_false, imp_true, seval, Nat.reduceLeDiff, Nat.reduceEqDiff, reduceCtorEq, ↓reduceIte, fmN, fm0, take_N, toN1, slN_nil, encN, slN, cfg0, get_flat_part lenN, get_flat_drop lenN, len_flat lenN, encX, slT, slI, Nat.mul_one, tab_length, putV_tab, getV_tab, getV_tabO, getV_tabP, getV_tab1, get_mapI, get_mapI2, List.length_map, fzs_tb, Tryd.ntmps32]
      simp (maxSteps := 2000000) -implicitDefEqProofs +contextual (disch := first | assumption | omega | decide +kernel) only [push_cast, ↓capI, br2_true, br2_false, frk_tt, frk_tf, frk_f, frkD_tt, frkD_tf, frkD_f, pk2_true, pk2_false, imp_true, seval, Nat.reduceLeDiff, Nat.reduceEqDiff, reduceCtorEq, ↓reduceIte, fmN, fm0, take_N, toN1, slN_nil, encN, slN, cfg0, get_flat_part lenN, get_flat_drop lenN, len_flat lenN, encX, slT, slI, Nat.mul_one, tab_length, putV_tab, getV_tab, getV_tabO, getV_tabP, getV_tab1, get_mapI, get_mapI2, List.length_map, fzs_tb, rep_tab, tgX, clX]
      refine callO.pc i1 ?_
      simp (maxSteps := 2000000) -implicitDefEqProofs +contextual (disch := first | assumption | omega | decide +kernel) only [push_cast, ↓capI, br2_true, br2_false, frk_tt, frk_tf, frk_f, frkD_tt, frkD_tf, frkD_f, pk2_true, pk2_false, imp_true, seval, Nat.reduceLeDiff, Nat.reduceEqDiff, reduceCtorEq, ↓reduceIte, fmN, fm0, take_N, toN1, slN_nil, encN, slN, cfg0, get_flat_part lenN, get_flat_drop lenN, len_flat lenN, encX, slT, slI, Nat.mul_one, tab_length, putV_tab, getV_tab, getV_tabO, getV_tabP, getV_tab1, get_mapI, get_mapI2, List.length_map, fzs_tb, h4]
      refine callO.pc i2 ?_
      simp (maxSteps := 2000000) -implicitDefEqProofs +contextual (disch := first | assumption | omega | decide +kernel) only [push_cast, ↓capI, br2_true, br2_false, frk_tt, frk_tf, frk_f, frkD_tt, frkD_tf, frkD_f, pk2_true, pk2_false, imp_true, seval, Nat.reduceLeDiff, Nat.reduceEqDiff, reduceCtorEq, ↓reduceIte, fmN, fm0, take_N, toN1, slN_nil, encN, slN, cfg0, get_flat_part lenN, get_flat_drop lenN, len_flat lenN, encX, slT, slI, Nat.mul_one, tab_length, putV_tab, getV_tab, getV_tabO, getV_tabP, getV_tab1, get_mapI, get_mapI2, List.length_map, fzs_tb]
      refine endK.ret ?_ (by first | rfl | simp [fmN, fm0, belN, bel_Ns, bel_slN, bel_clX, bel_encX, bel_slT, bel_tb, bel_slI, bel_I]); simp [evRes, getT, retV, Tryd.f32,  slT]
theorem fzs_Ns {id ver : Nat} {c : List V} {l : List Nd} : fzs id ver c (l.flatMap encN) = l.flatMap encN := fzs_lt _ (bel_Ns l)
theorem fzs_clX {id ver : Nat} {c : List V} {p : Pr} : fzs id ver c (clX p) = clX p := fzs_lt _ (bel_clX p)
theorem fzs_I {id ver : Nat} {c : List V} {l : List Int} : fzs id ver c (l.map (V.int .i64 ·)) = l.map (V.int .i64 ·) := fzs_lt _ bel_I
open Classical in
/-- what Matches answers -/
noncomputable def mtL (r : List Nd) (l : List Int) : Bool := decide (checkP 1000000000 r = 0 ∧ ∃ p, okP 1000000000 p ∧ r = flat p ∧ Mt p l)
open Classical in
theorem mtL_iff {p : Pr} {l : List Int} (hp : okP 1000000000 p) (hc : checkP 1000000000 (flat p) = 0) : mtL (flat p) l = true ↔ Mt p l := by
  unfold mtL
  rw [decide_eq_true_iff]
  constructor
  · rintro ⟨_, q, hq, e, hm⟩
    obtain ⟨e2, _⟩ := flat_inj 1000000000 p q [] [] hp hq (by rw [e])
    rw [e2]
    exact hm
  · intro h
    exact ⟨hc, p, hp, rfl, h⟩
open Classical in
theorem mtL_no {r : List Nd} {l : List Int} (h : checkP 1000000000 r ≠ 0) : mtL r l = false := by
  unfold mtL
  rw [decide_eq_false_iff_not]
  exact fun g => h g.1
theorem pc15 (r : List Nd) (l : List Int) (hr : r.length ≤ 4000000) (hl : l.length ≤ 900) : PC Tryd.prog 15 [slN r, slI l] (.bool (mtL r l)) := by
  by_cases hc : checkP 1000000000 r = 0
  · obtain ⟨h24, p, hp, hf⟩ := checkP_tree hc
    have hw := wf_ok hp (by rw [← hf]; exact h24)
    rw [← hf, encX] at hw
    have i1 := pc32 l hl (flat p).length p hp (Nat.le_refl _) (by rw [← hf]; omega) (fun k => decide (k = 0))
    rw [encX] at i1
    have e : mtL r l = endsG p l (fun k => decide (k = 0)) l.length := by
      rw [hf] at hc ⊢
      refine bool_ext (mtL_iff hp hc) (endsG_iff.trans ?_)
      constructor
      · rintro ⟨i, _, h0, h⟩
        rw [of_decide_eq_true h0, part_all] at h
        exact h
      · intro h
        exact ⟨0, Nat.zero_le _, rfl, by rw [part_all]; exact h⟩
    rw [e]
    have hlt : l.length < l.length + 1 := Nat.lt_succ_self _
    generalize hn : l.length + 1 = n at *
    have hset : (tab n fun k => if k = 0 then V.bool true else V.bool false) = tab n fun k => V.bool (decide (k = 0)) := tab_ext fun k _ => by
      by_cases h : k = 0
      · rw [if_pos h, decide_eq_true h]
      · rw [if_neg h, decide_eq_false h]
    have hT : ((l.length : Int) + 1).toNat = n := by omega
    refine PC.cutN tok mixed cfg0 4 Tryd.func15 rfl Tryd.call15 (by simp [fmN, fm0, belN, bel_Ns, bel_slN, bel_clX, bel_encX, bel_slT, bel_tb, bel_slI, bel_I]) rfl ?_
    simp (maxSteps := 2000000) -implicitDefEqProofs +contextual (disch := first | assumption | omega | decide +kernel) only [push_cast, ↓capI, br2_true, br2_false, frk_tt, frk_tf, frk_f, frkD_tt, frkD_tf, frkD_f, pk2_true, pk2_false, imp_true, seval, Nat.reduceLeDiff, Nat.reduceEqDiff, reduceCtorEq, ↓reduceIte, fmN, fm0, take_N, toN1, slN_nil, encN, slN, cfg0, get_flat_part lenN, get_flat_drop lenN, len_flat lenN, encX, slT, slI, Nat.mul_one, tab_length, putV_tab, getV_tab, getV_tabO, getV_tabP, getV_tab1, get_mapI, get_mapI2, List.length_map, fzs_tb, Tryd.ntmps15, cutAt_z, cutAt_s]
    refine callO.pc hw ?_
    simp (maxSteps := 2000000) -implicitDefEqProofs +contextual (disch := first | assumption | omega | decide +kernel) only [push_cast, ↓capI, br2_true, br2_false, frk_tt, frk_tf, frk_f, frkD_tt, frkD_tf, frkD_f, pk2_true, pk2_false, imp_true, seval, Nat.reduceLeDiff, Nat.reduceEqDiff, reduceCtorEq, ↓reduceIte, fmN, fm0, take_N, toN1, slN_nil, encN, slN, cfg0, get_flat_part lenN, get_flat_drop lenN, len_flat lenN, encX, slT, slI, Nat.mul_one, tab_length, putV_tab, getV_tab, getV_tabO, getV_tabP, getV_tab1, get_mapI, get_mapI2, List.length_map, fzs_tb, rep_tab, hset, cutAt_z, cutAt_s]
    refine cutK.gn (Gn.freeze (id := 0) rfl) (cutK.go (cfg := cfg0) tok mixed ?_)
    simp only [hT, hset]
    simp (maxSteps := 2000000) -implicitDefEqProofs +contextual (disch := first | assumption | omega | decide +kernel) only [push_cast, ↓capI, br2_true, br2_false, frk_tt, frk_tf, frk_f, frkD_tt, frkD_tf, frkD_f, pk2_true, pk2_false, imp_true, seval, Nat.reduceLeDiff, Nat.reduceEqDiff, reduceCtorEq, ↓reduceIte, fmN, fm0, take_N, toN1, slN_nil, encN, slN, cfg0, get_flat_part lenN, get_flat_drop lenN, len_flat lenN, encX, slT, slI, Nat.mul_one, tab_length, putV_tab, getV_tab, getV_tabO, getV_tabP, getV_tab1, get_mapI, get_mapI2, List.length_map, fzs_tb, fzs, fz, fzH, fzs_clX, fzs_Ns, fzs_I, fzs_tb, setO, getO, Nat.beq, take_tb, fzs_ok]
    refine callO.pc i1 ?_
    simp (maxSteps := 2000000) -implicitDefEqProofs +contextual (disch := first | assumption | omega | decide +kernel) only [push_cast, ↓capI, br2_true, br2_false, frk_tt, frk_tf, frk_f, frkD_tt, frkD_tf, frkD_f, pk2_true, pk2_false, imp_true, seval, Nat.reduceLeDiff, Nat.reduceEqDiff, reduceCtorEq, ↓reduceIte, fmN, fm0, take_N, toN1, slN_nil, encN, slN, cfg0, get_flat_part lenN, get_flat_drop lenN, len_flat lenN, encX, slT, slI, Nat.mul_one, tab_length, putV_tab, getV_tab, getV_tabO, getV_tabP, getV_tab1, get_mapI, get_mapI2, List.length_map, fzs_tb, hlt]
    refine endK.ret ?_ (by first | rfl | simp [fmN, fm0, belN, bel_Ns, bel_slN, bel_clX, bel_encX, bel_slT, bel_tb, bel_slI, bel_I]); simp [evRes, getT, retV, Tryd.f15]
  · rw [mtL_no hc]
    have hw := wf_no hr hc
    refine PC.walk tok mixed cfg0 Tryd.func15 rfl Tryd.call15 (by simp [fmN, fm0, belN, bel_Ns, bel_slN, bel_clX, bel_encX, bel_slT, bel_tb, bel_slI, bel_I]) (by first | rfl | simp [fmN, fm0, belN, bel_Ns, bel_slN, bel_clX, bel_encX, bel_slT, bel_tb, bel_slI, bel_I]) ?_; simp (maxSteps := 2000000) -implicitDefEqProofs +contextual (disch := first | assumption | omega | decide +kernel) only [push_cast, ↓capI, br2_true, br2_false, frk_tt, frk_tf, frk_f, frkD_tt, frkD_tf, frkD_f, pk2_true, pk2_false, imp_true, seval, Nat.reduceLeDiff, Nat.reduceEqDiff, reduceCtorEq, ↓reduceIte, fmN, fm0, take_N, toN1, slN_nil, encN, slN, cfg0, get_flat_part lenN, get_flat_drop lenN, len_flat lenN, encX, slT, slI, Nat.mul_one, tab_length, putV_tab, getV_tab, getV_tabO, getV_tabP, getV_tab1, get_mapI, get_mapI2, List.length_map, fzs_tb, Tryd.ntmps15]
    refine callO.pc hw ?_
    simp (maxSteps := 2000000) -implicitDefEqProofs +contextual (disch := first | assumption | omega | decide +kernel) only [push_cast, ↓capI, br2_true, br2_false, frk_tt, frk_tf, frk_f, frkD_tt, frkD_tf, frkD_f, pk2_true, pk2_false, imp_true, seval, Nat.reduceLeDiff, Nat.reduceEqDiff, reduceCtorEq, ↓reduceIte, fmN, fm0, take_N, toN1, slN_nil, encN, slN, cfg0, get_flat_part lenN, get_flat_drop lenN, len_flat lenN, encX, slT, slI, Nat.mul_one, tab_length, putV_tab, getV_tab, getV_tabO, getV_tabP, getV_tab1, get_mapI, get_mapI2, List.length_map, fzs_tb, hc]
    refine endK.ret ?_ (by first | rfl | simp [fmN, fm0, belN, bel_Ns, bel_slN, bel_clX, bel_encX, bel_slT, bel_tb, bel_slI, bel_I]); simp [evRes, getT, retV, Tryd.f15]
end Go.Proofs.YtginpkchjeooeaaDoor


/-
  Joined by a program from the texts Ref Tree Misc Eval Txt Txt2.
-/
import Derived.Test.YtllfdnbnkncnhaaGreatDoorMb
/- Chapter 44: the reference's check of a predicate. -/
set_option maxRecDepth 100000
set_option maxHeartbeats 4000000
set_option linter.all false
namespace Go.Proofs.YtllfdnbnkncnhaaGreatDoor
open Go.Vm

def repS (f : Nat → Nat × Int) : Nat → Nat → Nat × Int
  | 0, a => (a, 0)
  | n + 1, a => if (f a).2 ≠ 0 then f a else repS f n (f a).1
def scan : Nat → List Nd → Nat → Nat × Int
  | 0, _, a => (a, 3)
  | k + 1, l, a => match l[a]? with
    | none => (a, 3)
    | some x => if chk1 x ≠ 0 then (a, chk1 x) else repS (scan k l) (arity x.op).toNat (a + 1)
theorem repS_le {f : Nat → Nat × Int} {m : Nat} (h : ∀ a, a ≤ m → (f a).1 ≤ m) : ∀ n a, a ≤ m → (repS f n a).1 ≤ m
  | 0, a, ha => ha
  | n + 1, a, ha => by
    rw [repS]
    split
    · exact h a ha
    · exact repS_le h n _ (h a ha)
theorem scan_le : ∀ k l a, a ≤ l.length → (scan k l a).1 ≤ l.length
  | 0, l, a, h => h
  | k + 1, l, a, h => by
    rw [scan]
    split
    · exact h
    · rename_i x hx
      split
      · exact h
      · exact repS_le (scan_le k l) _ _ (List.getElem?_eq_some_iff.1 hx).1
theorem repS_ge {f : Nat → Nat × Int} (h : ∀ a, a ≤ (f a).1) : ∀ n a, a ≤ (repS f n a).1
  | 0, a => Nat.le_refl _
  | n + 1, a => by
    rw [repS]
    split
    · exact h a
    · exact Nat.le_trans (h a) (repS_ge h n _)
theorem scan_ge : ∀ k l a, a ≤ (scan k l a).1
  | 0, l, a => Nat.le_refl _
  | k + 1, l, a => by
    rw [scan]
    split
    · exact Nat.le_refl _
    · split
      · exact Nat.le_refl _
      · exact Nat.le_trans (Nat.le_succ _) (repS_ge (scan_ge k l) _ _)
theorem arity_mid {o : Int} {n : Nat} (h : 1 ≤ o ∧ o ≤ 6) (hn : arity o = n) (i : Nat) : i < n ↔ i < 2 ∧ (4 < o ∨ o = 4 ∧ i = 0) := by
  unfold arity at hn
  split at hn
  · omega
  split at hn
  · omega
  split at hn <;> omega
/-- what the reference answers, against what the program answers -/
theorem repS_rep {l : List Nd} {f : Nat → Nat × Int} {g : List Nd → List Nd × Int} (h : ∀ a, a ≤ l.length → (f a).1 ≤ l.length ∧ (f a).2 = (g (l.drop a)).2 ∧ ((f a).2 = 0 → l.drop (f a).1 = (g (l.drop a)).1)) :
    ∀ n a, a ≤ l.length → (repS f n a).2 = (rep g n (l.drop a)).2 ∧ ((repS f n a).2 = 0 → l.drop (repS f n a).1 = (rep g n (l.drop a)).1)
  | 0, a, ha => ⟨rfl, fun _ => rfl⟩
  | n + 1, a, ha => by
    obtain ⟨h1, h2, h3⟩ := h a ha
    rw [repS, rep, ← h2]
    by_cases he : (f a).2 = 0
    · rw [if_neg (fun h => h he), if_neg (fun h => h he), ← h3 he]
      exact repS_rep h n _ h1
    · rw [if_pos he, if_pos he]
      exact ⟨rfl, fun h => absurd h he⟩
theorem scan_chk : ∀ k l a, a ≤ l.length → (scan k l a).2 = (chk k (l.drop a)).2 ∧ ((scan k l a).2 = 0 → l.drop (scan k l a).1 = (chk k (l.drop a)).1)
  | 0, l, a, ha => by
    have : (chk 0 (l.drop a)).2 = 3 := by cases l.drop a <;> rfl
    rw [this]
    exact ⟨rfl, fun h => by simp [scan] at h⟩
  | k + 1, l, a, ha => by
    by_cases h : a < l.length
    · rw [List.drop_eq_getElem_cons h, scan, List.getElem?_eq_getElem h, chk]
      simp only
      by_cases hc : chk1 l[a] = 0
      · rw [if_neg (fun h => h hc), if_neg (fun h => h hc)]
        exact repS_rep (fun b hb => ⟨scan_le k l b hb, scan_chk k l b hb⟩) _ _ h
      · rw [if_pos hc, if_pos hc]
        exact ⟨rfl, fun h => absurd h hc⟩
    · rw [List.drop_of_length_le (by omega), scan, List.getElem?_eq_none (by omega)]
      exact ⟨rfl, fun h => by simp at h⟩
def encIE (r : Nat × Int) : V := .tup [.int .i64 r.1, .int .i64 r.2]
theorem encIE_d (r : Nat × Int) : encIE r = .tup [.int .i64 r.1, .int .i64 r.2] := rfl
theorem encIE_ok {r : Nat × Int} (h : r.2 = 0) : encIE r = .tup [.int .i64 r.1, .int .i64 0] := by
  rw [encIE, h]
theorem and_self_iff8 (v m : UInt8) : (v &&& m = v) ↔ (v &&& ~~~ m = 0) := by
  constructor
  · intro h
    apply UInt8.toBitVec_inj.1
    have h' := UInt8.toBitVec_inj.2 h
    simp only [UInt8.toBitVec_and, UInt8.toBitVec_not] at h' ⊢
    apply BitVec.eq_of_getLsbD_eq
    intro i hi
    have hb := congrArg (fun x => x.getLsbD i) h'
    simp only [BitVec.getLsbD_and, BitVec.getLsbD_not] at hb ⊢
    simp only [hi, decide_true, Bool.true_and]
    revert hb
    cases v.toBitVec.getLsbD i <;> cases m.toBitVec.getLsbD i <;> simp
  · intro h
    apply UInt8.toBitVec_inj.1
    have h' := UInt8.toBitVec_inj.2 h
    simp only [UInt8.toBitVec_and, UInt8.toBitVec_not] at h' ⊢
    apply BitVec.eq_of_getLsbD_eq
    intro i hi
    have hb := congrArg (fun x => x.getLsbD i) h'
    simp only [BitVec.getLsbD_and, BitVec.getLsbD_not] at hb ⊢
    simp only [hi, decide_true, Bool.true_and] at hb
    revert hb
    cases v.toBitVec.getLsbD i <;> cases m.toBitVec.getLsbD i <;> simp
theorem pc35 : ∀ (k : Nat) (l : List Nd) (a : Nat), a ≤ l.length → l.length - a ≤ k → l.length ≤ 4000000 → PC Tryz.prog 35 [slN l, .int .i64 a] (encIE (scan k l a)) := by
  intro k
  induction k with
  | zero =>
    intro l a ha hl _
    have hla : (l.length : Int) ≤ a := by omega
    refine PC.walk tok mixed cfg0 Tryz.func35 rfl Tryz.call35 (by simp [belF, belN, bel_Ns, bel_slN]) (by first | rfl | simp [belF, belN, bel_Ns, bel_slN]) ?_; simp (config := { maxSteps := 2000000 }) -implicitDefEqProofs +contextual (disch := first | assumption | omega | decide +kernel) only [push_cast, ↓capI, br2_true, br2_false, frk_tt, frk_tf, frk_f, frkD_tt, frkD_tf, frkD_f, pk2_true, pk2_false, imp_true, seval, Nat.reduceLeDiff, Nat.reduceEqDiff, reduceCtorEq, ↓reduceIte, reduceCtorEq, encF, encN, slN, cfg0, get_flat_part lenN, get_flat_drop lenN, len_flat lenN, Tryz.ntmps35]
    refine endK.ret ?_ (by first | rfl | simp [belF, belN, bel_Ns, bel_slN]); simp [evRes, getT, retV, Tryz.f35,  scan, encIE]
  | succ k ih =>
    intro l a ha hl hm
    by_cases hlt : a < l.length
    case neg =>
      have hla : (l.length : Int) ≤ a := by omega
      have hn : l[a]? = none := List.getElem?_eq_none (by omega)
      refine PC.walk tok mixed cfg0 Tryz.func35 rfl Tryz.call35 (by simp [belF, belN, bel_Ns, bel_slN]) (by first | rfl | simp [belF, belN, bel_Ns, bel_slN]) ?_; simp (config := { maxSteps := 2000000 }) -implicitDefEqProofs +contextual (disch := first | assumption | omega | decide +kernel) only [push_cast, ↓capI, br2_true, br2_false, frk_tt, frk_tf, frk_f, frkD_tt, frkD_tf, frkD_f, pk2_true, pk2_false, imp_true, seval, Nat.reduceLeDiff, Nat.reduceEqDiff, reduceCtorEq, ↓reduceIte, reduceCtorEq, encF, encN, slN, cfg0, get_flat_part lenN, get_flat_drop lenN, len_flat lenN, Tryz.ntmps35]
      refine endK.ret ?_ (by first | rfl | simp [belF, belN, bel_Ns, bel_slN]); simp [evRes, getT, retV, Tryz.f35,  scan, encIE, hn]
    have hx : l[a]? = some l[a] := List.getElem?_eq_getElem hlt
    have hs : scan (k + 1) l a = if chk1 l[a] ≠ 0 then (a, chk1 l[a]) else repS (scan k l) (arity l[a].op).toNat (a + 1) := by
      rw [scan, hx]
    rw [hs]
    have har : ¬ arity l[a].op < 0 ↔ 1 ≤ l[a].op ∧ l[a].op ≤ 6 := by
      unfold arity
      split
      · omega
      split
      · omega
      split <;> omega
    generalize hX : l[a] = x at hs har hx ⊢
    obtain ⟨op, fd, v, m⟩ := x
    simp only at hs har hx
    by_cases ha1 : arity op < 0
    · have hc : chk1 ⟨op, fd, v, m⟩ = 11 := by rw [chk1, if_pos ha1]
      rw [hc, if_pos (by decide)]
      by_cases h1 : op < 1
      · refine PC.walk tok mixed cfg0 Tryz.func35 rfl Tryz.call35 (by simp [belF, belN, bel_Ns, bel_slN]) (by first | rfl | simp [belF, belN, bel_Ns, bel_slN]) ?_; simp (config := { maxSteps := 2000000 }) -implicitDefEqProofs +contextual (disch := first | assumption | omega | decide +kernel) only [push_cast, ↓capI, br2_true, br2_false, frk_tt, frk_tf, frk_f, frkD_tt, frkD_tf, frkD_f, pk2_true, pk2_false, imp_true, seval, Nat.reduceLeDiff, Nat.reduceEqDiff, reduceCtorEq, ↓reduceIte, reduceCtorEq, encF, encN, slN, cfg0, get_flat_part lenN, get_flat_drop lenN, len_flat lenN, Tryz.ntmps35]
        simp (config := { maxSteps := 2000000 }) -implicitDefEqProofs +contextual (disch := first | assumption | omega | decide +kernel) only [push_cast, ↓capI, br2_true, br2_false, frk_tt, frk_tf, frk_f, frkD_tt, frkD_tf, frkD_f, pk2_true, pk2_false, imp_true, seval, Nat.reduceLeDiff, Nat.reduceEqDiff, reduceCtorEq, ↓reduceIte, reduceCtorEq, encF, encN, slN, cfg0, get_flat_part lenN, get_flat_drop lenN, len_flat lenN, hX, h1]
        refine endK.ret ?_ (by first | rfl | simp [belF, belN, bel_Ns, bel_slN]); simp [evRes, getT, retV, Tryz.f35,  encIE]
      · have h6 : 6 < op := by omega
        refine PC.walk tok mixed cfg0 Tryz.func35 rfl Tryz.call35 (by simp [belF, belN, bel_Ns, bel_slN]) (by first | rfl | simp [belF, belN, bel_Ns, bel_slN]) ?_; simp (config := { maxSteps := 2000000 }) -implicitDefEqProofs +contextual (disch := first | assumption | omega | decide +kernel) only [push_cast, ↓capI, br2_true, br2_false, frk_tt, frk_tf, frk_f, frkD_tt, frkD_tf, frkD_f, pk2_true, pk2_false, imp_true, seval, Nat.reduceLeDiff, Nat.reduceEqDiff, reduceCtorEq, ↓reduceIte, reduceCtorEq, encF, encN, slN, cfg0, get_flat_part lenN, get_flat_drop lenN, len_flat lenN, Tryz.ntmps35]
        simp (config := { maxSteps := 2000000 }) -implicitDefEqProofs +contextual (disch := first | assumption | omega | decide +kernel) only [push_cast, ↓capI, br2_true, br2_false, frk_tt, frk_tf, frk_f, frkD_tt, frkD_tf, frkD_f, pk2_true, pk2_false, imp_true, seval, Nat.reduceLeDiff, Nat.reduceEqDiff, reduceCtorEq, ↓reduceIte, reduceCtorEq, encF, encN, slN, cfg0, get_flat_part lenN, get_flat_drop lenN, len_flat lenN, hX, h1, h6]
        refine endK.ret ?_ (by first | rfl | simp [belF, belN, bel_Ns, bel_slN]); simp [evRes, getT, retV, Tryz.f35,  encIE]
    have h16 := har.1 ha1
    have h1 : ¬ op < 1 := by omega
    have h6 : ¬ 6 < op := by omega
    obtain ⟨n, hA⟩ : ∃ n : Nat, arity op = (n : Int) := ⟨(arity op).toNat, by omega⟩
    have hz : (ibits BinOp.and IntKind.u8 v.toNat m.toNat = v.toNat) = (badN ⟨op, fd, v, m⟩ = false) := by
      rw [badN, and8]
      apply propext
      simp only [decide_eq_false_iff_not, Ne, Decidable.not_not]
      rw [← and_self_iff8]
      constructor
      · intro h
        exact UInt8.toNat_inj.1 (by omega)
      · intro h
        rw [h]
    by_cases h3 : op = 3
    case neg =>
      have hc : chk1 ⟨op, fd, v, m⟩ = 0 := by rw [chk1, if_neg ha1, if_neg (fun h => h3 h.1), if_neg (fun h => h3 h.1)]
      rw [hc, if_neg (fun h => h rfl), hA, Int.toNat_natCast]
      refine PC.walk tok mixed cfg0 Tryz.func35 rfl Tryz.call35 (by simp [belF, belN, bel_Ns, bel_slN]) (by first | rfl | simp [belF, belN, bel_Ns, bel_slN]) ?_; simp (config := { maxSteps := 2000000 }) -implicitDefEqProofs +contextual (disch := first | assumption | omega | decide +kernel) only [push_cast, ↓capI, br2_true, br2_false, frk_tt, frk_tf, frk_f, frkD_tt, frkD_tf, frkD_f, pk2_true, pk2_false, imp_true, seval, Nat.reduceLeDiff, Nat.reduceEqDiff, reduceCtorEq, ↓reduceIte, reduceCtorEq, encF, encN, slN, cfg0, get_flat_part lenN, get_flat_drop lenN, len_flat lenN, Tryz.ntmps35]
      simp (config := { maxSteps := 2000000 }) -implicitDefEqProofs +contextual (disch := first | assumption | omega | decide +kernel) only [push_cast, ↓capI, br2_true, br2_false, frk_tt, frk_tf, frk_f, frkD_tt, frkD_tf, frkD_f, pk2_true, pk2_false, imp_true, seval, Nat.reduceLeDiff, Nat.reduceEqDiff, reduceCtorEq, ↓reduceIte, reduceCtorEq, encF, encN, slN, cfg0, get_flat_part lenN, get_flat_drop lenN, len_flat lenN, hX, h1, h6, h3]
      refine T.lp tok mixed cfg0 (fun ((i, b) : Nat × Nat) => kp 1 (dd 5 (kp 1 (sv (.int .i64 b) (sv (.int .i64 i) (dd 80 (nl))))))) (fun H0 ((i, b) : Nat × Nat) => [.cells 0 [.int .i64 op, .int .i64 fd, .int .u8 v.toNat, .int .u8 m.toNat]]) (fun ((i, b) : Nat × Nat) => i ≤ n ∧ b ≤ l.length ∧ a < b ∧ repS (scan k l) (n - i) b = repS (scan k l) n (a + 1)) (fun ((i, b) : Nat × Nat) => n - i) ((0, a + 1)) ?_ ?_ ?_
      · exact ⟨Nat.zero_le _, hlt, Nat.lt_succ_self _, rfl⟩
      · exact Gn.canon (J := []) (by first | rfl | (simp [List.append_nil]; done) | (simp [List.append_nil]; rfl)) (by simp [wk, slN, putT, kp, dd, sv, nl]) (by simp [List.length_append]) (by simp [belF, belN, bel_Ns, bel_slN, kp, dd, sv, nl]) (by simp [belF, belN, bel_Ns, bel_slN])
      rintro ⟨i, b⟩ ⟨hi, hb, hab, hr⟩
      have hmid := arity_mid h16 hA i
      by_cases hin : i < n
      · obtain ⟨hi2, hop⟩ := hmid.1 hin
        rw [show n - i = (n - (i + 1)) + 1 by omega, repS] at hr
        have hge := scan_ge k l b
        have hle := scan_le k l b hb
        by_cases h4 : 4 < op
        · simp (config := { maxSteps := 2000000 }) -implicitDefEqProofs +contextual (disch := first | assumption | omega | decide +kernel) only [push_cast, ↓capI, br2_true, br2_false, frk_tt, frk_tf, frk_f, frkD_tt, frkD_tf, frkD_f, pk2_true, pk2_false, imp_true, seval, Nat.reduceLeDiff, Nat.reduceEqDiff, reduceCtorEq, ↓reduceIte, reduceCtorEq, encF, encN, slN, cfg0, get_flat_part lenN, get_flat_drop lenN, len_flat lenN, hi2, h4]
          refine callO.pc (ih l b hb (by omega) hm) ?_
          by_cases he : (scan k l b).2 = 0
          · rw [if_neg (fun h => h he)] at hr
            rw [encIE_ok he]
            simp (config := { maxSteps := 2000000 }) -implicitDefEqProofs +contextual (disch := first | assumption | omega | decide +kernel) only [push_cast, ↓capI, br2_true, br2_false, frk_tt, frk_tf, frk_f, frkD_tt, frkD_tf, frkD_f, pk2_true, pk2_false, imp_true, seval, Nat.reduceLeDiff, Nat.reduceEqDiff, reduceCtorEq, ↓reduceIte, reduceCtorEq, encF, encN, slN, cfg0, get_flat_part lenN, get_flat_drop lenN, len_flat lenN, he]
            refine ⟨(i + 1, (scan k l b).1), ⟨by (try simp only); omega, by (try simp only); omega, by (try simp only); omega, hr⟩, by (try simp only); omega, ?_⟩; exact Gn.canon (by first | rfl | (simp [List.append_nil]; rfl)) (by simp [wk, slN]) (by simp [List.length_append]) (by simp [belF, belN, bel_Ns, bel_slN]) (by simp [belF, belN, bel_Ns, bel_slN])
          · rw [if_pos he] at hr
            rw [encIE_d (scan k l b)]
            simp (config := { maxSteps := 2000000 }) -implicitDefEqProofs +contextual (disch := first | assumption | omega | decide +kernel) only [push_cast, ↓capI, br2_true, br2_false, frk_tt, frk_tf, frk_f, frkD_tt, frkD_tf, frkD_f, pk2_true, pk2_false, imp_true, seval, Nat.reduceLeDiff, Nat.reduceEqDiff, reduceCtorEq, ↓reduceIte, reduceCtorEq, encF, encN, slN, cfg0, get_flat_part lenN, get_flat_drop lenN, len_flat lenN, he]
            rw [← hr, encIE]
            refine endK.ret ?_ (by first | rfl | simp [belF, belN, bel_Ns, bel_slN]); simp [evRes, getT, retV, Tryz.f35]
        · have h4' : op = 4 := by omega
          have hi0 : i = 0 := by omega
          subst hi0
          simp (config := { maxSteps := 2000000 }) -implicitDefEqProofs +contextual (disch := first | assumption | omega | decide +kernel) only [push_cast, ↓capI, br2_true, br2_false, frk_tt, frk_tf, frk_f, frkD_tt, frkD_tf, frkD_f, pk2_true, pk2_false, imp_true, seval, Nat.reduceLeDiff, Nat.reduceEqDiff, reduceCtorEq, ↓reduceIte, reduceCtorEq, encF, encN, slN, cfg0, get_flat_part lenN, get_flat_drop lenN, len_flat lenN, hi2, h4, h4']
          refine callO.pc (ih l b hb (by omega) hm) ?_
          by_cases he : (scan k l b).2 = 0
          · rw [if_neg (fun h => h he)] at hr
            rw [encIE_ok he]
            simp (config := { maxSteps := 2000000 }) -implicitDefEqProofs +contextual (disch := first | assumption | omega | decide +kernel) only [push_cast, ↓capI, br2_true, br2_false, frk_tt, frk_tf, frk_f, frkD_tt, frkD_tf, frkD_f, pk2_true, pk2_false, imp_true, seval, Nat.reduceLeDiff, Nat.reduceEqDiff, reduceCtorEq, ↓reduceIte, reduceCtorEq, encF, encN, slN, cfg0, get_flat_part lenN, get_flat_drop lenN, len_flat lenN, he]
            subst h4'
            refine ⟨(0 + 1, (scan k l b).1), ⟨by (try simp only); omega, by (try simp only); omega, by (try simp only); omega, hr⟩, by (try simp only); omega, ?_⟩; exact Gn.canon (by first | rfl | (simp [List.append_nil]; rfl)) (by simp [wk, slN]) (by simp [List.length_append]) (by simp [belF, belN, bel_Ns, bel_slN]) (by simp [belF, belN, bel_Ns, bel_slN])
          · rw [if_pos he] at hr
            rw [encIE_d (scan k l b)]
            simp (config := { maxSteps := 2000000 }) -implicitDefEqProofs +contextual (disch := first | assumption | omega | decide +kernel) only [push_cast, ↓capI, br2_true, br2_false, frk_tt, frk_tf, frk_f, frkD_tt, frkD_tf, frkD_f, pk2_true, pk2_false, imp_true, seval, Nat.reduceLeDiff, Nat.reduceEqDiff, reduceCtorEq, ↓reduceIte, reduceCtorEq, encF, encN, slN, cfg0, get_flat_part lenN, get_flat_drop lenN, len_flat lenN, he]
            rw [← hr, encIE]
            refine endK.ret ?_ (by first | rfl | simp [belF, belN, bel_Ns, bel_slN]); simp [evRes, getT, retV, Tryz.f35]
      · rw [show n - i = 0 by omega, repS] at hr
        have hno : ¬ (i < 2 ∧ (4 < op ∨ op = 4 ∧ i = 0)) := fun h => hin (hmid.2 h)
        by_cases hi2 : i < 2
        · have h4 : ¬ 4 < op := by omega
          by_cases h4' : op = 4
          · have hi0 : ¬ i = 0 := by omega
            simp (config := { maxSteps := 2000000 }) -implicitDefEqProofs +contextual (disch := first | assumption | omega | decide +kernel) only [push_cast, ↓capI, br2_true, br2_false, frk_tt, frk_tf, frk_f, frkD_tt, frkD_tf, frkD_f, pk2_true, pk2_false, imp_true, seval, Nat.reduceLeDiff, Nat.reduceEqDiff, reduceCtorEq, ↓reduceIte, reduceCtorEq, encF, encN, slN, cfg0, get_flat_part lenN, get_flat_drop lenN, len_flat lenN, hi2, h4, h4', hi0]
            rw [← hr, encIE]
            refine endK.ret ?_ (by first | rfl | simp [belF, belN, bel_Ns, bel_slN]); simp [evRes, getT, retV, Tryz.f35]
          · simp (config := { maxSteps := 2000000 }) -implicitDefEqProofs +contextual (disch := first | assumption | omega | decide +kernel) only [push_cast, ↓capI, br2_true, br2_false, frk_tt, frk_tf, frk_f, frkD_tt, frkD_tf, frkD_f, pk2_true, pk2_false, imp_true, seval, Nat.reduceLeDiff, Nat.reduceEqDiff, reduceCtorEq, ↓reduceIte, reduceCtorEq, encF, encN, slN, cfg0, get_flat_part lenN, get_flat_drop lenN, len_flat lenN, hi2, h4, h4']
            rw [← hr, encIE]
            refine endK.ret ?_ (by first | rfl | simp [belF, belN, bel_Ns, bel_slN]); simp [evRes, getT, retV, Tryz.f35]
        · simp (config := { maxSteps := 2000000 }) -implicitDefEqProofs +contextual (disch := first | assumption | omega | decide +kernel) only [push_cast, ↓capI, br2_true, br2_false, frk_tt, frk_tf, frk_f, frkD_tt, frkD_tf, frkD_f, pk2_true, pk2_false, imp_true, seval, Nat.reduceLeDiff, Nat.reduceEqDiff, reduceCtorEq, ↓reduceIte, reduceCtorEq, encF, encN, slN, cfg0, get_flat_part lenN, get_flat_drop lenN, len_flat lenN, hi2]
          rw [← hr]
          refine endK.ret ?_ (by first | rfl | simp [belF, belN, bel_Ns, bel_slN]); simp [evRes, getT, retV, Tryz.f35,  encIE]
    by_cases hf : fd < 0
    · have hc : chk1 ⟨op, fd, v, m⟩ = 9 := by rw [chk1, if_neg ha1, if_pos ⟨h3, Or.inl hf⟩]
      rw [hc, if_pos (by decide)]
      refine PC.walk tok mixed cfg0 Tryz.func35 rfl Tryz.call35 (by simp [belF, belN, bel_Ns, bel_slN]) (by first | rfl | simp [belF, belN, bel_Ns, bel_slN]) ?_; simp (config := { maxSteps := 2000000 }) -implicitDefEqProofs +contextual (disch := first | assumption | omega | decide +kernel) only [push_cast, ↓capI, br2_true, br2_false, frk_tt, frk_tf, frk_f, frkD_tt, frkD_tf, frkD_f, pk2_true, pk2_false, imp_true, seval, Nat.reduceLeDiff, Nat.reduceEqDiff, reduceCtorEq, ↓reduceIte, reduceCtorEq, encF, encN, slN, cfg0, get_flat_part lenN, get_flat_drop lenN, len_flat lenN, Tryz.ntmps35]
      simp (config := { maxSteps := 2000000 }) -implicitDefEqProofs +contextual (disch := first | assumption | omega | decide +kernel) only [push_cast, ↓capI, br2_true, br2_false, frk_tt, frk_tf, frk_f, frkD_tt, frkD_tf, frkD_f, pk2_true, pk2_false, imp_true, seval, Nat.reduceLeDiff, Nat.reduceEqDiff, reduceCtorEq, ↓reduceIte, reduceCtorEq, encF, encN, slN, cfg0, get_flat_part lenN, get_flat_drop lenN, len_flat lenN, hX, h1, h6, h3, hf]
      refine endK.ret ?_ (by first | rfl | simp [belF, belN, bel_Ns, bel_slN]); simp [evRes, getT, retV, Tryz.f35,  encIE]
    by_cases hf2 : 2 < fd
    · have hc : chk1 ⟨op, fd, v, m⟩ = 9 := by rw [chk1, if_neg ha1, if_pos ⟨h3, Or.inr hf2⟩]
      rw [hc, if_pos (by decide)]
      refine PC.walk tok mixed cfg0 Tryz.func35 rfl Tryz.call35 (by simp [belF, belN, bel_Ns, bel_slN]) (by first | rfl | simp [belF, belN, bel_Ns, bel_slN]) ?_; simp (config := { maxSteps := 2000000 }) -implicitDefEqProofs +contextual (disch := first | assumption | omega | decide +kernel) only [push_cast, ↓capI, br2_true, br2_false, frk_tt, frk_tf, frk_f, frkD_tt, frkD_tf, frkD_f, pk2_true, pk2_false, imp_true, seval, Nat.reduceLeDiff, Nat.reduceEqDiff, reduceCtorEq, ↓reduceIte, reduceCtorEq, encF, encN, slN, cfg0, get_flat_part lenN, get_flat_drop lenN, len_flat lenN, Tryz.ntmps35]
      simp (config := { maxSteps := 2000000 }) -implicitDefEqProofs +contextual (disch := first | assumption | omega | decide +kernel) only [push_cast, ↓capI, br2_true, br2_false, frk_tt, frk_tf, frk_f, frkD_tt, frkD_tf, frkD_f, pk2_true, pk2_false, imp_true, seval, Nat.reduceLeDiff, Nat.reduceEqDiff, reduceCtorEq, ↓reduceIte, reduceCtorEq, encF, encN, slN, cfg0, get_flat_part lenN, get_flat_drop lenN, len_flat lenN, hX, h1, h6, h3, hf, hf2]
      refine endK.ret ?_ (by first | rfl | simp [belF, belN, bel_Ns, bel_slN]); simp [evRes, getT, retV, Tryz.f35,  encIE]
    by_cases hbd : ibits BinOp.and IntKind.u8 v.toNat m.toNat = v.toNat
    case neg =>
      have hc : chk1 ⟨op, fd, v, m⟩ = 5 := by
        rw [hz] at hbd
        have hb1 : badN ⟨op, fd, v, m⟩ = true := by simpa using hbd
        rw [chk1, if_neg ha1, if_neg (fun h => h.2.elim hf hf2), if_pos ⟨h3, hb1⟩]
      rw [hc, if_pos (by decide)]
      refine PC.walk tok mixed cfg0 Tryz.func35 rfl Tryz.call35 (by simp [belF, belN, bel_Ns, bel_slN]) (by first | rfl | simp [belF, belN, bel_Ns, bel_slN]) ?_; simp (config := { maxSteps := 2000000 }) -implicitDefEqProofs +contextual (disch := first | assumption | omega | decide +kernel) only [push_cast, ↓capI, br2_true, br2_false, frk_tt, frk_tf, frk_f, frkD_tt, frkD_tf, frkD_f, pk2_true, pk2_false, imp_true, seval, Nat.reduceLeDiff, Nat.reduceEqDiff, reduceCtorEq, ↓reduceIte, reduceCtorEq, encF, encN, slN, cfg0, get_flat_part lenN, get_flat_drop lenN, len_flat lenN, Tryz.ntmps35]
      simp (config := { maxSteps := 2000000 }) -implicitDefEqProofs +contextual (disch := first | assumption | omega | decide +kernel) only [push_cast, ↓capI, br2_true, br2_false, frk_tt, frk_tf, frk_f, frkD_tt, frkD_tf, frkD_f, pk2_true, pk2_false, imp_true, seval, Nat.reduceLeDiff, Nat.reduceEqDiff, reduceCtorEq, ↓reduceIte, reduceCtorEq, encF, encN, slN, cfg0, get_flat_part lenN, get_flat_drop lenN, len_flat lenN, hX, h1, h6, h3, hf, hf2, hbd]
      refine endK.ret ?_ (by first | rfl | simp [belF, belN, bel_Ns, bel_slN]); simp [evRes, getT, retV, Tryz.f35,  encIE]
    have hc : chk1 ⟨op, fd, v, m⟩ = 0 := by
      rw [hz] at hbd
      rw [chk1, if_neg ha1, if_neg (fun h => h.2.elim hf hf2), if_neg (fun h => by rw [hbd] at h; cases h.2)]
    rw [hc, if_neg (fun h => h rfl), hA, Int.toNat_natCast]
    refine PC.walk tok mixed cfg0 Tryz.func35 rfl Tryz.call35 (by simp [belF, belN, bel_Ns, bel_slN]) (by first | rfl | simp [belF, belN, bel_Ns, bel_slN]) ?_; simp (config := { maxSteps := 2000000 }) -implicitDefEqProofs +contextual (disch := first | assumption | omega | decide +kernel) only [push_cast, ↓capI, br2_true, br2_false, frk_tt, frk_tf, frk_f, frkD_tt, frkD_tf, frkD_f, pk2_true, pk2_false, imp_true, seval, Nat.reduceLeDiff, Nat.reduceEqDiff, reduceCtorEq, ↓reduceIte, reduceCtorEq, encF, encN, slN, cfg0, get_flat_part lenN, get_flat_drop lenN, len_flat lenN, Tryz.ntmps35]
    simp (config := { maxSteps := 2000000 }) -implicitDefEqProofs +contextual (disch := first | assumption | omega | decide +kernel) only [push_cast, ↓capI, br2_true, br2_false, frk_tt, frk_tf, frk_f, frkD_tt, frkD_tf, frkD_f, pk2_true, pk2_false, imp_true, seval, Nat.reduceLeDiff, Nat.reduceEqDiff, reduceCtorEq, ↓reduceIte, reduceCtorEq, encF, encN, slN, cfg0, get_flat_part lenN, get_flat_drop lenN, len_flat lenN, hX, h1, h6, h3, hf, hf2, hbd]
    have hn0 : n = 0 := by
      rw [h3] at hA
      have : arity 3 = 0 := rfl
      omega
    subst hn0
    refine T.lp tok mixed cfg0 (fun (i : Nat) => kp 1 (dd 5 (kp 1 (sv (.int .i64 (a + 1)) (sv (.int .i64 i) (dd 80 (nl))))))) (fun H0 (i : Nat) => [.cells 0 [.int .i64 3, .int .i64 fd, .int .u8 v.toNat, .int .u8 m.toNat]]) (fun (i : Nat) => i = 0) (fun (i : Nat) => 0) (0) ?_ ?_ ?_
    · rfl
    · exact Gn.canon (J := []) (by first | rfl | (simp [List.append_nil]; done) | (simp [List.append_nil]; rfl)) (by simp [wk, slN, putT, kp, dd, sv, nl]) (by simp [List.length_append]) (by simp [belF, belN, bel_Ns, bel_slN, kp, dd, sv, nl]) (by simp [belF, belN, bel_Ns, bel_slN])
    intro i hi
    subst hi
    simp (config := { maxSteps := 2000000 }) -implicitDefEqProofs +contextual (disch := first | assumption | omega | decide +kernel) only [push_cast, ↓capI, br2_true, br2_false, frk_tt, frk_tf, frk_f, frkD_tt, frkD_tf, frkD_f, pk2_true, pk2_false, imp_true, seval, Nat.reduceLeDiff, Nat.reduceEqDiff, reduceCtorEq, ↓reduceIte, reduceCtorEq, encF, encN, slN, cfg0, get_flat_part lenN, get_flat_drop lenN, len_flat lenN]
    refine endK.ret ?_ (by first | rfl | simp [belF, belN, bel_Ns, bel_slN]); simp [evRes, getT, retV, Tryz.f35,  encIE, repS]
end Go.Proofs.YtllfdnbnkncnhaaGreatDoor

/- Chapter 44: a valid list of nodes is the list of a tree; the reference's check and the end of a subexpression. -/
set_option maxRecDepth 100000
set_option maxHeartbeats 4000000
set_option linter.all false
namespace Go.Proofs.YtllfdnbnkncnhaaGreatDoor
open Go.Vm

inductive Pr where
  | leaf (x : Nd)
  | un (x : Nd) (p : Pr)
  | bin (x : Nd) (p q : Pr)
def flat : Pr → List Nd
  | .leaf x => [x]
  | .un x p => x :: flat p
  | .bin x p q => x :: (flat p ++ flat q)
def okP : Pr → Prop
  | .leaf x => (x.op = 1 ∨ x.op = 2 ∨ x.op = 3) ∧ chk1 x = 0
  | .un x p => x.op = 4 ∧ okP p
  | .bin x p q => (x.op = 5 ∨ x.op = 6) ∧ okP p ∧ okP q
def top : Pr → Nd
  | .leaf x => x
  | .un x _ => x
  | .bin x _ _ => x
theorem flat_top : ∀ p, ∃ t, flat p = top p :: t
  | .leaf x => ⟨[], rfl⟩
  | .un x p => ⟨flat p, rfl⟩
  | .bin x p q => ⟨flat p ++ flat q, rfl⟩
theorem flat_pos (p : Pr) : 0 < (flat p).length := by
  obtain ⟨t, ht⟩ := flat_top p
  rw [ht]
  exact Nat.succ_pos _
theorem chk1_op {x : Nd} (h : x.op = 4 ∨ x.op = 5 ∨ x.op = 6) : chk1 x = 0 := by
  rcases h with h | h | h
  · rw [chk1, h]
    rfl
  · rw [chk1, h]
    rfl
  · rw [chk1, h]
    rfl
theorem chk_tree : ∀ k l, (chk k l).2 = 0 → ∃ p, okP p ∧ l = flat p ++ (chk k l).1
  | 0, [], h => by simp [chk] at h
  | 0, _ :: _, h => by simp [chk] at h
  | _ + 1, [], h => by simp [chk] at h
  | k + 1, x :: l, h => by
    rw [chk] at h ⊢
    by_cases hc : chk1 x = 0
    case neg =>
      rw [if_pos hc] at h
      exact absurd h hc
    rw [if_neg (fun g => g hc)] at h ⊢
    by_cases h0 : x.op = 1 ∨ x.op = 2 ∨ x.op = 3
    · have ha : arity x.op = 0 := by rw [arity, if_pos h0]
      rw [ha] at h ⊢
      exact ⟨.leaf x, ⟨h0, hc⟩, rfl⟩
    by_cases h4 : x.op = 4
    · have ha : arity x.op = 1 := by rw [arity, if_neg h0, if_pos h4]
      rw [ha, show (1 : Int).toNat = 0 + 1 from rfl, rep] at h ⊢
      by_cases he : (chk k l).2 = 0
      · rw [if_neg (fun g => g he)] at h ⊢
        obtain ⟨p, hp, hl⟩ := chk_tree k l he
        refine ⟨.un x p, ⟨h4, hp⟩, ?_⟩
        rw [flat, List.cons_append]
        exact congrArg (x :: ·) hl
      · rw [if_pos he] at h
        exact absurd h he
    by_cases h56 : x.op = 5 ∨ x.op = 6
    · have ha : arity x.op = 2 := by rw [arity, if_neg h0, if_neg h4, if_pos h56]
      rw [ha, show (2 : Int).toNat = 0 + 1 + 1 from rfl, rep] at h ⊢
      by_cases he : (chk k l).2 = 0
      · rw [if_neg (fun g => g he)] at h ⊢
        rw [rep] at h ⊢
        by_cases he2 : (chk k (chk k l).1).2 = 0
        · rw [if_neg (fun g => g he2)] at h ⊢
          obtain ⟨p, hp, hl⟩ := chk_tree k l he
          obtain ⟨q, hq, hl2⟩ := chk_tree k _ he2
          refine ⟨.bin x p q, ⟨h56, hp, hq⟩, ?_⟩
          rw [flat, List.cons_append, List.append_assoc]
          refine congrArg (x :: ·) ?_
          rw [rep, ← hl2]
          exact hl
        · rw [if_pos he2] at h
          exact absurd h he2
      · rw [if_pos he] at h
        exact absurd h he
    · exfalso
      have ha : arity x.op = -1 := by rw [arity, if_neg h0, if_neg h4, if_neg h56]
      rw [chk1, ha, if_pos (by decide)] at hc
      exact absurd hc (by decide)
theorem drop_cons {α : Type} {l r : List α} {a : Nat} {x : α} (h : l.drop a = x :: r) : ∃ ha : a < l.length, l[a] = x ∧ l.drop (a + 1) = r := by
  have ha : a < l.length := by
    have := congrArg List.length h
    rw [List.length_drop, List.length_cons] at this
    omega
  rw [List.drop_eq_getElem_cons ha] at h
  injection h with h1 h2
  exact ⟨ha, h1, h2⟩
theorem drop_app {α : Type} {l p r : List α} {a : Nat} (h : l.drop a = p ++ r) : l.drop (a + p.length) = r := by
  rw [← List.drop_drop, h, List.drop_left]
theorem drop_len {α : Type} {l p r : List α} {a : Nat} (ha : a ≤ l.length) (h : l.drop a = p ++ r) : a + p.length + r.length = l.length := by
  have := congrArg List.length h
  rw [List.length_drop, List.length_append] at this
  omega
theorem scan_tree : ∀ (p : Pr) (k : Nat) (l : List Nd) (a : Nat) (r : List Nd), okP p → l.drop a = flat p ++ r → (flat p).length ≤ k → scan k l a = (a + (flat p).length, 0)
  | p, 0, l, a, r, _, _, hk => by
    have := flat_pos p
    omega
  | .leaf x, k + 1, l, a, r, hp, hl, hk => by
    obtain ⟨ha, hx, _⟩ := drop_cons (x := x) (r := r) hl
    obtain ⟨h0, hc⟩ := hp
    have har : arity x.op = 0 := by rw [arity, if_pos h0]
    rw [scan, List.getElem?_eq_getElem ha]
    simp only [hx]
    rw [if_neg (fun g => g hc), har]
    rfl
  | .un x p, k + 1, l, a, r, hp, hl, hk => by
    obtain ⟨ha, hx, h2⟩ := drop_cons (x := x) (r := flat p ++ r) hl
    obtain ⟨h4, hp⟩ := hp
    have har : arity x.op = 1 := by rw [h4]; rfl
    have i1 := scan_tree p k l (a + 1) r hp h2 (by rw [flat, List.length_cons] at hk; omega)
    rw [scan, List.getElem?_eq_getElem ha]
    simp only [hx]
    rw [if_neg (fun g => g (chk1_op (.inl h4))), har, show (1 : Int).toNat = 0 + 1 from rfl, repS, i1, if_neg (fun g => g rfl), repS, flat, List.length_cons]
    congr 1
    omega
  | .bin x p q, k + 1, l, a, r, hp, hl, hk => by
    obtain ⟨ha, hx, h2⟩ := drop_cons (x := x) (r := flat p ++ (flat q ++ r)) (by rw [hl, flat, List.cons_append, List.append_assoc])
    obtain ⟨h4, hp, hq⟩ := hp
    have har : arity x.op = 2 := by rcases h4 with h4 | h4 <;> rw [h4] <;> rfl
    rw [flat, List.length_cons, List.length_append] at hk
    have i1 := scan_tree p k l (a + 1) _ hp h2 (by omega)
    have i2 := scan_tree q k l (a + 1 + (flat p).length) r hq (drop_app h2) (by omega)
    rw [scan, List.getElem?_eq_getElem ha]
    simp only [hx]
    rw [if_neg (fun g => g (chk1_op (.inr h4))), har, show (2 : Int).toNat = 0 + 1 + 1 from rfl, repS, i1, if_neg (fun g => g rfl), repS, i2, if_neg (fun g => g rfl), repS, flat, List.length_cons, List.length_append]
    congr 1
    omega
theorem pc38 (p : Pr) (l : List Nd) (a : Nat) (r : List Nd) (hp : okP p) (h : l.drop a = flat p ++ r) (ha : a ≤ l.length) (hl : l.length ≤ 4000000) :
    PC Tryz.prog 38 [slN l, .int .i64 a] (.int .i64 ((a : Int) + (flat p).length)) := by
  have hn := drop_len ha h
  have hs := pc35 (l.length - a) l a ha (Nat.le_refl _) hl
  rw [scan_tree p _ l a r hp h (by omega), encIE] at hs
  refine PC.walk tok mixed cfg0 Tryz.func38 rfl Tryz.call38 (by simp [bel_LN, fmN, fm0, belF, belN, bel_Ns, bel_slN]) (by first | rfl | simp [bel_LN, fmN, fm0, belF, belN, bel_Ns, bel_slN]) ?_; simp (config := { maxSteps := 2000000 }) -implicitDefEqProofs +contextual (disch := first | assumption | omega | decide +kernel) only [push_cast, ↓capI, br2_true, br2_false, frk_tt, frk_tf, frk_f, frkD_tt, frkD_tf, frkD_f, pk2_true, pk2_false, imp_true, seval, Nat.reduceLeDiff, Nat.reduceEqDiff, reduceCtorEq, ↓reduceIte, reduceCtorEq, fmN, fm0, take_N, toN1, slN_nil, encF, encN, slN, cfg0, get_flat_part lenN, get_flat_drop lenN, len_flat lenN, Tryz.ntmps38]
  refine callO.pc hs ?_
  simp (config := { maxSteps := 2000000 }) -implicitDefEqProofs +contextual (disch := first | assumption | omega | decide +kernel) only [push_cast, ↓capI, br2_true, br2_false, frk_tt, frk_tf, frk_f, frkD_tt, frkD_tf, frkD_f, pk2_true, pk2_false, imp_true, seval, Nat.reduceLeDiff, Nat.reduceEqDiff, reduceCtorEq, ↓reduceIte, reduceCtorEq, fmN, fm0, take_N, toN1, slN_nil, encF, encN, slN, cfg0, get_flat_part lenN, get_flat_drop lenN, len_flat lenN]
  refine endK.ret ?_ (by first | rfl | simp [bel_LN, fmN, fm0, belF, belN, bel_Ns, bel_slN]); simp [evRes, getT, retV, Tryz.f38,  Int.natCast_add]
theorem pc22 (l : List Nd) (hl : l.length ≤ 4000000) : PC Tryz.prog 22 [slN l] (.int .i64 (checkP l)) := by
  by_cases h : 24 < l.length
  · refine PC.walk tok mixed cfg0 Tryz.func22 rfl Tryz.call22 (by simp [bel_LN, fmN, fm0, belF, belN, bel_Ns, bel_slN]) (by first | rfl | simp [bel_LN, fmN, fm0, belF, belN, bel_Ns, bel_slN]) ?_; simp (config := { maxSteps := 2000000 }) -implicitDefEqProofs +contextual (disch := first | assumption | omega | decide +kernel) only [push_cast, ↓capI, br2_true, br2_false, frk_tt, frk_tf, frk_f, frkD_tt, frkD_tf, frkD_f, pk2_true, pk2_false, imp_true, seval, Nat.reduceLeDiff, Nat.reduceEqDiff, reduceCtorEq, ↓reduceIte, reduceCtorEq, fmN, fm0, take_N, toN1, slN_nil, encF, encN, slN, cfg0, get_flat_part lenN, get_flat_drop lenN, len_flat lenN, Tryz.ntmps22]
    refine endK.ret ?_ (by first | rfl | simp [bel_LN, fmN, fm0, belF, belN, bel_Ns, bel_slN]); simp [evRes, getT, retV, Tryz.f22,  checkP, h]
  refine PC.walk tok mixed cfg0 Tryz.func22 rfl Tryz.call22 (by simp [bel_LN, fmN, fm0, belF, belN, bel_Ns, bel_slN]) (by first | rfl | simp [bel_LN, fmN, fm0, belF, belN, bel_Ns, bel_slN]) ?_; simp (config := { maxSteps := 2000000 }) -implicitDefEqProofs +contextual (disch := first | assumption | omega | decide +kernel) only [push_cast, ↓capI, br2_true, br2_false, frk_tt, frk_tf, frk_f, frkD_tt, frkD_tf, frkD_f, pk2_true, pk2_false, imp_true, seval, Nat.reduceLeDiff, Nat.reduceEqDiff, reduceCtorEq, ↓reduceIte, reduceCtorEq, fmN, fm0, take_N, toN1, slN_nil, encF, encN, slN, cfg0, get_flat_part lenN, get_flat_drop lenN, len_flat lenN, Tryz.ntmps22]
  have hs := scan_chk l.length l 0 (Nat.zero_le _)
  rw [List.drop_zero] at hs
  refine callO.pc (pc35 l.length l 0 (Nat.zero_le _) (Nat.sub_le _ _) hl) ?_
  have hle := scan_le l.length l 0 (Nat.zero_le _)
  rw [checkP, if_neg h, ← hs.1]
  by_cases he : (scan l.length l 0).2 = 0
  · rw [encIE_ok he]
    have h2 := hs.2 he
    by_cases hn : (scan l.length l 0).1 < l.length
    · rw [if_pos ⟨he, fun e => by rw [e] at h2; have := List.drop_eq_nil_iff.1 h2; omega⟩]
      simp (config := { maxSteps := 2000000 }) -implicitDefEqProofs +contextual (disch := first | assumption | omega | decide +kernel) only [push_cast, ↓capI, br2_true, br2_false, frk_tt, frk_tf, frk_f, frkD_tt, frkD_tf, frkD_f, pk2_true, pk2_false, imp_true, seval, Nat.reduceLeDiff, Nat.reduceEqDiff, reduceCtorEq, ↓reduceIte, reduceCtorEq, fmN, fm0, take_N, toN1, slN_nil, encF, encN, slN, cfg0, get_flat_part lenN, get_flat_drop lenN, len_flat lenN, hn]
      refine endK.ret ?_ (by first | rfl | simp [bel_LN, fmN, fm0, belF, belN, bel_Ns, bel_slN]); simp [evRes, getT, retV, Tryz.f22]
    · rw [if_neg (fun g => g.2 (by rw [← h2]; exact List.drop_eq_nil_iff.2 (by omega))), he]
      simp (config := { maxSteps := 2000000 }) -implicitDefEqProofs +contextual (disch := first | assumption | omega | decide +kernel) only [push_cast, ↓capI, br2_true, br2_false, frk_tt, frk_tf, frk_f, frkD_tt, frkD_tf, frkD_f, pk2_true, pk2_false, imp_true, seval, Nat.reduceLeDiff, Nat.reduceEqDiff, reduceCtorEq, ↓reduceIte, reduceCtorEq, fmN, fm0, take_N, toN1, slN_nil, encF, encN, slN, cfg0, get_flat_part lenN, get_flat_drop lenN, len_flat lenN, hn]
      refine endK.ret ?_ (by first | rfl | simp [bel_LN, fmN, fm0, belF, belN, bel_Ns, bel_slN]); simp [evRes, getT, retV, Tryz.f22]
  · rw [if_neg (fun g => he g.1), encIE]
    simp (config := { maxSteps := 2000000 }) -implicitDefEqProofs +contextual (disch := first | assumption | omega | decide +kernel) only [push_cast, ↓capI, br2_true, br2_false, frk_tt, frk_tf, frk_f, frkD_tt, frkD_tf, frkD_f, pk2_true, pk2_false, imp_true, seval, Nat.reduceLeDiff, Nat.reduceEqDiff, reduceCtorEq, ↓reduceIte, reduceCtorEq, fmN, fm0, take_N, toN1, slN_nil, encF, encN, slN, cfg0, get_flat_part lenN, get_flat_drop lenN, len_flat lenN, he]
    refine endK.ret ?_ (by first | rfl | simp [bel_LN, fmN, fm0, belF, belN, bel_Ns, bel_slN]); simp [evRes, getT, retV, Tryz.f22]
theorem checkP_tree {l : List Nd} (h : checkP l = 0) : l.length ≤ 24 ∧ ∃ p, okP p ∧ l = flat p := by
  unfold checkP at h
  split at h
  · omega
  split at h
  · omega
  rename_i h1 h2
  refine ⟨by omega, ?_⟩
  obtain ⟨p, hp, hl⟩ := chk_tree l.length l h
  refine ⟨p, hp, ?_⟩
  have : (chk l.length l).1 = [] := Decidable.not_not.1 (fun g => h2 ⟨h, g⟩)
  rw [this, List.append_nil] at hl
  exact hl
theorem tree_checkP : ∀ {p : Pr}, okP p → (flat p).length ≤ 24 → checkP (flat p) = 0 := by
  intro p hp hl
  have hs := scan_chk (flat p).length (flat p) 0 (Nat.zero_le _)
  rw [List.drop_zero, scan_tree p _ (flat p) 0 [] hp (by rw [List.drop_zero, List.append_nil]) (Nat.le_refl _)] at hs
  rw [checkP, if_neg (by omega), ← hs.1, if_neg]
  rintro ⟨_, h⟩
  apply h
  rw [← hs.2 rfl]
  exact List.drop_eq_nil_iff.2 (by simp)
end Go.Proofs.YtllfdnbnkncnhaaGreatDoor

/- Chapter 44: heavy lists; equality of lists of nodes. -/
set_option maxRecDepth 100000
set_option maxHeartbeats 4000000
set_option linter.all false
namespace Go.Proofs.YtllfdnbnkncnhaaGreatDoor
open Go.Vm

theorem eq8 (a b : UInt8) : ((a.toNat : Int) = b.toNat) = (a = b) := propext ⟨fun h => UInt8.toNat_inj.1 (by omega), fun h => by rw [h]⟩
def cntN (l : List Nd) (o : Int) (i : Nat) : Nat := (l.take i).countP (fun x => x.op = o)
theorem cntN0 (l : List Nd) (o : Int) : cntN l o 0 = 0 := rfl
theorem cntN_succ (l : List Nd) (o : Int) (i : Nat) (h : i < l.length) : cntN l o (i + 1) = cntN l o i + if l[i].op = o then 1 else 0 := by
  rw [cntN, List.take_succ_eq_append_getElem h, List.countP_append, List.countP_singleton]
  simp only [decide_eq_true_eq]
  rfl
theorem cntN_le (l : List Nd) (o : Int) (i : Nat) : cntN l o i ≤ i := by
  refine Nat.le_trans List.countP_le_length ?_
  rw [List.length_take]
  omega
def heavy (l : List Nd) : Bool := decide (60 < l.length) || (decide (0 < cntN l 4 l.length) && decide (6 < cntN l 3 l.length))
theorem pc5 (l : List Nd) (hl : l.length ≤ 4000000) : PC Tryz.prog 5 [slN l] (.bool (heavy l)) := by
  refine PC.walk tok mixed cfg0 Tryz.func5 rfl Tryz.call5 (by simp [bel_LN, fmN, fm0, belN, bel_Ns, bel_slN]) (by first | rfl | simp [bel_LN, fmN, fm0, belN, bel_Ns, bel_slN]) ?_; simp (config := { maxSteps := 2000000 }) -implicitDefEqProofs +contextual (disch := first | assumption | omega | decide +kernel) only [push_cast, ↓capI, br2_true, br2_false, frk_tt, frk_tf, frk_f, frkD_tt, frkD_tf, frkD_f, pk2_true, pk2_false, imp_true, seval, Nat.reduceLeDiff, Nat.reduceEqDiff, reduceCtorEq, ↓reduceIte, reduceCtorEq, fmN, fm0, take_N, toN1, slN_nil, encN, slN, cfg0, get_flat_part lenN, get_flat_drop lenN, len_flat lenN, Tryz.ntmps5]
  refine T.lp tok mixed cfg0 (fun (i : Nat) => kp 1 (dd 2 (sv (.int .i64 (cntN l 3 i)) (sv (.int .i64 (cntN l 4 i)) (sv (.int .i64 i) (dd 30 (nl))))))) (fun H0 (i : Nat) => []) (fun (i : Nat) => i ≤ l.length) (fun (i : Nat) => l.length - i) (0) ?_ ?_ ?_
  · exact Nat.zero_le _
  · exact Gn.canon (J := []) (by first | rfl | (simp [List.append_nil]; done) | (simp [List.append_nil]; rfl)) (by simp [wk, slN, cntN0, putT, kp, dd, sv, nl]) (by simp [List.length_append]) (by simp [bel_LN, fmN, fm0, belN, bel_Ns, bel_slN, kp, dd, sv, nl]) (by simp [bel_LN, fmN, fm0, belN, bel_Ns, bel_slN])
  rintro i hi
  have c1 := cntN_le l 3 i
  have c2 := cntN_le l 4 i
  by_cases hlt : i < l.length
  · have s1 := cntN_succ l 3 i hlt
    have s2 := cntN_succ l 4 i hlt
    by_cases h3 : l[i].op = 3
    · rw [if_pos h3] at s1
      rw [if_neg (by omega)] at s2
      simp (config := { maxSteps := 2000000 }) -implicitDefEqProofs +contextual (disch := first | assumption | omega | decide +kernel) only [push_cast, ↓capI, br2_true, br2_false, frk_tt, frk_tf, frk_f, frkD_tt, frkD_tf, frkD_f, pk2_true, pk2_false, imp_true, seval, Nat.reduceLeDiff, Nat.reduceEqDiff, reduceCtorEq, ↓reduceIte, reduceCtorEq, fmN, fm0, take_N, toN1, slN_nil, encN, slN, cfg0, get_flat_part lenN, get_flat_drop lenN, len_flat lenN, h3]
      refine ⟨i + 1, by omega, by (try simp only); omega, ?_⟩; exact Gn.canon (by first | rfl | (simp [List.append_nil, s1, s2]; rfl)) (by simp [wk, slN, cntN0, s1, s2]) (by simp [List.length_append]) (by simp [bel_LN, fmN, fm0, belN, bel_Ns, bel_slN]) (by simp [bel_LN, fmN, fm0, belN, bel_Ns, bel_slN])
    rw [if_neg h3] at s1
    by_cases h4 : l[i].op = 4
    · rw [if_pos h4] at s2
      simp (config := { maxSteps := 2000000 }) -implicitDefEqProofs +contextual (disch := first | assumption | omega | decide +kernel) only [push_cast, ↓capI, br2_true, br2_false, frk_tt, frk_tf, frk_f, frkD_tt, frkD_tf, frkD_f, pk2_true, pk2_false, imp_true, seval, Nat.reduceLeDiff, Nat.reduceEqDiff, reduceCtorEq, ↓reduceIte, reduceCtorEq, fmN, fm0, take_N, toN1, slN_nil, encN, slN, cfg0, get_flat_part lenN, get_flat_drop lenN, len_flat lenN, h4]
      refine ⟨i + 1, by omega, by (try simp only); omega, ?_⟩; exact Gn.canon (by first | rfl | (simp [List.append_nil, s1, s2]; rfl)) (by simp [wk, slN, cntN0, s1, s2]) (by simp [List.length_append]) (by simp [bel_LN, fmN, fm0, belN, bel_Ns, bel_slN]) (by simp [bel_LN, fmN, fm0, belN, bel_Ns, bel_slN])
    · rw [if_neg h4] at s2
      simp (config := { maxSteps := 2000000 }) -implicitDefEqProofs +contextual (disch := first | assumption | omega | decide +kernel) only [push_cast, ↓capI, br2_true, br2_false, frk_tt, frk_tf, frk_f, frkD_tt, frkD_tf, frkD_f, pk2_true, pk2_false, imp_true, seval, Nat.reduceLeDiff, Nat.reduceEqDiff, reduceCtorEq, ↓reduceIte, reduceCtorEq, fmN, fm0, take_N, toN1, slN_nil, encN, slN, cfg0, get_flat_part lenN, get_flat_drop lenN, len_flat lenN, h3, h4]
      refine ⟨i + 1, by omega, by (try simp only); omega, ?_⟩; exact Gn.canon (by first | rfl | (simp [List.append_nil, s1, s2]; rfl)) (by simp [wk, slN, cntN0, s1, s2]) (by simp [List.length_append]) (by simp [bel_LN, fmN, fm0, belN, bel_Ns, bel_slN]) (by simp [bel_LN, fmN, fm0, belN, bel_Ns, bel_slN])
  · have hi' : i = l.length := by omega
    by_cases h60 : 60 < l.length
    · simp (config := { maxSteps := 2000000 }) -implicitDefEqProofs +contextual (disch := first | assumption | omega | decide +kernel) only [push_cast, ↓capI, br2_true, br2_false, frk_tt, frk_tf, frk_f, frkD_tt, frkD_tf, frkD_f, pk2_true, pk2_false, imp_true, seval, Nat.reduceLeDiff, Nat.reduceEqDiff, reduceCtorEq, ↓reduceIte, reduceCtorEq, fmN, fm0, take_N, toN1, slN_nil, encN, slN, cfg0, get_flat_part lenN, get_flat_drop lenN, len_flat lenN, h60]
      refine endK.ret ?_ (by first | rfl | simp [bel_LN, fmN, fm0, belN, bel_Ns, bel_slN]); simp [evRes, getT, retV, Tryz.f5,  heavy, h60]
    by_cases h0 : 0 < cntN l 4 i
    · simp (config := { maxSteps := 2000000 }) -implicitDefEqProofs +contextual (disch := first | assumption | omega | decide +kernel) only [push_cast, ↓capI, br2_true, br2_false, frk_tt, frk_tf, frk_f, frkD_tt, frkD_tf, frkD_f, pk2_true, pk2_false, imp_true, seval, Nat.reduceLeDiff, Nat.reduceEqDiff, reduceCtorEq, ↓reduceIte, reduceCtorEq, fmN, fm0, take_N, toN1, slN_nil, encN, slN, cfg0, get_flat_part lenN, get_flat_drop lenN, len_flat lenN, h60, h0]
      subst hi'
      refine endK.ret ?_ (by first | rfl | simp [bel_LN, fmN, fm0, belN, bel_Ns, bel_slN]); simp [evRes, getT, retV, Tryz.f5,  heavy, h60, h0]
      omega
    · simp (config := { maxSteps := 2000000 }) -implicitDefEqProofs +contextual (disch := first | assumption | omega | decide +kernel) only [push_cast, ↓capI, br2_true, br2_false, frk_tt, frk_tf, frk_f, frkD_tt, frkD_tf, frkD_f, pk2_true, pk2_false, imp_true, seval, Nat.reduceLeDiff, Nat.reduceEqDiff, reduceCtorEq, ↓reduceIte, reduceCtorEq, fmN, fm0, take_N, toN1, slN_nil, encN, slN, cfg0, get_flat_part lenN, get_flat_drop lenN, len_flat lenN, h60, h0]
      subst hi'
      refine endK.ret ?_ (by first | rfl | simp [bel_LN, fmN, fm0, belN, bel_Ns, bel_slN]); simp [evRes, getT, retV, Tryz.f5,  heavy, h60, h0]
def eqL (a b : List Nd) (i : Nat) : Prop := ∀ j, j < i → ∀ (h : j < a.length) (h2 : j < b.length), a[j].op = b[j].op ∧ (a[j].op = 3 → a[j] = b[j])
theorem pc12 (a b : List Nd) (ha : a.length ≤ 4000000) (hb : b.length ≤ 4000000) (r : Bool) (hr : r = true ↔ (a.length = b.length ∧ eqL a b a.length)) : PC Tryz.prog 12 [slN a, slN b] (.bool r) := by
  by_cases hn : a.length = b.length
  case neg =>
    have h0 : r = false := by
      cases r
      · rfl
      · exact absurd (hr.1 rfl).1 hn
    refine PC.walk tok mixed cfg0 Tryz.func12 rfl Tryz.call12 (by simp [bel_LN, fmN, fm0, belN, bel_Ns, bel_slN]) (by first | rfl | simp [bel_LN, fmN, fm0, belN, bel_Ns, bel_slN]) ?_; simp (config := { maxSteps := 2000000 }) -implicitDefEqProofs +contextual (disch := first | assumption | omega | decide +kernel) only [push_cast, ↓capI, br2_true, br2_false, frk_tt, frk_tf, frk_f, frkD_tt, frkD_tf, frkD_f, pk2_true, pk2_false, imp_true, seval, Nat.reduceLeDiff, Nat.reduceEqDiff, reduceCtorEq, ↓reduceIte, reduceCtorEq, fmN, fm0, take_N, toN1, slN_nil, encN, slN, cfg0, get_flat_part lenN, get_flat_drop lenN, len_flat lenN, Tryz.ntmps12]
    refine endK.ret ?_ (by first | rfl | simp [bel_LN, fmN, fm0, belN, bel_Ns, bel_slN]); simp [evRes, getT, retV, Tryz.f12,  h0]
  refine PC.walk tok mixed cfg0 Tryz.func12 rfl Tryz.call12 (by simp [bel_LN, fmN, fm0, belN, bel_Ns, bel_slN]) (by first | rfl | simp [bel_LN, fmN, fm0, belN, bel_Ns, bel_slN]) ?_; simp (config := { maxSteps := 2000000 }) -implicitDefEqProofs +contextual (disch := first | assumption | omega | decide +kernel) only [push_cast, ↓capI, br2_true, br2_false, frk_tt, frk_tf, frk_f, frkD_tt, frkD_tf, frkD_f, pk2_true, pk2_false, imp_true, seval, Nat.reduceLeDiff, Nat.reduceEqDiff, reduceCtorEq, ↓reduceIte, reduceCtorEq, fmN, fm0, take_N, toN1, slN_nil, encN, slN, cfg0, get_flat_part lenN, get_flat_drop lenN, len_flat lenN, Tryz.ntmps12]
  simp (config := { maxSteps := 2000000 }) -implicitDefEqProofs +contextual (disch := first | assumption | omega | decide +kernel) only [push_cast, ↓capI, br2_true, br2_false, frk_tt, frk_tf, frk_f, frkD_tt, frkD_tf, frkD_f, pk2_true, pk2_false, imp_true, seval, Nat.reduceLeDiff, Nat.reduceEqDiff, reduceCtorEq, ↓reduceIte, reduceCtorEq, fmN, fm0, take_N, toN1, slN_nil, encN, slN, cfg0, get_flat_part lenN, get_flat_drop lenN, len_flat lenN, hn]
  refine T.lp tok mixed cfg0 (fun (i : Nat) => kp 2 (dd 3 (sv (.int .i64 i) (dd 41 (nl))))) (fun H0 (i : Nat) => []) (fun (i : Nat) => i ≤ a.length ∧ eqL a b i) (fun (i : Nat) => a.length - i) (0) ?_ ?_ ?_
  · exact ⟨Nat.zero_le _, fun j hj => absurd hj (Nat.not_lt_zero j)⟩
  · exact Gn.canon (J := []) (by first | rfl | (simp [List.append_nil]; done) | (simp [List.append_nil]; rfl)) (by simp [wk, slN, cntN0, putT, kp, dd, sv, nl]) (by simp [List.length_append]) (by simp [bel_LN, fmN, fm0, belN, bel_Ns, bel_slN, kp, dd, sv, nl]) (by simp [bel_LN, fmN, fm0, belN, bel_Ns, bel_slN])
  rintro i ⟨hi, he⟩
  by_cases hlt : i < a.length
  case neg =>
    have hi' : i = a.length := by omega
    subst hi'
    simp (config := { maxSteps := 2000000 }) -implicitDefEqProofs +contextual (disch := first | assumption | omega | decide +kernel) only [push_cast, ↓capI, br2_true, br2_false, frk_tt, frk_tf, frk_f, frkD_tt, frkD_tf, frkD_f, pk2_true, pk2_false, imp_true, seval, Nat.reduceLeDiff, Nat.reduceEqDiff, reduceCtorEq, ↓reduceIte, reduceCtorEq, fmN, fm0, take_N, toN1, slN_nil, encN, slN, cfg0, get_flat_part lenN, get_flat_drop lenN, len_flat lenN]
    refine endK.ret ?_ (by first | rfl | simp [bel_LN, fmN, fm0, belN, bel_Ns, bel_slN]); simp [evRes, getT, retV, Tryz.f12,  hr.2 ⟨hn, he⟩]
  have hlt2 : i < b.length := by omega
  by_cases ho : a[i].op = b[i].op
  case neg =>
    have h0 : r = false := by
      cases r
      · rfl
      · exact absurd ((hr.1 rfl).2 i hlt hlt hlt2).1 ho
    simp (config := { maxSteps := 2000000 }) -implicitDefEqProofs +contextual (disch := first | assumption | omega | decide +kernel) only [push_cast, ↓capI, br2_true, br2_false, frk_tt, frk_tf, frk_f, frkD_tt, frkD_tf, frkD_f, pk2_true, pk2_false, imp_true, seval, Nat.reduceLeDiff, Nat.reduceEqDiff, reduceCtorEq, ↓reduceIte, reduceCtorEq, fmN, fm0, take_N, toN1, slN_nil, encN, slN, cfg0, get_flat_part lenN, get_flat_drop lenN, len_flat lenN, ho]
    refine endK.ret ?_ (by first | rfl | simp [bel_LN, fmN, fm0, belN, bel_Ns, bel_slN]); simp [evRes, getT, retV, Tryz.f12,  h0]
  have hx : ∀ h : (a[i].op = 3 → a[i] = b[i]), eqL a b (i + 1) := by
    intro h j hj h1 h2
    by_cases e : j = i
    · subst e
      exact ⟨ho, h⟩
    · exact he j (by omega) h1 h2
  by_cases h3 : a[i].op = 3
  case neg =>
    rw [ho] at h3
    simp (config := { maxSteps := 2000000 }) -implicitDefEqProofs +contextual (disch := first | assumption | omega | decide +kernel) only [push_cast, ↓capI, br2_true, br2_false, frk_tt, frk_tf, frk_f, frkD_tt, frkD_tf, frkD_f, pk2_true, pk2_false, imp_true, seval, Nat.reduceLeDiff, Nat.reduceEqDiff, reduceCtorEq, ↓reduceIte, reduceCtorEq, fmN, fm0, take_N, toN1, slN_nil, encN, slN, cfg0, get_flat_part lenN, get_flat_drop lenN, len_flat lenN, ho, h3]
    refine ⟨i + 1, ⟨by omega, hx (fun h => absurd (ho.symm.trans h) h3)⟩, by (try simp only); omega, ?_⟩; exact Gn.canon (by first | rfl | (simp [List.append_nil]; rfl)) (by simp [wk, slN, cntN0]) (by simp [List.length_append]) (by simp [bel_LN, fmN, fm0, belN, bel_Ns, bel_slN]) (by simp [bel_LN, fmN, fm0, belN, bel_Ns, bel_slN])
  have h3' : b[i].op = 3 := ho.symm.trans h3
  by_cases hq : a[i] = b[i]
  · simp (config := { maxSteps := 2000000 }) -implicitDefEqProofs +contextual (disch := first | assumption | omega | decide +kernel) only [push_cast, ↓capI, br2_true, br2_false, frk_tt, frk_tf, frk_f, frkD_tt, frkD_tf, frkD_f, pk2_true, pk2_false, imp_true, seval, Nat.reduceLeDiff, Nat.reduceEqDiff, reduceCtorEq, ↓reduceIte, reduceCtorEq, fmN, fm0, take_N, toN1, slN_nil, encN, slN, cfg0, get_flat_part lenN, get_flat_drop lenN, len_flat lenN, h3, h3', hq]
    refine ⟨i + 1, ⟨by omega, hx (fun _ => hq)⟩, by (try simp only); omega, ?_⟩; exact Gn.canon (by first | rfl | (simp [List.append_nil]; rfl)) (by simp [wk, slN, cntN0]) (by simp [List.length_append]) (by simp [bel_LN, fmN, fm0, belN, bel_Ns, bel_slN]) (by simp [bel_LN, fmN, fm0, belN, bel_Ns, bel_slN])
  · have h0 : r = false := by
      cases r
      · rfl
      · exact absurd (((hr.1 rfl).2 i hlt hlt hlt2).2 h3) hq
    by_cases hf : a[i].fd = b[i].fd
    · by_cases hv : a[i].v = b[i].v
      · have hm : ¬ a[i].m = b[i].m := by
          intro hm
          apply hq
          generalize a[i] = x at *
          generalize b[i] = y at *
          cases x
          cases y
          simp_all
        simp (config := { maxSteps := 2000000 }) -implicitDefEqProofs +contextual (disch := first | assumption | omega | decide +kernel) only [push_cast, ↓capI, br2_true, br2_false, frk_tt, frk_tf, frk_f, frkD_tt, frkD_tf, frkD_f, pk2_true, pk2_false, imp_true, seval, Nat.reduceLeDiff, Nat.reduceEqDiff, reduceCtorEq, ↓reduceIte, reduceCtorEq, fmN, fm0, take_N, toN1, slN_nil, encN, slN, cfg0, get_flat_part lenN, get_flat_drop lenN, len_flat lenN, h3, h3', hf, hv, hm, eq8]
        refine endK.ret ?_ (by first | rfl | simp [bel_LN, fmN, fm0, belN, bel_Ns, bel_slN]); simp [evRes, getT, retV, Tryz.f12,  h0]
      · have hvb : ((a[i].v.toNat : Int) == (b[i].v.toNat : Int)) = false := beq_eq_false_iff_ne.2 (by rw [Ne, eq8]; exact hv)
        simp (config := { maxSteps := 2000000 }) -implicitDefEqProofs +contextual (disch := first | assumption | omega | decide +kernel) only [push_cast, ↓capI, br2_true, br2_false, frk_tt, frk_tf, frk_f, frkD_tt, frkD_tf, frkD_f, pk2_true, pk2_false, imp_true, seval, Nat.reduceLeDiff, Nat.reduceEqDiff, reduceCtorEq, ↓reduceIte, reduceCtorEq, fmN, fm0, take_N, toN1, slN_nil, encN, slN, cfg0, get_flat_part lenN, get_flat_drop lenN, len_flat lenN, h3, h3', hf, hvb]
        refine endK.ret ?_ (by first | rfl | simp [bel_LN, fmN, fm0, belN, bel_Ns, bel_slN]); simp [evRes, getT, retV, Tryz.f12,  h0]
    · simp (config := { maxSteps := 2000000 }) -implicitDefEqProofs +contextual (disch := first | assumption | omega | decide +kernel) only [push_cast, ↓capI, br2_true, br2_false, frk_tt, frk_tf, frk_f, frkD_tt, frkD_tf, frkD_f, pk2_true, pk2_false, imp_true, seval, Nat.reduceLeDiff, Nat.reduceEqDiff, reduceCtorEq, ↓reduceIte, reduceCtorEq, fmN, fm0, take_N, toN1, slN_nil, encN, slN, cfg0, get_flat_part lenN, get_flat_drop lenN, len_flat lenN, h3, h3', hf]
      refine endK.ret ?_ (by first | rfl | simp [bel_LN, fmN, fm0, belN, bel_Ns, bel_slN]); simp [evRes, getT, retV, Tryz.f12,  h0]
end Go.Proofs.YtllfdnbnkncnhaaGreatDoor

/- Chapter 44: the value of a predicate, program and reference. -/
set_option maxRecDepth 100000
set_option maxHeartbeats 4000000
set_option linter.all false
namespace Go.Proofs.YtllfdnbnkncnhaaGreatDoor
open Go.Vm

def evP (f : Fl) : Pr → Bool
  | .leaf x => if x.op = 1 then true else if x.op = 2 then false else decide ((fval f x.fd ^^^ x.v) &&& x.m = 0)
  | .un _ p => !evP f p
  | .bin x p q => if x.op = 5 then evP f p && evP f q else evP f p || evP f q
theorem xz8 (a v m : UInt8) : ((((a.toNat ^^^ v.toNat) &&& m.toNat : Nat) : Int) == 0) = decide ((a ^^^ v) &&& m = 0) := by
  rw [← UInt8.toNat_xor, ← UInt8.toNat_and, Bool.eq_iff_iff, beq_iff_eq, decide_eq_true_eq, zero8]
theorem az8 (a v m : UInt8) : ((((a.toNat &&& m.toNat : Nat) : Int)) == (v.toNat : Int)) = decide (a &&& m = v) := by
  rw [← UInt8.toNat_and, Bool.eq_iff_iff, beq_iff_eq, decide_eq_true_eq, eq8]
theorem pc30 (f : Fl) : ∀ (p : Pr) (r : List Nd), okP p → (flat p ++ r).length ≤ 4000000 → PC Tryz.prog 30 [slN (flat p ++ r), .agg (encF f)] (.tup [.bool (evP f p), slN r])
  | .leaf x, r, hp, hl => by
    obtain ⟨h0, hc⟩ := hp
    have hl' : r.length + 1 ≤ 4000000 := hl
    show PC Tryz.prog 30 [slN (x :: r), .agg (encF f)] _
    rcases h0 with h | h | h
    · refine PC.walk tok mixed cfg0 Tryz.func30 rfl Tryz.call30 (by simp [bel_LN, fmN, fm0, belF, belN, bel_Ns, bel_slN]) (by first | rfl | simp [bel_LN, fmN, fm0, belF, belN, bel_Ns, bel_slN]) ?_; simp (config := { maxSteps := 2000000 }) -implicitDefEqProofs +contextual (disch := first | assumption | omega | decide +kernel) only [push_cast, ↓capI, br2_true, br2_false, frk_tt, frk_tf, frk_f, frkD_tt, frkD_tf, frkD_f, pk2_true, pk2_false, imp_true, seval, Nat.reduceLeDiff, Nat.reduceEqDiff, reduceCtorEq, ↓reduceIte, reduceCtorEq, fmN, fm0, take_N, toN1, slN_nil, xor8, and8, zero8, encF, encN, slN, cfg0, get_flat_part lenN, get_flat_drop lenN, len_flat lenN, Tryz.ntmps30]
      simp (config := { maxSteps := 2000000 }) -implicitDefEqProofs +contextual (disch := first | assumption | omega | decide +kernel) only [push_cast, ↓capI, br2_true, br2_false, frk_tt, frk_tf, frk_f, frkD_tt, frkD_tf, frkD_f, pk2_true, pk2_false, imp_true, seval, Nat.reduceLeDiff, Nat.reduceEqDiff, reduceCtorEq, ↓reduceIte, reduceCtorEq, fmN, fm0, take_N, toN1, slN_nil, xor8, and8, zero8, encF, encN, slN, cfg0, get_flat_part lenN, get_flat_drop lenN, len_flat lenN, h]
      refine endK.ret ?_ (by first | rfl | simp [bel_LN, fmN, fm0, belF, belN, bel_Ns, bel_slN]); simp [evRes, getT, retV, Tryz.f30,  evP, h]
    · refine PC.walk tok mixed cfg0 Tryz.func30 rfl Tryz.call30 (by simp [bel_LN, fmN, fm0, belF, belN, bel_Ns, bel_slN]) (by first | rfl | simp [bel_LN, fmN, fm0, belF, belN, bel_Ns, bel_slN]) ?_; simp (config := { maxSteps := 2000000 }) -implicitDefEqProofs +contextual (disch := first | assumption | omega | decide +kernel) only [push_cast, ↓capI, br2_true, br2_false, frk_tt, frk_tf, frk_f, frkD_tt, frkD_tf, frkD_f, pk2_true, pk2_false, imp_true, seval, Nat.reduceLeDiff, Nat.reduceEqDiff, reduceCtorEq, ↓reduceIte, reduceCtorEq, fmN, fm0, take_N, toN1, slN_nil, xor8, and8, zero8, encF, encN, slN, cfg0, get_flat_part lenN, get_flat_drop lenN, len_flat lenN, Tryz.ntmps30]
      simp (config := { maxSteps := 2000000 }) -implicitDefEqProofs +contextual (disch := first | assumption | omega | decide +kernel) only [push_cast, ↓capI, br2_true, br2_false, frk_tt, frk_tf, frk_f, frkD_tt, frkD_tf, frkD_f, pk2_true, pk2_false, imp_true, seval, Nat.reduceLeDiff, Nat.reduceEqDiff, reduceCtorEq, ↓reduceIte, reduceCtorEq, fmN, fm0, take_N, toN1, slN_nil, xor8, and8, zero8, encF, encN, slN, cfg0, get_flat_part lenN, get_flat_drop lenN, len_flat lenN, h]
      refine endK.ret ?_ (by first | rfl | simp [bel_LN, fmN, fm0, belF, belN, bel_Ns, bel_slN]); simp [evRes, getT, retV, Tryz.f30,  evP, h]
    · refine PC.walk tok mixed cfg0 Tryz.func30 rfl Tryz.call30 (by simp [bel_LN, fmN, fm0, belF, belN, bel_Ns, bel_slN]) (by first | rfl | simp [bel_LN, fmN, fm0, belF, belN, bel_Ns, bel_slN]) ?_; simp (config := { maxSteps := 2000000 }) -implicitDefEqProofs +contextual (disch := first | assumption | omega | decide +kernel) only [push_cast, ↓capI, br2_true, br2_false, frk_tt, frk_tf, frk_f, frkD_tt, frkD_tf, frkD_f, pk2_true, pk2_false, imp_true, seval, Nat.reduceLeDiff, Nat.reduceEqDiff, reduceCtorEq, ↓reduceIte, reduceCtorEq, fmN, fm0, take_N, toN1, slN_nil, xor8, and8, zero8, encF, encN, slN, cfg0, get_flat_part lenN, get_flat_drop lenN, len_flat lenN, Tryz.ntmps30]
      simp (config := { maxSteps := 2000000 }) -implicitDefEqProofs +contextual (disch := first | assumption | omega | decide +kernel) only [push_cast, ↓capI, br2_true, br2_false, frk_tt, frk_tf, frk_f, frkD_tt, frkD_tf, frkD_f, pk2_true, pk2_false, imp_true, seval, Nat.reduceLeDiff, Nat.reduceEqDiff, reduceCtorEq, ↓reduceIte, reduceCtorEq, fmN, fm0, take_N, toN1, slN_nil, xor8, and8, zero8, encF, encN, slN, cfg0, get_flat_part lenN, get_flat_drop lenN, len_flat lenN, h]
      refine callG.pc1 (pc52 f x.fd) ?_
      simp (config := { maxSteps := 2000000 }) -implicitDefEqProofs +contextual (disch := first | assumption | omega | decide +kernel) only [push_cast, ↓capI, br2_true, br2_false, frk_tt, frk_tf, frk_f, frkD_tt, frkD_tf, frkD_f, pk2_true, pk2_false, imp_true, seval, Nat.reduceLeDiff, Nat.reduceEqDiff, reduceCtorEq, ↓reduceIte, reduceCtorEq, fmN, fm0, take_N, toN1, slN_nil, xor8, and8, zero8, encF, encN, slN, cfg0, get_flat_part lenN, get_flat_drop lenN, len_flat lenN, h]
      refine endK.ret ?_ (by first | rfl | simp [bel_LN, fmN, fm0, belF, belN, bel_Ns, bel_slN]); simp [evRes, getT, retV, Tryz.f30,  evP, h, xz8]
  | .un x p, r, hp, hl => by
    obtain ⟨h4, hp⟩ := hp
    rw [flat, List.cons_append, List.length_cons] at hl
    rw [flat, List.cons_append]
    have i1 := pc30 f p r hp (by omega)
    generalize flat p ++ r = t at hl i1 ⊢
    refine PC.walk tok mixed cfg0 Tryz.func30 rfl Tryz.call30 (by simp [bel_LN, fmN, fm0, belF, belN, bel_Ns, bel_slN]) (by first | rfl | simp [bel_LN, fmN, fm0, belF, belN, bel_Ns, bel_slN]) ?_; simp (config := { maxSteps := 2000000 }) -implicitDefEqProofs +contextual (disch := first | assumption | omega | decide +kernel) only [push_cast, ↓capI, br2_true, br2_false, frk_tt, frk_tf, frk_f, frkD_tt, frkD_tf, frkD_f, pk2_true, pk2_false, imp_true, seval, Nat.reduceLeDiff, Nat.reduceEqDiff, reduceCtorEq, ↓reduceIte, reduceCtorEq, fmN, fm0, take_N, toN1, slN_nil, xor8, and8, zero8, encF, encN, slN, cfg0, get_flat_part lenN, get_flat_drop lenN, len_flat lenN, Tryz.ntmps30]
    simp (config := { maxSteps := 2000000 }) -implicitDefEqProofs +contextual (disch := first | assumption | omega | decide +kernel) only [push_cast, ↓capI, br2_true, br2_false, frk_tt, frk_tf, frk_f, frkD_tt, frkD_tf, frkD_f, pk2_true, pk2_false, imp_true, seval, Nat.reduceLeDiff, Nat.reduceEqDiff, reduceCtorEq, ↓reduceIte, reduceCtorEq, fmN, fm0, take_N, toN1, slN_nil, xor8, and8, zero8, encF, encN, slN, cfg0, get_flat_part lenN, get_flat_drop lenN, len_flat lenN, h4]
    refine callO.pc i1 ?_
    simp (config := { maxSteps := 2000000 }) -implicitDefEqProofs +contextual (disch := first | assumption | omega | decide +kernel) only [push_cast, ↓capI, br2_true, br2_false, frk_tt, frk_tf, frk_f, frkD_tt, frkD_tf, frkD_f, pk2_true, pk2_false, imp_true, seval, Nat.reduceLeDiff, Nat.reduceEqDiff, reduceCtorEq, ↓reduceIte, reduceCtorEq, fmN, fm0, take_N, toN1, slN_nil, xor8, and8, zero8, encF, encN, slN, cfg0, get_flat_part lenN, get_flat_drop lenN, len_flat lenN, h4]
    refine endK.ret ?_ (by first | rfl | simp [bel_LN, fmN, fm0, belF, belN, bel_Ns, bel_slN]); simp [evRes, getT, retV, Tryz.f30,  evP]
  | .bin x p q, r, hp, hl => by
    obtain ⟨h4, hp, hq⟩ := hp
    rw [flat, List.cons_append, List.length_cons, List.append_assoc] at hl
    rw [flat, List.cons_append, List.append_assoc]
    have i1 := pc30 f p (flat q ++ r) hp (by omega)
    have i2 := pc30 f q r hq (by rw [List.length_append] at hl; omega)
    have hl2 : (flat q ++ r).length ≤ 4000000 := by rw [List.length_append] at hl; omega
    generalize flat q ++ r = u at hl hl2 i1 i2 ⊢
    generalize flat p ++ u = t at hl i1 ⊢
    rcases h4 with h | h
    · refine PC.walk tok mixed cfg0 Tryz.func30 rfl Tryz.call30 (by simp [bel_LN, fmN, fm0, belF, belN, bel_Ns, bel_slN]) (by first | rfl | simp [bel_LN, fmN, fm0, belF, belN, bel_Ns, bel_slN]) ?_; simp (config := { maxSteps := 2000000 }) -implicitDefEqProofs +contextual (disch := first | assumption | omega | decide +kernel) only [push_cast, ↓capI, br2_true, br2_false, frk_tt, frk_tf, frk_f, frkD_tt, frkD_tf, frkD_f, pk2_true, pk2_false, imp_true, seval, Nat.reduceLeDiff, Nat.reduceEqDiff, reduceCtorEq, ↓reduceIte, reduceCtorEq, fmN, fm0, take_N, toN1, slN_nil, xor8, and8, zero8, encF, encN, slN, cfg0, get_flat_part lenN, get_flat_drop lenN, len_flat lenN, Tryz.ntmps30]
      simp (config := { maxSteps := 2000000 }) -implicitDefEqProofs +contextual (disch := first | assumption | omega | decide +kernel) only [push_cast, ↓capI, br2_true, br2_false, frk_tt, frk_tf, frk_f, frkD_tt, frkD_tf, frkD_f, pk2_true, pk2_false, imp_true, seval, Nat.reduceLeDiff, Nat.reduceEqDiff, reduceCtorEq, ↓reduceIte, reduceCtorEq, fmN, fm0, take_N, toN1, slN_nil, xor8, and8, zero8, encF, encN, slN, cfg0, get_flat_part lenN, get_flat_drop lenN, len_flat lenN, h]
      refine callO.pc i1 ?_
      simp (config := { maxSteps := 2000000 }) -implicitDefEqProofs +contextual (disch := first | assumption | omega | decide +kernel) only [push_cast, ↓capI, br2_true, br2_false, frk_tt, frk_tf, frk_f, frkD_tt, frkD_tf, frkD_f, pk2_true, pk2_false, imp_true, seval, Nat.reduceLeDiff, Nat.reduceEqDiff, reduceCtorEq, ↓reduceIte, reduceCtorEq, fmN, fm0, take_N, toN1, slN_nil, xor8, and8, zero8, encF, encN, slN, cfg0, get_flat_part lenN, get_flat_drop lenN, len_flat lenN, h]
      refine callO.pc i2 ?_
      cases hb : evP f p
      · simp (config := { maxSteps := 2000000 }) -implicitDefEqProofs +contextual (disch := first | assumption | omega | decide +kernel) only [push_cast, ↓capI, br2_true, br2_false, frk_tt, frk_tf, frk_f, frkD_tt, frkD_tf, frkD_f, pk2_true, pk2_false, imp_true, seval, Nat.reduceLeDiff, Nat.reduceEqDiff, reduceCtorEq, ↓reduceIte, reduceCtorEq, fmN, fm0, take_N, toN1, slN_nil, xor8, and8, zero8, encF, encN, slN, cfg0, get_flat_part lenN, get_flat_drop lenN, len_flat lenN, h]
        refine endK.ret ?_ (by first | rfl | simp [bel_LN, fmN, fm0, belF, belN, bel_Ns, bel_slN]); simp [evRes, getT, retV, Tryz.f30,  evP, h, hb]
      · simp (config := { maxSteps := 2000000 }) -implicitDefEqProofs +contextual (disch := first | assumption | omega | decide +kernel) only [push_cast, ↓capI, br2_true, br2_false, frk_tt, frk_tf, frk_f, frkD_tt, frkD_tf, frkD_f, pk2_true, pk2_false, imp_true, seval, Nat.reduceLeDiff, Nat.reduceEqDiff, reduceCtorEq, ↓reduceIte, reduceCtorEq, fmN, fm0, take_N, toN1, slN_nil, xor8, and8, zero8, encF, encN, slN, cfg0, get_flat_part lenN, get_flat_drop lenN, len_flat lenN, h]
        refine endK.ret ?_ (by first | rfl | simp [bel_LN, fmN, fm0, belF, belN, bel_Ns, bel_slN]); simp [evRes, getT, retV, Tryz.f30,  evP, h, hb]
    · refine PC.walk tok mixed cfg0 Tryz.func30 rfl Tryz.call30 (by simp [bel_LN, fmN, fm0, belF, belN, bel_Ns, bel_slN]) (by first | rfl | simp [bel_LN, fmN, fm0, belF, belN, bel_Ns, bel_slN]) ?_; simp (config := { maxSteps := 2000000 }) -implicitDefEqProofs +contextual (disch := first | assumption | omega | decide +kernel) only [push_cast, ↓capI, br2_true, br2_false, frk_tt, frk_tf, frk_f, frkD_tt, frkD_tf, frkD_f, pk2_true, pk2_false, imp_true, seval, Nat.reduceLeDiff, Nat.reduceEqDiff, reduceCtorEq, ↓reduceIte, reduceCtorEq, fmN, fm0, take_N, toN1, slN_nil, xor8, and8, zero8, encF, encN, slN, cfg0, get_flat_part lenN, get_flat_drop lenN, len_flat lenN, Tryz.ntmps30]
      simp (config := { maxSteps := 2000000 }) -implicitDefEqProofs +contextual (disch := first | assumption | omega | decide +kernel) only [push_cast, ↓capI, br2_true, br2_false, frk_tt, frk_tf, frk_f, frkD_tt, frkD_tf, frkD_f, pk2_true, pk2_false, imp_true, seval, Nat.reduceLeDiff, Nat.reduceEqDiff, reduceCtorEq, ↓reduceIte, reduceCtorEq, fmN, fm0, take_N, toN1, slN_nil, xor8, and8, zero8, encF, encN, slN, cfg0, get_flat_part lenN, get_flat_drop lenN, len_flat lenN, h]
      refine callO.pc i1 ?_
      simp (config := { maxSteps := 2000000 }) -implicitDefEqProofs +contextual (disch := first | assumption | omega | decide +kernel) only [push_cast, ↓capI, br2_true, br2_false, frk_tt, frk_tf, frk_f, frkD_tt, frkD_tf, frkD_f, pk2_true, pk2_false, imp_true, seval, Nat.reduceLeDiff, Nat.reduceEqDiff, reduceCtorEq, ↓reduceIte, reduceCtorEq, fmN, fm0, take_N, toN1, slN_nil, xor8, and8, zero8, encF, encN, slN, cfg0, get_flat_part lenN, get_flat_drop lenN, len_flat lenN, h]
      refine callO.pc i2 ?_
      cases hb : evP f p
      · simp (config := { maxSteps := 2000000 }) -implicitDefEqProofs +contextual (disch := first | assumption | omega | decide +kernel) only [push_cast, ↓capI, br2_true, br2_false, frk_tt, frk_tf, frk_f, frkD_tt, frkD_tf, frkD_f, pk2_true, pk2_false, imp_true, seval, Nat.reduceLeDiff, Nat.reduceEqDiff, reduceCtorEq, ↓reduceIte, reduceCtorEq, fmN, fm0, take_N, toN1, slN_nil, xor8, and8, zero8, encF, encN, slN, cfg0, get_flat_part lenN, get_flat_drop lenN, len_flat lenN, h]
        refine endK.ret ?_ (by first | rfl | simp [bel_LN, fmN, fm0, belF, belN, bel_Ns, bel_slN]); simp [evRes, getT, retV, Tryz.f30,  evP, h, hb]
      · simp (config := { maxSteps := 2000000 }) -implicitDefEqProofs +contextual (disch := first | assumption | omega | decide +kernel) only [push_cast, ↓capI, br2_true, br2_false, frk_tt, frk_tf, frk_f, frkD_tt, frkD_tf, frkD_f, pk2_true, pk2_false, imp_true, seval, Nat.reduceLeDiff, Nat.reduceEqDiff, reduceCtorEq, ↓reduceIte, reduceCtorEq, fmN, fm0, take_N, toN1, slN_nil, xor8, and8, zero8, encF, encN, slN, cfg0, get_flat_part lenN, get_flat_drop lenN, len_flat lenN, h]
        refine endK.ret ?_ (by first | rfl | simp [bel_LN, fmN, fm0, belF, belN, bel_Ns, bel_slN]); simp [evRes, getT, retV, Tryz.f30,  evP, h, hb]
theorem mask8 (a v m : UInt8) (h : v &&& ~~~ m = 0) : ((a ^^^ v) &&& m = 0) ↔ (a &&& m = v) := by
  have h' := UInt8.toBitVec_inj.2 h
  simp only [UInt8.toBitVec_and, UInt8.toBitVec_not] at h'
  have hq : ∀ i, i < 8 → (v.toBitVec.getLsbD i && !m.toBitVec.getLsbD i) = false := by
    intro i hi
    have hb := congrArg (fun x => x.getLsbD i) h'
    simp only [BitVec.getLsbD_and, BitVec.getLsbD_not] at hb
    simp only [hi, decide_true, Bool.true_and] at hb
    simpa using hb
  constructor
  · intro h
    apply UInt8.toBitVec_inj.1
    have h2 := UInt8.toBitVec_inj.2 h
    simp only [UInt8.toBitVec_and, UInt8.toBitVec_xor] at h2 ⊢
    apply BitVec.eq_of_getLsbD_eq
    intro i hi
    have hb := congrArg (fun x => x.getLsbD i) h2
    have hc := hq i hi
    simp only [BitVec.getLsbD_and, BitVec.getLsbD_xor] at hb ⊢
    revert hb hc
    cases v.toBitVec.getLsbD i <;> cases m.toBitVec.getLsbD i <;> cases a.toBitVec.getLsbD i <;> simp
  · intro h
    apply UInt8.toBitVec_inj.1
    have h2 := UInt8.toBitVec_inj.2 h
    simp only [UInt8.toBitVec_and, UInt8.toBitVec_xor] at h2 ⊢
    apply BitVec.eq_of_getLsbD_eq
    intro i hi
    have hb := congrArg (fun x => x.getLsbD i) h2
    have hc := hq i hi
    simp only [BitVec.getLsbD_and, BitVec.getLsbD_xor] at hb ⊢
    revert hb hc
    cases v.toBitVec.getLsbD i <;> cases m.toBitVec.getLsbD i <;> cases a.toBitVec.getLsbD i <;> simp
theorem leaf_bad {x : Nd} (h : x.op = 3) (hc : chk1 x = 0) : (0 ≤ x.fd ∧ x.fd ≤ 2) ∧ x.v &&& ~~~ x.m = 0 := by
  rw [chk1, h, if_neg (by decide)] at hc
  split at hc
  · cases hc
  split at hc
  · cases hc
  rename_i h1 h2
  refine ⟨?_, ?_⟩
  · by_cases h3 : x.fd < 0
    · exact absurd ⟨rfl, .inl h3⟩ h1
    · by_cases h4 : 2 < x.fd
      · exact absurd ⟨rfl, .inr h4⟩ h1
      · omega
  · have : ¬ badN x = true := fun h => h2 ⟨rfl, h⟩
    rw [badN] at this
    simpa using this
def evalL (f : Fl) (l : List Nd) (b : Bool) : Prop := (checkP l = 0 ∧ ∃ p, okP p ∧ l = flat p ∧ b = evP f p) ∨ (checkP l ≠ 0 ∧ b = false)
theorem pc16 (f : Fl) (l : List Nd) (hl : l.length ≤ 4000000) (b : Bool) (h : evalL f l b) : PC Tryz.prog 16 [slN l, .agg (encF f)] (.bool b) := by
  rcases h with ⟨hc, p, hp, e, hb⟩ | ⟨hc, hb⟩
  · have i1 := pc30 f p [] hp (by rw [List.append_nil, ← e]; exact hl)
    rw [List.append_nil, ← e] at i1
    have i0 := pc19 l hl
    rw [hc] at i0
    refine PC.walk tok mixed cfg0 Tryz.func16 rfl Tryz.call16 (by simp [bel_LN, fmN, fm0, belF, belN, bel_Ns, bel_slN]) (by first | rfl | simp [bel_LN, fmN, fm0, belF, belN, bel_Ns, bel_slN]) ?_; simp (config := { maxSteps := 2000000 }) -implicitDefEqProofs +contextual (disch := first | assumption | omega | decide +kernel) only [push_cast, ↓capI, br2_true, br2_false, frk_tt, frk_tf, frk_f, frkD_tt, frkD_tf, frkD_f, pk2_true, pk2_false, imp_true, seval, Nat.reduceLeDiff, Nat.reduceEqDiff, reduceCtorEq, ↓reduceIte, reduceCtorEq, fmN, fm0, take_N, toN1, slN_nil, xor8, and8, zero8, encF, encN, slN, cfg0, get_flat_part lenN, get_flat_drop lenN, len_flat lenN, Tryz.ntmps16]
    refine callO.pc i0 ?_
    simp (config := { maxSteps := 2000000 }) -implicitDefEqProofs +contextual (disch := first | assumption | omega | decide +kernel) only [push_cast, ↓capI, br2_true, br2_false, frk_tt, frk_tf, frk_f, frkD_tt, frkD_tf, frkD_f, pk2_true, pk2_false, imp_true, seval, Nat.reduceLeDiff, Nat.reduceEqDiff, reduceCtorEq, ↓reduceIte, reduceCtorEq, fmN, fm0, take_N, toN1, slN_nil, xor8, and8, zero8, encF, encN, slN, cfg0, get_flat_part lenN, get_flat_drop lenN, len_flat lenN]
    refine callO.pc i1 ?_
    simp (config := { maxSteps := 2000000 }) -implicitDefEqProofs +contextual (disch := first | assumption | omega | decide +kernel) only [push_cast, ↓capI, br2_true, br2_false, frk_tt, frk_tf, frk_f, frkD_tt, frkD_tf, frkD_f, pk2_true, pk2_false, imp_true, seval, Nat.reduceLeDiff, Nat.reduceEqDiff, reduceCtorEq, ↓reduceIte, reduceCtorEq, fmN, fm0, take_N, toN1, slN_nil, xor8, and8, zero8, encF, encN, slN, cfg0, get_flat_part lenN, get_flat_drop lenN, len_flat lenN]
    refine endK.ret ?_ (by first | rfl | simp [bel_LN, fmN, fm0, belF, belN, bel_Ns, bel_slN]); simp [evRes, getT, retV, Tryz.f16,  hb]
  · refine PC.walk tok mixed cfg0 Tryz.func16 rfl Tryz.call16 (by simp [bel_LN, fmN, fm0, belF, belN, bel_Ns, bel_slN]) (by first | rfl | simp [bel_LN, fmN, fm0, belF, belN, bel_Ns, bel_slN]) ?_; simp (config := { maxSteps := 2000000 }) -implicitDefEqProofs +contextual (disch := first | assumption | omega | decide +kernel) only [push_cast, ↓capI, br2_true, br2_false, frk_tt, frk_tf, frk_f, frkD_tt, frkD_tf, frkD_f, pk2_true, pk2_false, imp_true, seval, Nat.reduceLeDiff, Nat.reduceEqDiff, reduceCtorEq, ↓reduceIte, reduceCtorEq, fmN, fm0, take_N, toN1, slN_nil, xor8, and8, zero8, encF, encN, slN, cfg0, get_flat_part lenN, get_flat_drop lenN, len_flat lenN, Tryz.ntmps16]
    refine callO.pc (pc19 l hl) ?_
    simp (config := { maxSteps := 2000000 }) -implicitDefEqProofs +contextual (disch := first | assumption | omega | decide +kernel) only [push_cast, ↓capI, br2_true, br2_false, frk_tt, frk_tf, frk_f, frkD_tt, frkD_tf, frkD_f, pk2_true, pk2_false, imp_true, seval, Nat.reduceLeDiff, Nat.reduceEqDiff, reduceCtorEq, ↓reduceIte, reduceCtorEq, fmN, fm0, take_N, toN1, slN_nil, xor8, and8, zero8, encF, encN, slN, cfg0, get_flat_part lenN, get_flat_drop lenN, len_flat lenN, hc]
    refine endK.ret ?_ (by first | rfl | simp [bel_LN, fmN, fm0, belF, belN, bel_Ns, bel_slN]); simp [evRes, getT, retV, Tryz.f16,  hb]
end Go.Proofs.YtllfdnbnkncnhaaGreatDoor

/- Chapter 44: the text of a predicate, program and reference. -/
set_option maxRecDepth 100000
set_option maxHeartbeats 4000000
set_option linter.all false
namespace Go.Proofs.YtllfdnbnkncnhaaGreatDoor
open Go.Vm

def inn (k need : Int) (s : List UInt8) : List UInt8 := if k < need then [40] ++ s ++ [41] else s
theorem inn_len (k need : Int) (s : List UInt8) : (inn k need s).length ≤ s.length + 2 := by
  unfold inn
  split
  · simp
  · omega
def prec : Pr → Int
  | .leaf _ => 3
  | .un _ _ => 3
  | .bin x _ _ => if x.op = 5 then 2 else 1
def tx : Pr → List UInt8
  | .leaf x => if x.op = 1 then [116, 114, 117, 101] else if x.op = 2 then [102, 97, 108, 115, 101] else
      fname x.fd ++ [61] ++ dec8 x.v.toNat ++ (if x.m = 255 then [] else [47] ++ dec8 x.m.toNat)
  | .un _ p => [33] ++ inn (prec p) 3 (tx p)
  | .bin x p q => if x.op = 5 then inn (prec p) 2 (tx p) ++ [38] ++ inn (prec q) 3 (tx q) else inn (prec p) 1 (tx p) ++ [124] ++ inn (prec q) 2 (tx q)
theorem fname_len (i : Int) : (fname i).length ≤ 4 := by
  unfold fname
  split
  · decide
  split <;> decide
theorem leaf_len (x : Nd) : (tx (.leaf x)).length ≤ 12 := by
  have h1 := fname_len x.fd
  have h2 := dec8_len x.v.toNat
  have h3 := dec8_len x.m.toNat
  rw [tx]
  split
  · decide
  split
  · decide
  split
  · (try simp only [List.length_append, List.length_cons, List.length_nil]); omega
  · (try simp only [List.length_append, List.length_cons, List.length_nil]); omega
theorem tx_len : ∀ p : Pr, (tx p).length ≤ 16 * (flat p).length
  | .leaf x => by
    have := leaf_len x
    rw [flat, List.length_singleton]
    omega
  | .un x p => by
    have h1 := tx_len p
    have h2 := inn_len (prec p) 3 (tx p)
    rw [tx, flat]
    (try simp only [List.length_append, List.length_cons, List.length_nil]); omega
  | .bin x p q => by
    have h1 := tx_len p
    have h2 := tx_len q
    have h3 := inn_len (prec p) 2 (tx p)
    have h4 := inn_len (prec p) 1 (tx p)
    have h5 := inn_len (prec q) 2 (tx q)
    have h6 := inn_len (prec q) 3 (tx q)
    rw [tx, flat]
    split
    · (try simp only [List.length_append, List.length_cons, List.length_nil]); omega
    · (try simp only [List.length_append, List.length_cons, List.length_nil]); omega
def encP (p : Pr) : V := .agg [.str (tx p), .int .i64 (prec p)]
theorem bel_encP {n : Nat} {p : Pr} : (encP p).bel n = true := rfl
theorem pc45 (s : List UInt8) (k need : Int) (hs : s.length ≤ 4000000000) : PC Tryz.prog 45 [.agg [.str s, .int .i64 k], .int .i64 need] (.str (inn k need s)) := by
  by_cases h : k < need
  · refine PC.walk tok mixed cfg0 Tryz.func45 rfl Tryz.call45 (by simp [bel_encP, bel_LN, fmN, fm0, belN, bel_Ns, bel_slN]) (by first | rfl | simp [bel_encP, bel_LN, fmN, fm0, belN, bel_Ns, bel_slN]) ?_; simp (config := { maxSteps := 2000000 }) -implicitDefEqProofs +contextual (disch := first | assumption | omega | decide +kernel) only [push_cast, ↓capI, br2_true, br2_false, frk_tt, frk_tf, frk_f, frkD_tt, frkD_tf, frkD_f, pk2_true, pk2_false, imp_true, seval, Nat.reduceLeDiff, Nat.reduceEqDiff, reduceCtorEq, ↓reduceIte, reduceCtorEq, fmN, fm0, take_N, toN1, slN_nil, encN, slN, cfg0, get_flat_part lenN, get_flat_drop lenN, len_flat lenN, Tryz.ntmps45]
    (try refine ⟨by (try simp only [List.length_append, List.length_cons, List.length_nil]); omega, fun _ => ?_⟩)
    (try simp (config := { maxSteps := 2000000 }) -implicitDefEqProofs +contextual (disch := first | assumption | omega | decide +kernel) only [push_cast, ↓capI, br2_true, br2_false, frk_tt, frk_tf, frk_f, frkD_tt, frkD_tf, frkD_f, pk2_true, pk2_false, imp_true, seval, Nat.reduceLeDiff, Nat.reduceEqDiff, reduceCtorEq, ↓reduceIte, reduceCtorEq, fmN, fm0, take_N, toN1, slN_nil, encN, slN, cfg0, get_flat_part lenN, get_flat_drop lenN, len_flat lenN])
    (try refine ⟨by (try simp only [List.length_append, List.length_cons, List.length_nil]); omega, fun _ => ?_⟩)
    refine endK.ret ?_ (by first | rfl | simp [bel_encP, bel_LN, fmN, fm0, belN, bel_Ns, bel_slN]); simp [evRes, getT, retV, Tryz.f45,  inn, h]
  · refine PC.walk tok mixed cfg0 Tryz.func45 rfl Tryz.call45 (by simp [bel_encP, bel_LN, fmN, fm0, belN, bel_Ns, bel_slN]) (by first | rfl | simp [bel_encP, bel_LN, fmN, fm0, belN, bel_Ns, bel_slN]) ?_; simp (config := { maxSteps := 2000000 }) -implicitDefEqProofs +contextual (disch := first | assumption | omega | decide +kernel) only [push_cast, ↓capI, br2_true, br2_false, frk_tt, frk_tf, frk_f, frkD_tt, frkD_tf, frkD_f, pk2_true, pk2_false, imp_true, seval, Nat.reduceLeDiff, Nat.reduceEqDiff, reduceCtorEq, ↓reduceIte, reduceCtorEq, fmN, fm0, take_N, toN1, slN_nil, encN, slN, cfg0, get_flat_part lenN, get_flat_drop lenN, len_flat lenN, Tryz.ntmps45]
    refine endK.ret ?_ (by first | rfl | simp [bel_encP, bel_LN, fmN, fm0, belN, bel_Ns, bel_slN]); simp [evRes, getT, retV, Tryz.f45,  inn, h]
theorem m255 (m : UInt8) : ((m.toNat : Int) = 255) = (m = 255) := propext ⟨fun h => UInt8.toNat_inj.1 (by simp; omega), fun h => by rw [h]; rfl⟩
theorem pc34f (x : Nd) (r : List Nd) (h : x.op = 3) (hl' : r.length + 1 ≤ 4000000) : PC Tryz.prog 25 [slN (x :: r)] (.tup [encP (.leaf x), slN r]) := by
  have h1 := fname_len x.fd
  have h2 := dec8_len x.v.toNat
  have h3 := dec8_len x.m.toNat
  have hv := x.v.toNat_lt
  have hm := x.m.toNat_lt
  refine PC.walk tok mixed cfg0 Tryz.func25 rfl Tryz.call25 (by simp [bel_encP, bel_LN, fmN, fm0, belN, bel_Ns, bel_slN]) (by first | rfl | simp [bel_encP, bel_LN, fmN, fm0, belN, bel_Ns, bel_slN]) ?_; simp (config := { maxSteps := 2000000 }) -implicitDefEqProofs +contextual (disch := first | assumption | omega | decide +kernel) only [push_cast, ↓capI, br2_true, br2_false, frk_tt, frk_tf, frk_f, frkD_tt, frkD_tf, frkD_f, pk2_true, pk2_false, imp_true, seval, Nat.reduceLeDiff, Nat.reduceEqDiff, reduceCtorEq, ↓reduceIte, reduceCtorEq, fmN, fm0, take_N, toN1, slN_nil, encN, slN, cfg0, get_flat_part lenN, get_flat_drop lenN, len_flat lenN, Tryz.ntmps25]
  simp (config := { maxSteps := 2000000 }) -implicitDefEqProofs +contextual (disch := first | assumption | omega | decide +kernel) only [push_cast, ↓capI, br2_true, br2_false, frk_tt, frk_tf, frk_f, frkD_tt, frkD_tf, frkD_f, pk2_true, pk2_false, imp_true, seval, Nat.reduceLeDiff, Nat.reduceEqDiff, reduceCtorEq, ↓reduceIte, reduceCtorEq, fmN, fm0, take_N, toN1, slN_nil, encN, slN, cfg0, get_flat_part lenN, get_flat_drop lenN, len_flat lenN, h]
  refine callG.pc1 (pc43 x.fd) ?_
  simp (config := { maxSteps := 2000000 }) -implicitDefEqProofs +contextual (disch := first | assumption | omega | decide +kernel) only [push_cast, ↓capI, br2_true, br2_false, frk_tt, frk_tf, frk_f, frkD_tt, frkD_tf, frkD_f, pk2_true, pk2_false, imp_true, seval, Nat.reduceLeDiff, Nat.reduceEqDiff, reduceCtorEq, ↓reduceIte, reduceCtorEq, fmN, fm0, take_N, toN1, slN_nil, encN, slN, cfg0, get_flat_part lenN, get_flat_drop lenN, len_flat lenN]
  (try refine ⟨by (try simp only [List.length_append, List.length_cons, List.length_nil]); omega, fun _ => ?_⟩)
  refine callG.pc1 (pc44 x.v.toNat hv) ?_
  simp (config := { maxSteps := 2000000 }) -implicitDefEqProofs +contextual (disch := first | assumption | omega | decide +kernel) only [push_cast, ↓capI, br2_true, br2_false, frk_tt, frk_tf, frk_f, frkD_tt, frkD_tf, frkD_f, pk2_true, pk2_false, imp_true, seval, Nat.reduceLeDiff, Nat.reduceEqDiff, reduceCtorEq, ↓reduceIte, reduceCtorEq, fmN, fm0, take_N, toN1, slN_nil, encN, slN, cfg0, get_flat_part lenN, get_flat_drop lenN, len_flat lenN]
  (try refine ⟨by (try simp only [List.length_append, List.length_cons, List.length_nil]); omega, fun _ => ?_⟩)
  by_cases hm5 : x.m = 255
  · simp (config := { maxSteps := 2000000 }) -implicitDefEqProofs +contextual (disch := first | assumption | omega | decide +kernel) only [push_cast, ↓capI, br2_true, br2_false, frk_tt, frk_tf, frk_f, frkD_tt, frkD_tf, frkD_f, pk2_true, pk2_false, imp_true, seval, Nat.reduceLeDiff, Nat.reduceEqDiff, reduceCtorEq, ↓reduceIte, reduceCtorEq, fmN, fm0, take_N, toN1, slN_nil, encN, slN, cfg0, get_flat_part lenN, get_flat_drop lenN, len_flat lenN, m255, hm5]
    refine endK.ret ?_ (by first | rfl | simp [bel_encP, bel_LN, fmN, fm0, belN, bel_Ns, bel_slN]); simp [bel_encP, bel_LN, fmN, fm0, belN, bel_Ns, bel_slN, fzs_ok, imp, lenOK_iff, List.take_of_length_le, evRes, getT, getO, setO, fzs, fz, fzH, Nat.beq, retV, Res.then, ldT, ldR, mkV, getV, fmN, fm0, take_N, toN1, slN_nil, tt_3, tt_4, tt_5, tt_9, tt_22, tt_42, tt_26, tt_43, tt_36, tt_63, encN, slN, cfg0, get_flat_part lenN, get_flat_drop lenN, len_flat lenN, Tryz.f25,  encP, tx, prec, h, hm5]
  · simp (config := { maxSteps := 2000000 }) -implicitDefEqProofs +contextual (disch := first | assumption | omega | decide +kernel) only [push_cast, ↓capI, br2_true, br2_false, frk_tt, frk_tf, frk_f, frkD_tt, frkD_tf, frkD_f, pk2_true, pk2_false, imp_true, seval, Nat.reduceLeDiff, Nat.reduceEqDiff, reduceCtorEq, ↓reduceIte, reduceCtorEq, fmN, fm0, take_N, toN1, slN_nil, encN, slN, cfg0, get_flat_part lenN, get_flat_drop lenN, len_flat lenN, m255, hm5]
    refine callO.pc (pc44 x.m.toNat hm) ?_
    simp (config := { maxSteps := 2000000 }) -implicitDefEqProofs +contextual (disch := first | assumption | omega | decide +kernel) only [push_cast, ↓capI, br2_true, br2_false, frk_tt, frk_tf, frk_f, frkD_tt, frkD_tf, frkD_f, pk2_true, pk2_false, imp_true, seval, Nat.reduceLeDiff, Nat.reduceEqDiff, reduceCtorEq, ↓reduceIte, reduceCtorEq, fmN, fm0, take_N, toN1, slN_nil, encN, slN, cfg0, get_flat_part lenN, get_flat_drop lenN, len_flat lenN]
    (try refine ⟨by (try simp only [List.length_append, List.length_cons, List.length_nil]); omega, fun _ => ?_⟩)
    (try simp (config := { maxSteps := 2000000 }) -implicitDefEqProofs +contextual (disch := first | assumption | omega | decide +kernel) only [push_cast, ↓capI, br2_true, br2_false, frk_tt, frk_tf, frk_f, frkD_tt, frkD_tf, frkD_f, pk2_true, pk2_false, imp_true, seval, Nat.reduceLeDiff, Nat.reduceEqDiff, reduceCtorEq, ↓reduceIte, reduceCtorEq, fmN, fm0, take_N, toN1, slN_nil, encN, slN, cfg0, get_flat_part lenN, get_flat_drop lenN, len_flat lenN])
    (try refine ⟨by (try simp only [List.length_append, List.length_cons, List.length_nil]); omega, fun _ => ?_⟩)
    refine endK.ret ?_ (by first | rfl | simp [bel_encP, bel_LN, fmN, fm0, belN, bel_Ns, bel_slN]); simp [bel_encP, bel_LN, fmN, fm0, belN, bel_Ns, bel_slN, fzs_ok, imp, lenOK_iff, List.take_of_length_le, evRes, getT, getO, setO, fzs, fz, fzH, Nat.beq, retV, Res.then, ldT, ldR, mkV, getV, fmN, fm0, take_N, toN1, slN_nil, tt_3, tt_4, tt_5, tt_9, tt_22, tt_42, tt_26, tt_43, tt_36, tt_63, encN, slN, cfg0, get_flat_part lenN, get_flat_drop lenN, len_flat lenN, Tryz.f25,  encP, tx, prec, h, hm5]
theorem pc25 : ∀ (p : Pr) (r : List Nd), okP p → (flat p ++ r).length ≤ 4000000 → PC Tryz.prog 25 [slN (flat p ++ r)] (.tup [encP p, slN r])
  | .leaf x, r, hp, hl => by
    obtain ⟨h0, hc⟩ := hp
    have hl' : r.length + 1 ≤ 4000000 := hl
    show PC Tryz.prog 25 [slN (x :: r)] _
    rcases h0 with h | h | h
    · refine PC.walk tok mixed cfg0 Tryz.func25 rfl Tryz.call25 (by simp [bel_encP, bel_LN, fmN, fm0, belN, bel_Ns, bel_slN]) (by first | rfl | simp [bel_encP, bel_LN, fmN, fm0, belN, bel_Ns, bel_slN]) ?_; simp (config := { maxSteps := 2000000 }) -implicitDefEqProofs +contextual (disch := first | assumption | omega | decide +kernel) only [push_cast, ↓capI, br2_true, br2_false, frk_tt, frk_tf, frk_f, frkD_tt, frkD_tf, frkD_f, pk2_true, pk2_false, imp_true, seval, Nat.reduceLeDiff, Nat.reduceEqDiff, reduceCtorEq, ↓reduceIte, reduceCtorEq, fmN, fm0, take_N, toN1, slN_nil, encN, slN, cfg0, get_flat_part lenN, get_flat_drop lenN, len_flat lenN, Tryz.ntmps25]
      simp (config := { maxSteps := 2000000 }) -implicitDefEqProofs +contextual (disch := first | assumption | omega | decide +kernel) only [push_cast, ↓capI, br2_true, br2_false, frk_tt, frk_tf, frk_f, frkD_tt, frkD_tf, frkD_f, pk2_true, pk2_false, imp_true, seval, Nat.reduceLeDiff, Nat.reduceEqDiff, reduceCtorEq, ↓reduceIte, reduceCtorEq, fmN, fm0, take_N, toN1, slN_nil, encN, slN, cfg0, get_flat_part lenN, get_flat_drop lenN, len_flat lenN, h]
      refine endK.ret ?_ (by first | rfl | simp [bel_encP, bel_LN, fmN, fm0, belN, bel_Ns, bel_slN]); simp [bel_encP, bel_LN, fmN, fm0, belN, bel_Ns, bel_slN, fzs_ok, imp, lenOK_iff, List.take_of_length_le, evRes, getT, getO, setO, fzs, fz, fzH, Nat.beq, retV, Res.then, ldT, ldR, mkV, getV, fmN, fm0, take_N, toN1, slN_nil, tt_3, tt_4, tt_5, tt_9, tt_22, tt_42, tt_26, tt_43, tt_36, tt_63, encN, slN, cfg0, get_flat_part lenN, get_flat_drop lenN, len_flat lenN, Tryz.f25,  encP, tx, prec, h]
    · refine PC.walk tok mixed cfg0 Tryz.func25 rfl Tryz.call25 (by simp [bel_encP, bel_LN, fmN, fm0, belN, bel_Ns, bel_slN]) (by first | rfl | simp [bel_encP, bel_LN, fmN, fm0, belN, bel_Ns, bel_slN]) ?_; simp (config := { maxSteps := 2000000 }) -implicitDefEqProofs +contextual (disch := first | assumption | omega | decide +kernel) only [push_cast, ↓capI, br2_true, br2_false, frk_tt, frk_tf, frk_f, frkD_tt, frkD_tf, frkD_f, pk2_true, pk2_false, imp_true, seval, Nat.reduceLeDiff, Nat.reduceEqDiff, reduceCtorEq, ↓reduceIte, reduceCtorEq, fmN, fm0, take_N, toN1, slN_nil, encN, slN, cfg0, get_flat_part lenN, get_flat_drop lenN, len_flat lenN, Tryz.ntmps25]
      simp (config := { maxSteps := 2000000 }) -implicitDefEqProofs +contextual (disch := first | assumption | omega | decide +kernel) only [push_cast, ↓capI, br2_true, br2_false, frk_tt, frk_tf, frk_f, frkD_tt, frkD_tf, frkD_f, pk2_true, pk2_false, imp_true, seval, Nat.reduceLeDiff, Nat.reduceEqDiff, reduceCtorEq, ↓reduceIte, reduceCtorEq, fmN, fm0, take_N, toN1, slN_nil, encN, slN, cfg0, get_flat_part lenN, get_flat_drop lenN, len_flat lenN, h]
      refine endK.ret ?_ (by first | rfl | simp [bel_encP, bel_LN, fmN, fm0, belN, bel_Ns, bel_slN]); simp [bel_encP, bel_LN, fmN, fm0, belN, bel_Ns, bel_slN, fzs_ok, imp, lenOK_iff, List.take_of_length_le, evRes, getT, getO, setO, fzs, fz, fzH, Nat.beq, retV, Res.then, ldT, ldR, mkV, getV, fmN, fm0, take_N, toN1, slN_nil, tt_3, tt_4, tt_5, tt_9, tt_22, tt_42, tt_26, tt_43, tt_36, tt_63, encN, slN, cfg0, get_flat_part lenN, get_flat_drop lenN, len_flat lenN, Tryz.f25,  encP, tx, prec, h]
    · exact pc34f x r h hl'
  | .un x p, r, hp, hl => by
    obtain ⟨h4, hp⟩ := hp
    rw [flat, List.cons_append, List.length_cons, List.length_append] at hl
    rw [flat, List.cons_append]
    have hi := pc25 p r hp (by rw [List.length_append]; omega)
    have ht := tx_len p
    have hn := inn_len (prec p) 3 (tx p)
    rw [encP] at hi
    have hl2 : (flat p ++ r).length + 1 ≤ 4000000 := by rw [List.length_append]; omega
    generalize flat p ++ r = t at hl2 hi ⊢
    refine PC.walk tok mixed cfg0 Tryz.func25 rfl Tryz.call25 (by simp [bel_encP, bel_LN, fmN, fm0, belN, bel_Ns, bel_slN]) (by first | rfl | simp [bel_encP, bel_LN, fmN, fm0, belN, bel_Ns, bel_slN]) ?_; simp (config := { maxSteps := 2000000 }) -implicitDefEqProofs +contextual (disch := first | assumption | omega | decide +kernel) only [push_cast, ↓capI, br2_true, br2_false, frk_tt, frk_tf, frk_f, frkD_tt, frkD_tf, frkD_f, pk2_true, pk2_false, imp_true, seval, Nat.reduceLeDiff, Nat.reduceEqDiff, reduceCtorEq, ↓reduceIte, reduceCtorEq, fmN, fm0, take_N, toN1, slN_nil, encN, slN, cfg0, get_flat_part lenN, get_flat_drop lenN, len_flat lenN, Tryz.ntmps25]
    simp (config := { maxSteps := 2000000 }) -implicitDefEqProofs +contextual (disch := first | assumption | omega | decide +kernel) only [push_cast, ↓capI, br2_true, br2_false, frk_tt, frk_tf, frk_f, frkD_tt, frkD_tf, frkD_f, pk2_true, pk2_false, imp_true, seval, Nat.reduceLeDiff, Nat.reduceEqDiff, reduceCtorEq, ↓reduceIte, reduceCtorEq, fmN, fm0, take_N, toN1, slN_nil, encN, slN, cfg0, get_flat_part lenN, get_flat_drop lenN, len_flat lenN, h4]
    refine callO.pc hi ?_
    simp (config := { maxSteps := 2000000 }) -implicitDefEqProofs +contextual (disch := first | assumption | omega | decide +kernel) only [push_cast, ↓capI, br2_true, br2_false, frk_tt, frk_tf, frk_f, frkD_tt, frkD_tf, frkD_f, pk2_true, pk2_false, imp_true, seval, Nat.reduceLeDiff, Nat.reduceEqDiff, reduceCtorEq, ↓reduceIte, reduceCtorEq, fmN, fm0, take_N, toN1, slN_nil, encN, slN, cfg0, get_flat_part lenN, get_flat_drop lenN, len_flat lenN, h4]
    refine callO.pc (pc45 (tx p) (prec p) 3 (by omega)) ?_
    simp (config := { maxSteps := 2000000 }) -implicitDefEqProofs +contextual (disch := first | assumption | omega | decide +kernel) only [push_cast, ↓capI, br2_true, br2_false, frk_tt, frk_tf, frk_f, frkD_tt, frkD_tf, frkD_f, pk2_true, pk2_false, imp_true, seval, Nat.reduceLeDiff, Nat.reduceEqDiff, reduceCtorEq, ↓reduceIte, reduceCtorEq, fmN, fm0, take_N, toN1, slN_nil, encN, slN, cfg0, get_flat_part lenN, get_flat_drop lenN, len_flat lenN]
    (try refine ⟨by (try simp only [List.length_append, List.length_cons, List.length_nil]); omega, fun _ => ?_⟩)
    refine endK.ret ?_ (by first | rfl | simp [bel_encP, bel_LN, fmN, fm0, belN, bel_Ns, bel_slN]); simp [bel_encP, bel_LN, fmN, fm0, belN, bel_Ns, bel_slN, fzs_ok, imp, lenOK_iff, List.take_of_length_le, evRes, getT, getO, setO, fzs, fz, fzH, Nat.beq, retV, Res.then, ldT, ldR, mkV, getV, fmN, fm0, take_N, toN1, slN_nil, tt_3, tt_4, tt_5, tt_9, tt_22, tt_42, tt_26, tt_43, tt_36, tt_63, encN, slN, cfg0, get_flat_part lenN, get_flat_drop lenN, len_flat lenN, Tryz.f25,  encP, tx, prec]
  | .bin x p q, r, hp, hl => by
    obtain ⟨h4, hp, hq⟩ := hp
    rw [flat, List.cons_append, List.length_cons, List.append_assoc, List.length_append, List.length_append] at hl
    rw [flat, List.cons_append, List.append_assoc]
    have i1 := pc25 p (flat q ++ r) hp (by rw [List.length_append, List.length_append]; omega)
    have i2 := pc25 q r hq (by rw [List.length_append]; omega)
    have t1 := tx_len p
    have t2 := tx_len q
    have n1 := inn_len (prec p) 2 (tx p)
    have n2 := inn_len (prec p) 1 (tx p)
    have n3 := inn_len (prec q) 2 (tx q)
    have n4 := inn_len (prec q) 3 (tx q)
    rw [encP] at i1 i2
    have hl2 : (flat q ++ r).length + 1 ≤ 4000000 := by rw [List.length_append]; omega
    have hl3 : (flat p ++ (flat q ++ r)).length + 1 ≤ 4000000 := by rw [List.length_append, List.length_append]; omega
    generalize flat q ++ r = u at hl2 hl3 i1 i2 ⊢
    generalize flat p ++ u = t at hl3 i1 ⊢
    rcases h4 with h | h
    · refine PC.walk tok mixed cfg0 Tryz.func25 rfl Tryz.call25 (by simp [bel_encP, bel_LN, fmN, fm0, belN, bel_Ns, bel_slN]) (by first | rfl | simp [bel_encP, bel_LN, fmN, fm0, belN, bel_Ns, bel_slN]) ?_; simp (config := { maxSteps := 2000000 }) -implicitDefEqProofs +contextual (disch := first | assumption | omega | decide +kernel) only [push_cast, ↓capI, br2_true, br2_false, frk_tt, frk_tf, frk_f, frkD_tt, frkD_tf, frkD_f, pk2_true, pk2_false, imp_true, seval, Nat.reduceLeDiff, Nat.reduceEqDiff, reduceCtorEq, ↓reduceIte, reduceCtorEq, fmN, fm0, take_N, toN1, slN_nil, encN, slN, cfg0, get_flat_part lenN, get_flat_drop lenN, len_flat lenN, Tryz.ntmps25]
      simp (config := { maxSteps := 2000000 }) -implicitDefEqProofs +contextual (disch := first | assumption | omega | decide +kernel) only [push_cast, ↓capI, br2_true, br2_false, frk_tt, frk_tf, frk_f, frkD_tt, frkD_tf, frkD_f, pk2_true, pk2_false, imp_true, seval, Nat.reduceLeDiff, Nat.reduceEqDiff, reduceCtorEq, ↓reduceIte, reduceCtorEq, fmN, fm0, take_N, toN1, slN_nil, encN, slN, cfg0, get_flat_part lenN, get_flat_drop lenN, len_flat lenN, h]
      refine callO.pc i1 ?_
      simp (config := { maxSteps := 2000000 }) -implicitDefEqProofs +contextual (disch := first | assumption | omega | decide +kernel) only [push_cast, ↓capI, br2_true, br2_false, frk_tt, frk_tf, frk_f, frkD_tt, frkD_tf, frkD_f, pk2_true, pk2_false, imp_true, seval, Nat.reduceLeDiff, Nat.reduceEqDiff, reduceCtorEq, ↓reduceIte, reduceCtorEq, fmN, fm0, take_N, toN1, slN_nil, encN, slN, cfg0, get_flat_part lenN, get_flat_drop lenN, len_flat lenN, h]
      refine callO.pc i2 ?_
      simp (config := { maxSteps := 2000000 }) -implicitDefEqProofs +contextual (disch := first | assumption | omega | decide +kernel) only [push_cast, ↓capI, br2_true, br2_false, frk_tt, frk_tf, frk_f, frkD_tt, frkD_tf, frkD_f, pk2_true, pk2_false, imp_true, seval, Nat.reduceLeDiff, Nat.reduceEqDiff, reduceCtorEq, ↓reduceIte, reduceCtorEq, fmN, fm0, take_N, toN1, slN_nil, encN, slN, cfg0, get_flat_part lenN, get_flat_drop lenN, len_flat lenN, h]
      refine callG.pc1 (pc45 (tx p) (prec p) 2 (by omega)) ?_
      simp (config := { maxSteps := 2000000 }) -implicitDefEqProofs +contextual (disch := first | assumption | omega | decide +kernel) only [push_cast, ↓capI, br2_true, br2_false, frk_tt, frk_tf, frk_f, frkD_tt, frkD_tf, frkD_f, pk2_true, pk2_false, imp_true, seval, Nat.reduceLeDiff, Nat.reduceEqDiff, reduceCtorEq, ↓reduceIte, reduceCtorEq, fmN, fm0, take_N, toN1, slN_nil, encN, slN, cfg0, get_flat_part lenN, get_flat_drop lenN, len_flat lenN]
      (try refine ⟨by (try simp only [List.length_append, List.length_cons, List.length_nil]); omega, fun _ => ?_⟩)
      refine callG.pc1 (pc45 (tx q) (prec q) 3 (by omega)) ?_
      simp (config := { maxSteps := 2000000 }) -implicitDefEqProofs +contextual (disch := first | assumption | omega | decide +kernel) only [push_cast, ↓capI, br2_true, br2_false, frk_tt, frk_tf, frk_f, frkD_tt, frkD_tf, frkD_f, pk2_true, pk2_false, imp_true, seval, Nat.reduceLeDiff, Nat.reduceEqDiff, reduceCtorEq, ↓reduceIte, reduceCtorEq, fmN, fm0, take_N, toN1, slN_nil, encN, slN, cfg0, get_flat_part lenN, get_flat_drop lenN, len_flat lenN]
      (try refine ⟨by (try simp only [List.length_append, List.length_cons, List.length_nil]); omega, fun _ => ?_⟩)
      refine endK.ret ?_ (by first | rfl | simp [bel_encP, bel_LN, fmN, fm0, belN, bel_Ns, bel_slN]); simp [bel_encP, bel_LN, fmN, fm0, belN, bel_Ns, bel_slN, fzs_ok, imp, lenOK_iff, List.take_of_length_le, evRes, getT, getO, setO, fzs, fz, fzH, Nat.beq, retV, Res.then, ldT, ldR, mkV, getV, fmN, fm0, take_N, toN1, slN_nil, tt_3, tt_4, tt_5, tt_9, tt_22, tt_42, tt_26, tt_43, tt_36, tt_63, encN, slN, cfg0, get_flat_part lenN, get_flat_drop lenN, len_flat lenN, Tryz.f25,  encP, tx, prec, h]
    · refine PC.walk tok mixed cfg0 Tryz.func25 rfl Tryz.call25 (by simp [bel_encP, bel_LN, fmN, fm0, belN, bel_Ns, bel_slN]) (by first | rfl | simp [bel_encP, bel_LN, fmN, fm0, belN, bel_Ns, bel_slN]) ?_; simp (config := { maxSteps := 2000000 }) -implicitDefEqProofs +contextual (disch := first | assumption | omega | decide +kernel) only [push_cast, ↓capI, br2_true, br2_false, frk_tt, frk_tf, frk_f, frkD_tt, frkD_tf, frkD_f, pk2_true, pk2_false, imp_true, seval, Nat.reduceLeDiff, Nat.reduceEqDiff, reduceCtorEq, ↓reduceIte, reduceCtorEq, fmN, fm0, take_N, toN1, slN_nil, encN, slN, cfg0, get_flat_part lenN, get_flat_drop lenN, len_flat lenN, Tryz.ntmps25]
      simp (config := { maxSteps := 2000000 }) -implicitDefEqProofs +contextual (disch := first | assumption | omega | decide +kernel) only [push_cast, ↓capI, br2_true, br2_false, frk_tt, frk_tf, frk_f, frkD_tt, frkD_tf, frkD_f, pk2_true, pk2_false, imp_true, seval, Nat.reduceLeDiff, Nat.reduceEqDiff, reduceCtorEq, ↓reduceIte, reduceCtorEq, fmN, fm0, take_N, toN1, slN_nil, encN, slN, cfg0, get_flat_part lenN, get_flat_drop lenN, len_flat lenN, h]
      refine callO.pc i1 ?_
      simp (config := { maxSteps := 2000000 }) -implicitDefEqProofs +contextual (disch := first | assumption | omega | decide +kernel) only [push_cast, ↓capI, br2_true, br2_false, frk_tt, frk_tf, frk_f, frkD_tt, frkD_tf, frkD_f, pk2_true, pk2_false, imp_true, seval, Nat.reduceLeDiff, Nat.reduceEqDiff, reduceCtorEq, ↓reduceIte, reduceCtorEq, fmN, fm0, take_N, toN1, slN_nil, encN, slN, cfg0, get_flat_part lenN, get_flat_drop lenN, len_flat lenN, h]
      refine callO.pc i2 ?_
      simp (config := { maxSteps := 2000000 }) -implicitDefEqProofs +contextual (disch := first | assumption | omega | decide +kernel) only [push_cast, ↓capI, br2_true, br2_false, frk_tt, frk_tf, frk_f, frkD_tt, frkD_tf, frkD_f, pk2_true, pk2_false, imp_true, seval, Nat.reduceLeDiff, Nat.reduceEqDiff, reduceCtorEq, ↓reduceIte, reduceCtorEq, fmN, fm0, take_N, toN1, slN_nil, encN, slN, cfg0, get_flat_part lenN, get_flat_drop lenN, len_flat lenN, h]
      refine callG.pc1 (pc45 (tx p) (prec p) 1 (by omega)) ?_
      simp (config := { maxSteps := 2000000 }) -implicitDefEqProofs +contextual (disch := first | assumption | omega | decide +kernel) only [push_cast, ↓capI, br2_true, br2_false, frk_tt, frk_tf, frk_f, frkD_tt, frkD_tf, frkD_f, pk2_true, pk2_false, imp_true, seval, Nat.reduceLeDiff, Nat.reduceEqDiff, reduceCtorEq, ↓reduceIte, reduceCtorEq, fmN, fm0, take_N, toN1, slN_nil, encN, slN, cfg0, get_flat_part lenN, get_flat_drop lenN, len_flat lenN]
      (try refine ⟨by (try simp only [List.length_append, List.length_cons, List.length_nil]); omega, fun _ => ?_⟩)
      refine callG.pc1 (pc45 (tx q) (prec q) 2 (by omega)) ?_
      simp (config := { maxSteps := 2000000 }) -implicitDefEqProofs +contextual (disch := first | assumption | omega | decide +kernel) only [push_cast, ↓capI, br2_true, br2_false, frk_tt, frk_tf, frk_f, frkD_tt, frkD_tf, frkD_f, pk2_true, pk2_false, imp_true, seval, Nat.reduceLeDiff, Nat.reduceEqDiff, reduceCtorEq, ↓reduceIte, reduceCtorEq, fmN, fm0, take_N, toN1, slN_nil, encN, slN, cfg0, get_flat_part lenN, get_flat_drop lenN, len_flat lenN]
      (try refine ⟨by (try simp only [List.length_append, List.length_cons, List.length_nil]); omega, fun _ => ?_⟩)
      refine endK.ret ?_ (by first | rfl | simp [bel_encP, bel_LN, fmN, fm0, belN, bel_Ns, bel_slN]); simp [bel_encP, bel_LN, fmN, fm0, belN, bel_Ns, bel_slN, fzs_ok, imp, lenOK_iff, List.take_of_length_le, evRes, getT, getO, setO, fzs, fz, fzH, Nat.beq, retV, Res.then, ldT, ldR, mkV, getV, fmN, fm0, take_N, toN1, slN_nil, tt_3, tt_4, tt_5, tt_9, tt_22, tt_42, tt_26, tt_43, tt_36, tt_63, encN, slN, cfg0, get_flat_part lenN, get_flat_drop lenN, len_flat lenN, Tryz.f25,  encP, tx, prec, h]
end Go.Proofs.YtllfdnbnkncnhaaGreatDoor

/- Chapter 44: the reference's text of a predicate; Format. -/
set_option maxRecDepth 100000
set_option maxHeartbeats 4000000
set_option linter.all false
namespace Go.Proofs.YtllfdnbnkncnhaaGreatDoor
open Go.Vm

theorem prec_top {p : Pr} (hp : okP p) : (3 ≤ prec p ↔ ¬ ((top p).op = 5 ∨ (top p).op = 6)) ∧ (2 ≤ prec p ↔ ¬ (top p).op = 6) ∧ 1 ≤ prec p := by
  cases p with
  | leaf x =>
    obtain ⟨h, _⟩ := hp
    simp only [prec, top]
    omega
  | un x p =>
    obtain ⟨h, _⟩ := hp
    simp only [prec, top]
    omega
  | bin x p q =>
    obtain ⟨h, _⟩ := hp
    simp only [prec, top]
    by_cases h5 : x.op = 5
    · rw [if_pos h5]
      omega
    · rw [if_neg h5]
      omega
theorem pc51 (l : List Nd) (a : Nat) (p : Pr) (r : List Nd) (y z : Int) (h : l.drop a = flat p ++ r) (hm : l.length ≤ 4000000) (hpc : PC Tryz.prog 27 [slN l, .int .i64 a] (.str (tx p))) :
    PC Tryz.prog 51 [slN l, .int .i64 a, .int .i64 y, .int .i64 z] (.str (if (top p).op = y ∨ (top p).op = z then [40] ++ tx p ++ [41] else tx p)) := by
  obtain ⟨t, ht⟩ := flat_top p
  rw [ht, List.cons_append] at h
  obtain ⟨hlt, hX, _⟩ := drop_cons h
  have t1 := tx_len p
  have hn := congrArg List.length h
  rw [List.length_drop, ← List.cons_append, ← ht, List.length_append] at hn
  by_cases hy : (top p).op = y
  · rw [if_pos (.inl hy)]
    refine PC.walk tok mixed cfg0 Tryz.func51 rfl Tryz.call51 (by simp [bel_LN, fmN, fm0, belN, bel_Ns, bel_slN]) (by first | rfl | simp [bel_LN, fmN, fm0, belN, bel_Ns, bel_slN]) ?_; simp (config := { maxSteps := 2000000 }) -implicitDefEqProofs +contextual (disch := first | assumption | omega | decide +kernel) only [push_cast, ↓capI, br2_true, br2_false, frk_tt, frk_tf, frk_f, frkD_tt, frkD_tf, frkD_f, pk2_true, pk2_false, imp_true, seval, Nat.reduceLeDiff, Nat.reduceEqDiff, reduceCtorEq, ↓reduceIte, reduceCtorEq, fmN, fm0, take_N, toN1, slN_nil, encN, slN, cfg0, get_flat_part lenN, get_flat_drop lenN, len_flat lenN, Tryz.ntmps51]
    simp (config := { maxSteps := 2000000 }) -implicitDefEqProofs +contextual (disch := first | assumption | omega | decide +kernel) only [push_cast, ↓capI, br2_true, br2_false, frk_tt, frk_tf, frk_f, frkD_tt, frkD_tf, frkD_f, pk2_true, pk2_false, imp_true, seval, Nat.reduceLeDiff, Nat.reduceEqDiff, reduceCtorEq, ↓reduceIte, reduceCtorEq, fmN, fm0, take_N, toN1, slN_nil, encN, slN, cfg0, get_flat_part lenN, get_flat_drop lenN, len_flat lenN, hX, hy]
    refine callO.pc hpc ?_
    simp (config := { maxSteps := 2000000 }) -implicitDefEqProofs +contextual (disch := first | assumption | omega | decide +kernel) only [push_cast, ↓capI, br2_true, br2_false, frk_tt, frk_tf, frk_f, frkD_tt, frkD_tf, frkD_f, pk2_true, pk2_false, imp_true, seval, Nat.reduceLeDiff, Nat.reduceEqDiff, reduceCtorEq, ↓reduceIte, reduceCtorEq, fmN, fm0, take_N, toN1, slN_nil, encN, slN, cfg0, get_flat_part lenN, get_flat_drop lenN, len_flat lenN]
    (try refine ⟨by (try simp only [List.length_append, List.length_cons, List.length_nil]); omega, fun _ => ?_⟩)
    (try simp (config := { maxSteps := 2000000 }) -implicitDefEqProofs +contextual (disch := first | assumption | omega | decide +kernel) only [push_cast, ↓capI, br2_true, br2_false, frk_tt, frk_tf, frk_f, frkD_tt, frkD_tf, frkD_f, pk2_true, pk2_false, imp_true, seval, Nat.reduceLeDiff, Nat.reduceEqDiff, reduceCtorEq, ↓reduceIte, reduceCtorEq, fmN, fm0, take_N, toN1, slN_nil, encN, slN, cfg0, get_flat_part lenN, get_flat_drop lenN, len_flat lenN])
    (try refine ⟨by (try simp only [List.length_append, List.length_cons, List.length_nil]); omega, fun _ => ?_⟩)
    refine endK.ret ?_ (by first | rfl | simp [bel_LN, fmN, fm0, belN, bel_Ns, bel_slN]); simp [evRes, getT, retV, Tryz.f51]
  by_cases hz : (top p).op = z
  · rw [if_pos (.inr hz)]
    refine PC.walk tok mixed cfg0 Tryz.func51 rfl Tryz.call51 (by simp [bel_LN, fmN, fm0, belN, bel_Ns, bel_slN]) (by first | rfl | simp [bel_LN, fmN, fm0, belN, bel_Ns, bel_slN]) ?_; simp (config := { maxSteps := 2000000 }) -implicitDefEqProofs +contextual (disch := first | assumption | omega | decide +kernel) only [push_cast, ↓capI, br2_true, br2_false, frk_tt, frk_tf, frk_f, frkD_tt, frkD_tf, frkD_f, pk2_true, pk2_false, imp_true, seval, Nat.reduceLeDiff, Nat.reduceEqDiff, reduceCtorEq, ↓reduceIte, reduceCtorEq, fmN, fm0, take_N, toN1, slN_nil, encN, slN, cfg0, get_flat_part lenN, get_flat_drop lenN, len_flat lenN, Tryz.ntmps51]
    simp (config := { maxSteps := 2000000 }) -implicitDefEqProofs +contextual (disch := first | assumption | omega | decide +kernel) only [push_cast, ↓capI, br2_true, br2_false, frk_tt, frk_tf, frk_f, frkD_tt, frkD_tf, frkD_f, pk2_true, pk2_false, imp_true, seval, Nat.reduceLeDiff, Nat.reduceEqDiff, reduceCtorEq, ↓reduceIte, reduceCtorEq, fmN, fm0, take_N, toN1, slN_nil, encN, slN, cfg0, get_flat_part lenN, get_flat_drop lenN, len_flat lenN, hX, hy, hz]
    refine callO.pc hpc ?_
    simp (config := { maxSteps := 2000000 }) -implicitDefEqProofs +contextual (disch := first | assumption | omega | decide +kernel) only [push_cast, ↓capI, br2_true, br2_false, frk_tt, frk_tf, frk_f, frkD_tt, frkD_tf, frkD_f, pk2_true, pk2_false, imp_true, seval, Nat.reduceLeDiff, Nat.reduceEqDiff, reduceCtorEq, ↓reduceIte, reduceCtorEq, fmN, fm0, take_N, toN1, slN_nil, encN, slN, cfg0, get_flat_part lenN, get_flat_drop lenN, len_flat lenN]
    (try refine ⟨by (try simp only [List.length_append, List.length_cons, List.length_nil]); omega, fun _ => ?_⟩)
    (try simp (config := { maxSteps := 2000000 }) -implicitDefEqProofs +contextual (disch := first | assumption | omega | decide +kernel) only [push_cast, ↓capI, br2_true, br2_false, frk_tt, frk_tf, frk_f, frkD_tt, frkD_tf, frkD_f, pk2_true, pk2_false, imp_true, seval, Nat.reduceLeDiff, Nat.reduceEqDiff, reduceCtorEq, ↓reduceIte, reduceCtorEq, fmN, fm0, take_N, toN1, slN_nil, encN, slN, cfg0, get_flat_part lenN, get_flat_drop lenN, len_flat lenN])
    (try refine ⟨by (try simp only [List.length_append, List.length_cons, List.length_nil]); omega, fun _ => ?_⟩)
    refine endK.ret ?_ (by first | rfl | simp [bel_LN, fmN, fm0, belN, bel_Ns, bel_slN]); simp [evRes, getT, retV, Tryz.f51]
  · rw [if_neg (fun g => g.elim hy hz)]
    refine PC.walk tok mixed cfg0 Tryz.func51 rfl Tryz.call51 (by simp [bel_LN, fmN, fm0, belN, bel_Ns, bel_slN]) (by first | rfl | simp [bel_LN, fmN, fm0, belN, bel_Ns, bel_slN]) ?_; simp (config := { maxSteps := 2000000 }) -implicitDefEqProofs +contextual (disch := first | assumption | omega | decide +kernel) only [push_cast, ↓capI, br2_true, br2_false, frk_tt, frk_tf, frk_f, frkD_tt, frkD_tf, frkD_f, pk2_true, pk2_false, imp_true, seval, Nat.reduceLeDiff, Nat.reduceEqDiff, reduceCtorEq, ↓reduceIte, reduceCtorEq, fmN, fm0, take_N, toN1, slN_nil, encN, slN, cfg0, get_flat_part lenN, get_flat_drop lenN, len_flat lenN, Tryz.ntmps51]
    simp (config := { maxSteps := 2000000 }) -implicitDefEqProofs +contextual (disch := first | assumption | omega | decide +kernel) only [push_cast, ↓capI, br2_true, br2_false, frk_tt, frk_tf, frk_f, frkD_tt, frkD_tf, frkD_f, pk2_true, pk2_false, imp_true, seval, Nat.reduceLeDiff, Nat.reduceEqDiff, reduceCtorEq, ↓reduceIte, reduceCtorEq, fmN, fm0, take_N, toN1, slN_nil, encN, slN, cfg0, get_flat_part lenN, get_flat_drop lenN, len_flat lenN, hX, hy, hz]
    refine callO.pc hpc ?_
    simp (config := { maxSteps := 2000000 }) -implicitDefEqProofs +contextual (disch := first | assumption | omega | decide +kernel) only [push_cast, ↓capI, br2_true, br2_false, frk_tt, frk_tf, frk_f, frkD_tt, frkD_tf, frkD_f, pk2_true, pk2_false, imp_true, seval, Nat.reduceLeDiff, Nat.reduceEqDiff, reduceCtorEq, ↓reduceIte, reduceCtorEq, fmN, fm0, take_N, toN1, slN_nil, encN, slN, cfg0, get_flat_part lenN, get_flat_drop lenN, len_flat lenN]
    refine endK.ret ?_ (by first | rfl | simp [bel_LN, fmN, fm0, belN, bel_Ns, bel_slN]); simp [evRes, getT, retV, Tryz.f51]
theorem in3 {p : Pr} (hp : okP p) : (if (top p).op = 5 ∨ (top p).op = 6 then [40] ++ tx p ++ [41] else tx p) = inn (prec p) 3 (tx p) := by
  have := (prec_top hp).1
  unfold inn
  by_cases h : (top p).op = 5 ∨ (top p).op = 6
  · rw [if_pos h, if_pos (by omega)]
  · rw [if_neg h, if_neg (by omega)]
theorem in2 {p : Pr} (hp : okP p) : (if (top p).op = 6 ∨ (top p).op = 6 then [40] ++ tx p ++ [41] else tx p) = inn (prec p) 2 (tx p) := by
  have := (prec_top hp).2.1
  unfold inn
  by_cases h : (top p).op = 6
  · rw [if_pos (.inl h), if_pos (by omega)]
  · rw [if_neg (fun g => g.elim h h), if_neg (by omega)]
theorem in1 {p : Pr} (hp : okP p) : inn (prec p) 1 (tx p) = tx p := by
  have := (prec_top hp).2.2
  rw [inn, if_neg (by omega)]
theorem pc35f (l : List Nd) (hm : l.length ≤ 4000000) (x : Nd) (a : Nat) (hlt : a < l.length) (hX : l[a] = x) (h : x.op = 3) : PC Tryz.prog 27 [slN l, .int .i64 a] (.str (tx (.leaf x))) := by
  have h1 := fname_len x.fd
  have h2 := dec8_len x.v.toNat
  have h3 := dec8_len x.m.toNat
  have hv := x.v.toNat_lt
  have hm2 := x.m.toNat_lt
  refine PC.walk tok mixed cfg0 Tryz.func27 rfl Tryz.call27 (by simp [bel_LN, fmN, fm0, belN, bel_Ns, bel_slN]) (by first | rfl | simp [bel_LN, fmN, fm0, belN, bel_Ns, bel_slN]) ?_; simp (config := { maxSteps := 2000000 }) -implicitDefEqProofs +contextual (disch := first | assumption | omega | decide +kernel) only [push_cast, ↓capI, br2_true, br2_false, frk_tt, frk_tf, frk_f, frkD_tt, frkD_tf, frkD_f, pk2_true, pk2_false, imp_true, seval, Nat.reduceLeDiff, Nat.reduceEqDiff, reduceCtorEq, ↓reduceIte, reduceCtorEq, fmN, fm0, take_N, toN1, slN_nil, encN, slN, cfg0, get_flat_part lenN, get_flat_drop lenN, len_flat lenN, Tryz.ntmps27]
  simp (config := { maxSteps := 2000000 }) -implicitDefEqProofs +contextual (disch := first | assumption | omega | decide +kernel) only [push_cast, ↓capI, br2_true, br2_false, frk_tt, frk_tf, frk_f, frkD_tt, frkD_tf, frkD_f, pk2_true, pk2_false, imp_true, seval, Nat.reduceLeDiff, Nat.reduceEqDiff, reduceCtorEq, ↓reduceIte, reduceCtorEq, fmN, fm0, take_N, toN1, slN_nil, encN, slN, cfg0, get_flat_part lenN, get_flat_drop lenN, len_flat lenN, hX, h]
  refine callG.pc1 (pc49 x.fd) ?_
  simp (config := { maxSteps := 2000000 }) -implicitDefEqProofs +contextual (disch := first | assumption | omega | decide +kernel) only [push_cast, ↓capI, br2_true, br2_false, frk_tt, frk_tf, frk_f, frkD_tt, frkD_tf, frkD_f, pk2_true, pk2_false, imp_true, seval, Nat.reduceLeDiff, Nat.reduceEqDiff, reduceCtorEq, ↓reduceIte, reduceCtorEq, fmN, fm0, take_N, toN1, slN_nil, encN, slN, cfg0, get_flat_part lenN, get_flat_drop lenN, len_flat lenN]
  (try refine ⟨by (try simp only [List.length_append, List.length_cons, List.length_nil]); omega, fun _ => ?_⟩)
  refine callG.pc1 (pc50 x.v.toNat hv) ?_
  simp (config := { maxSteps := 2000000 }) -implicitDefEqProofs +contextual (disch := first | assumption | omega | decide +kernel) only [push_cast, ↓capI, br2_true, br2_false, frk_tt, frk_tf, frk_f, frkD_tt, frkD_tf, frkD_f, pk2_true, pk2_false, imp_true, seval, Nat.reduceLeDiff, Nat.reduceEqDiff, reduceCtorEq, ↓reduceIte, reduceCtorEq, fmN, fm0, take_N, toN1, slN_nil, encN, slN, cfg0, get_flat_part lenN, get_flat_drop lenN, len_flat lenN]
  (try refine ⟨by (try simp only [List.length_append, List.length_cons, List.length_nil]); omega, fun _ => ?_⟩)
  by_cases hm5 : x.m = 255
  · simp (config := { maxSteps := 2000000 }) -implicitDefEqProofs +contextual (disch := first | assumption | omega | decide +kernel) only [push_cast, ↓capI, br2_true, br2_false, frk_tt, frk_tf, frk_f, frkD_tt, frkD_tf, frkD_f, pk2_true, pk2_false, imp_true, seval, Nat.reduceLeDiff, Nat.reduceEqDiff, reduceCtorEq, ↓reduceIte, reduceCtorEq, fmN, fm0, take_N, toN1, slN_nil, encN, slN, cfg0, get_flat_part lenN, get_flat_drop lenN, len_flat lenN, m255, hm5]
    refine endK.ret ?_ (by first | rfl | simp [bel_LN, fmN, fm0, belN, bel_Ns, bel_slN]); simp [evRes, getT, retV, Tryz.f27,  tx, h, hm5]
  · simp (config := { maxSteps := 2000000 }) -implicitDefEqProofs +contextual (disch := first | assumption | omega | decide +kernel) only [push_cast, ↓capI, br2_true, br2_false, frk_tt, frk_tf, frk_f, frkD_tt, frkD_tf, frkD_f, pk2_true, pk2_false, imp_true, seval, Nat.reduceLeDiff, Nat.reduceEqDiff, reduceCtorEq, ↓reduceIte, reduceCtorEq, fmN, fm0, take_N, toN1, slN_nil, encN, slN, cfg0, get_flat_part lenN, get_flat_drop lenN, len_flat lenN, m255, hm5]
    (try refine ⟨by (try simp only [List.length_append, List.length_cons, List.length_nil]); omega, fun _ => ?_⟩)
    refine callO.pc (pc50 x.m.toNat hm2) ?_
    simp (config := { maxSteps := 2000000 }) -implicitDefEqProofs +contextual (disch := first | assumption | omega | decide +kernel) only [push_cast, ↓capI, br2_true, br2_false, frk_tt, frk_tf, frk_f, frkD_tt, frkD_tf, frkD_f, pk2_true, pk2_false, imp_true, seval, Nat.reduceLeDiff, Nat.reduceEqDiff, reduceCtorEq, ↓reduceIte, reduceCtorEq, fmN, fm0, take_N, toN1, slN_nil, encN, slN, cfg0, get_flat_part lenN, get_flat_drop lenN, len_flat lenN]
    (try refine ⟨by (try simp only [List.length_append, List.length_cons, List.length_nil]); omega, fun _ => ?_⟩)
    refine endK.ret ?_ (by first | rfl | simp [bel_LN, fmN, fm0, belN, bel_Ns, bel_slN]); simp [evRes, getT, retV, Tryz.f27,  tx, h, hm5]
theorem pc27 (l : List Nd) (hm : l.length ≤ 4000000) : ∀ (p : Pr) (a : Nat) (r : List Nd), okP p → l.drop a = flat p ++ r → PC Tryz.prog 27 [slN l, .int .i64 a] (.str (tx p))
  | .leaf x, a, r, hp, hl => by
    obtain ⟨h0, hc⟩ := hp
    obtain ⟨hlt, hX, h2⟩ := drop_cons (x := x) (r := r) hl
    rcases h0 with h | h | h
    · refine PC.walk tok mixed cfg0 Tryz.func27 rfl Tryz.call27 (by simp [bel_LN, fmN, fm0, belN, bel_Ns, bel_slN]) (by first | rfl | simp [bel_LN, fmN, fm0, belN, bel_Ns, bel_slN]) ?_; simp (config := { maxSteps := 2000000 }) -implicitDefEqProofs +contextual (disch := first | assumption | omega | decide +kernel) only [push_cast, ↓capI, br2_true, br2_false, frk_tt, frk_tf, frk_f, frkD_tt, frkD_tf, frkD_f, pk2_true, pk2_false, imp_true, seval, Nat.reduceLeDiff, Nat.reduceEqDiff, reduceCtorEq, ↓reduceIte, reduceCtorEq, fmN, fm0, take_N, toN1, slN_nil, encN, slN, cfg0, get_flat_part lenN, get_flat_drop lenN, len_flat lenN, Tryz.ntmps27]
      simp (config := { maxSteps := 2000000 }) -implicitDefEqProofs +contextual (disch := first | assumption | omega | decide +kernel) only [push_cast, ↓capI, br2_true, br2_false, frk_tt, frk_tf, frk_f, frkD_tt, frkD_tf, frkD_f, pk2_true, pk2_false, imp_true, seval, Nat.reduceLeDiff, Nat.reduceEqDiff, reduceCtorEq, ↓reduceIte, reduceCtorEq, fmN, fm0, take_N, toN1, slN_nil, encN, slN, cfg0, get_flat_part lenN, get_flat_drop lenN, len_flat lenN, hX, h]
      refine endK.ret ?_ (by first | rfl | simp [bel_LN, fmN, fm0, belN, bel_Ns, bel_slN]); simp [evRes, getT, retV, Tryz.f27,  tx, h]
    · refine PC.walk tok mixed cfg0 Tryz.func27 rfl Tryz.call27 (by simp [bel_LN, fmN, fm0, belN, bel_Ns, bel_slN]) (by first | rfl | simp [bel_LN, fmN, fm0, belN, bel_Ns, bel_slN]) ?_; simp (config := { maxSteps := 2000000 }) -implicitDefEqProofs +contextual (disch := first | assumption | omega | decide +kernel) only [push_cast, ↓capI, br2_true, br2_false, frk_tt, frk_tf, frk_f, frkD_tt, frkD_tf, frkD_f, pk2_true, pk2_false, imp_true, seval, Nat.reduceLeDiff, Nat.reduceEqDiff, reduceCtorEq, ↓reduceIte, reduceCtorEq, fmN, fm0, take_N, toN1, slN_nil, encN, slN, cfg0, get_flat_part lenN, get_flat_drop lenN, len_flat lenN, Tryz.ntmps27]
      simp (config := { maxSteps := 2000000 }) -implicitDefEqProofs +contextual (disch := first | assumption | omega | decide +kernel) only [push_cast, ↓capI, br2_true, br2_false, frk_tt, frk_tf, frk_f, frkD_tt, frkD_tf, frkD_f, pk2_true, pk2_false, imp_true, seval, Nat.reduceLeDiff, Nat.reduceEqDiff, reduceCtorEq, ↓reduceIte, reduceCtorEq, fmN, fm0, take_N, toN1, slN_nil, encN, slN, cfg0, get_flat_part lenN, get_flat_drop lenN, len_flat lenN, hX, h]
      refine endK.ret ?_ (by first | rfl | simp [bel_LN, fmN, fm0, belN, bel_Ns, bel_slN]); simp [evRes, getT, retV, Tryz.f27,  tx, h]
    · exact pc35f l hm x a hlt hX h
  | .un x p, a, r, hp, hl => by
    obtain ⟨h4, hp⟩ := hp
    obtain ⟨hlt, hX, h2⟩ := drop_cons (x := x) (r := flat p ++ r) (by rw [hl, flat, List.cons_append])
    have i1 := pc51 l (a + 1) p r 5 6 h2 hm (pc27 l hm p (a + 1) r hp h2)
    rw [show ((a + 1 : Nat) : Int) = a + 1 from rfl, in3 hp] at i1
    have hn := drop_len hlt h2
    have ht := tx_len p
    have hn := inn_len (prec p) 3 (tx p)
    refine PC.walk tok mixed cfg0 Tryz.func27 rfl Tryz.call27 (by simp [bel_LN, fmN, fm0, belN, bel_Ns, bel_slN]) (by first | rfl | simp [bel_LN, fmN, fm0, belN, bel_Ns, bel_slN]) ?_; simp (config := { maxSteps := 2000000 }) -implicitDefEqProofs +contextual (disch := first | assumption | omega | decide +kernel) only [push_cast, ↓capI, br2_true, br2_false, frk_tt, frk_tf, frk_f, frkD_tt, frkD_tf, frkD_f, pk2_true, pk2_false, imp_true, seval, Nat.reduceLeDiff, Nat.reduceEqDiff, reduceCtorEq, ↓reduceIte, reduceCtorEq, fmN, fm0, take_N, toN1, slN_nil, encN, slN, cfg0, get_flat_part lenN, get_flat_drop lenN, len_flat lenN, Tryz.ntmps27]
    simp (config := { maxSteps := 2000000 }) -implicitDefEqProofs +contextual (disch := first | assumption | omega | decide +kernel) only [push_cast, ↓capI, br2_true, br2_false, frk_tt, frk_tf, frk_f, frkD_tt, frkD_tf, frkD_f, pk2_true, pk2_false, imp_true, seval, Nat.reduceLeDiff, Nat.reduceEqDiff, reduceCtorEq, ↓reduceIte, reduceCtorEq, fmN, fm0, take_N, toN1, slN_nil, encN, slN, cfg0, get_flat_part lenN, get_flat_drop lenN, len_flat lenN, hX, h4]
    refine callO.pc i1 ?_
    simp (config := { maxSteps := 2000000 }) -implicitDefEqProofs +contextual (disch := first | assumption | omega | decide +kernel) only [push_cast, ↓capI, br2_true, br2_false, frk_tt, frk_tf, frk_f, frkD_tt, frkD_tf, frkD_f, pk2_true, pk2_false, imp_true, seval, Nat.reduceLeDiff, Nat.reduceEqDiff, reduceCtorEq, ↓reduceIte, reduceCtorEq, fmN, fm0, take_N, toN1, slN_nil, encN, slN, cfg0, get_flat_part lenN, get_flat_drop lenN, len_flat lenN]
    (try refine ⟨by (try simp only [List.length_append, List.length_cons, List.length_nil]); omega, fun _ => ?_⟩)
    refine endK.ret ?_ (by first | rfl | simp [bel_LN, fmN, fm0, belN, bel_Ns, bel_slN]); simp [evRes, getT, retV, Tryz.f27,  tx]
  | .bin x p q, a, r, hp, hl => by
    obtain ⟨h4, hp, hq⟩ := hp
    obtain ⟨hlt, hX, h2⟩ := drop_cons (x := x) (r := flat p ++ (flat q ++ r)) (by rw [hl, flat, List.cons_append, List.append_assoc])
    have j1 := pc27 l hm p (a + 1) _ hp h2
    have j2 := pc27 l hm q (a + 1 + (flat p).length) r hq (drop_app h2)
    have i3 := pc38 p l (a + 1) _ hp h2 hlt hm
    have hn := drop_len hlt h2
    have hn2 := drop_len (by omega) (drop_app h2)
    have hnn : (flat p).length ≤ 4000000 := by omega
    have t1 := tx_len p
    have t2 := tx_len q
    have n1 := inn_len (prec p) 2 (tx p)
    have n2 := inn_len (prec p) 1 (tx p)
    have n3 := inn_len (prec q) 2 (tx q)
    have n4 := inn_len (prec q) 3 (tx q)
    rcases h4 with h | h
    · have i1 := pc51 l (a + 1) p _ 6 6 h2 hm j1
      have i2 := pc51 l (a + 1 + (flat p).length) q _ 5 6 (drop_app h2) hm j2
      rw [in2 hp] at i1
      rw [in3 hq] at i2
      rw [show ((a + 1 + (flat p).length : Nat) : Int) = (a : Int) + 1 + ((flat p).length : Nat) by omega] at i2
      rw [show ((a + 1 : Nat) : Int) = a + 1 from rfl] at i1 i3
      refine PC.walk tok mixed cfg0 Tryz.func27 rfl Tryz.call27 (by simp [bel_LN, fmN, fm0, belN, bel_Ns, bel_slN]) (by first | rfl | simp [bel_LN, fmN, fm0, belN, bel_Ns, bel_slN]) ?_; simp (config := { maxSteps := 2000000 }) -implicitDefEqProofs +contextual (disch := first | assumption | omega | decide +kernel) only [push_cast, ↓capI, br2_true, br2_false, frk_tt, frk_tf, frk_f, frkD_tt, frkD_tf, frkD_f, pk2_true, pk2_false, imp_true, seval, Nat.reduceLeDiff, Nat.reduceEqDiff, reduceCtorEq, ↓reduceIte, reduceCtorEq, fmN, fm0, take_N, toN1, slN_nil, encN, slN, cfg0, get_flat_part lenN, get_flat_drop lenN, len_flat lenN, Tryz.ntmps27]
      simp (config := { maxSteps := 2000000 }) -implicitDefEqProofs +contextual (disch := first | assumption | omega | decide +kernel) only [push_cast, ↓capI, br2_true, br2_false, frk_tt, frk_tf, frk_f, frkD_tt, frkD_tf, frkD_f, pk2_true, pk2_false, imp_true, seval, Nat.reduceLeDiff, Nat.reduceEqDiff, reduceCtorEq, ↓reduceIte, reduceCtorEq, fmN, fm0, take_N, toN1, slN_nil, encN, slN, cfg0, get_flat_part lenN, get_flat_drop lenN, len_flat lenN, hX, h]
      refine callO.pc i1 ?_
      simp (config := { maxSteps := 2000000 }) -implicitDefEqProofs +contextual (disch := first | assumption | omega | decide +kernel) only [push_cast, ↓capI, br2_true, br2_false, frk_tt, frk_tf, frk_f, frkD_tt, frkD_tf, frkD_f, pk2_true, pk2_false, imp_true, seval, Nat.reduceLeDiff, Nat.reduceEqDiff, reduceCtorEq, ↓reduceIte, reduceCtorEq, fmN, fm0, take_N, toN1, slN_nil, encN, slN, cfg0, get_flat_part lenN, get_flat_drop lenN, len_flat lenN]
      (try refine ⟨by (try simp only [List.length_append, List.length_cons, List.length_nil]); omega, fun _ => ?_⟩)
      refine callO.pc i3 ?_
      simp (config := { maxSteps := 2000000 }) -implicitDefEqProofs +contextual (disch := first | assumption | omega | decide +kernel) only [push_cast, ↓capI, br2_true, br2_false, frk_tt, frk_tf, frk_f, frkD_tt, frkD_tf, frkD_f, pk2_true, pk2_false, imp_true, seval, Nat.reduceLeDiff, Nat.reduceEqDiff, reduceCtorEq, ↓reduceIte, reduceCtorEq, fmN, fm0, take_N, toN1, slN_nil, encN, slN, cfg0, get_flat_part lenN, get_flat_drop lenN, len_flat lenN]
      refine callO.pc i2 ?_
      simp (config := { maxSteps := 2000000 }) -implicitDefEqProofs +contextual (disch := first | assumption | omega | decide +kernel) only [push_cast, ↓capI, br2_true, br2_false, frk_tt, frk_tf, frk_f, frkD_tt, frkD_tf, frkD_f, pk2_true, pk2_false, imp_true, seval, Nat.reduceLeDiff, Nat.reduceEqDiff, reduceCtorEq, ↓reduceIte, reduceCtorEq, fmN, fm0, take_N, toN1, slN_nil, encN, slN, cfg0, get_flat_part lenN, get_flat_drop lenN, len_flat lenN]
      (try refine ⟨by (try simp only [List.length_append, List.length_cons, List.length_nil]); omega, fun _ => ?_⟩)
      refine endK.ret ?_ (by first | rfl | simp [bel_LN, fmN, fm0, belN, bel_Ns, bel_slN]); simp [evRes, getT, retV, Tryz.f27,  tx, h]
    · have i2 := pc51 l (a + 1 + (flat p).length) q _ 6 6 (drop_app h2) hm j2
      rw [in2 hq] at i2
      rw [show ((a + 1 + (flat p).length : Nat) : Int) = (a : Int) + 1 + ((flat p).length : Nat) by omega] at i2
      rw [show ((a + 1 : Nat) : Int) = a + 1 from rfl] at j1 i3
      refine PC.walk tok mixed cfg0 Tryz.func27 rfl Tryz.call27 (by simp [bel_LN, fmN, fm0, belN, bel_Ns, bel_slN]) (by first | rfl | simp [bel_LN, fmN, fm0, belN, bel_Ns, bel_slN]) ?_; simp (config := { maxSteps := 2000000 }) -implicitDefEqProofs +contextual (disch := first | assumption | omega | decide +kernel) only [push_cast, ↓capI, br2_true, br2_false, frk_tt, frk_tf, frk_f, frkD_tt, frkD_tf, frkD_f, pk2_true, pk2_false, imp_true, seval, Nat.reduceLeDiff, Nat.reduceEqDiff, reduceCtorEq, ↓reduceIte, reduceCtorEq, fmN, fm0, take_N, toN1, slN_nil, encN, slN, cfg0, get_flat_part lenN, get_flat_drop lenN, len_flat lenN, Tryz.ntmps27]
      simp (config := { maxSteps := 2000000 }) -implicitDefEqProofs +contextual (disch := first | assumption | omega | decide +kernel) only [push_cast, ↓capI, br2_true, br2_false, frk_tt, frk_tf, frk_f, frkD_tt, frkD_tf, frkD_f, pk2_true, pk2_false, imp_true, seval, Nat.reduceLeDiff, Nat.reduceEqDiff, reduceCtorEq, ↓reduceIte, reduceCtorEq, fmN, fm0, take_N, toN1, slN_nil, encN, slN, cfg0, get_flat_part lenN, get_flat_drop lenN, len_flat lenN, hX, h]
      refine callO.pc j1 ?_
      simp (config := { maxSteps := 2000000 }) -implicitDefEqProofs +contextual (disch := first | assumption | omega | decide +kernel) only [push_cast, ↓capI, br2_true, br2_false, frk_tt, frk_tf, frk_f, frkD_tt, frkD_tf, frkD_f, pk2_true, pk2_false, imp_true, seval, Nat.reduceLeDiff, Nat.reduceEqDiff, reduceCtorEq, ↓reduceIte, reduceCtorEq, fmN, fm0, take_N, toN1, slN_nil, encN, slN, cfg0, get_flat_part lenN, get_flat_drop lenN, len_flat lenN]
      (try refine ⟨by (try simp only [List.length_append, List.length_cons, List.length_nil]); omega, fun _ => ?_⟩)
      refine callO.pc i3 ?_
      simp (config := { maxSteps := 2000000 }) -implicitDefEqProofs +contextual (disch := first | assumption | omega | decide +kernel) only [push_cast, ↓capI, br2_true, br2_false, frk_tt, frk_tf, frk_f, frkD_tt, frkD_tf, frkD_f, pk2_true, pk2_false, imp_true, seval, Nat.reduceLeDiff, Nat.reduceEqDiff, reduceCtorEq, ↓reduceIte, reduceCtorEq, fmN, fm0, take_N, toN1, slN_nil, encN, slN, cfg0, get_flat_part lenN, get_flat_drop lenN, len_flat lenN]
      refine callO.pc i2 ?_
      simp (config := { maxSteps := 2000000 }) -implicitDefEqProofs +contextual (disch := first | assumption | omega | decide +kernel) only [push_cast, ↓capI, br2_true, br2_false, frk_tt, frk_tf, frk_f, frkD_tt, frkD_tf, frkD_f, pk2_true, pk2_false, imp_true, seval, Nat.reduceLeDiff, Nat.reduceEqDiff, reduceCtorEq, ↓reduceIte, reduceCtorEq, fmN, fm0, take_N, toN1, slN_nil, encN, slN, cfg0, get_flat_part lenN, get_flat_drop lenN, len_flat lenN]
      (try refine ⟨by (try simp only [List.length_append, List.length_cons, List.length_nil]); omega, fun _ => ?_⟩)
      refine endK.ret ?_ (by first | rfl | simp [bel_LN, fmN, fm0, belN, bel_Ns, bel_slN]); simp [evRes, getT, retV, Tryz.f27,  tx, h, in1 hp]
/-- what Format answers -/
def fmtL (l : List Nd) (s : List UInt8) (e : Int) : Prop := e = checkP l ∧ ((checkP l = 0 ∧ ∃ p, okP p ∧ l = flat p ∧ s = tx p) ∨ (checkP l ≠ 0 ∧ s = []))
theorem pc14 (l : List Nd) (hl : l.length ≤ 4000000) (s : List UInt8) (e : Int) (h : fmtL l s e) : PC Tryz.prog 14 [slN l] (.tup [.str s, .int .i64 e]) := by
  obtain ⟨he, ⟨hc, p, hp, hf, hs⟩ | ⟨hc, hs⟩⟩ := h
  · have i1 := pc25 p [] hp (by rw [List.append_nil, ← hf]; exact hl)
    rw [List.append_nil, ← hf, encP] at i1
    have i0 := pc19 l hl
    rw [hc] at i0
    refine PC.walk tok mixed cfg0 Tryz.func14 rfl Tryz.call14 (by simp [bel_LN, fmN, fm0, belN, bel_Ns, bel_slN]) (by first | rfl | simp [bel_LN, fmN, fm0, belN, bel_Ns, bel_slN]) ?_; simp (config := { maxSteps := 2000000 }) -implicitDefEqProofs +contextual (disch := first | assumption | omega | decide +kernel) only [push_cast, ↓capI, br2_true, br2_false, frk_tt, frk_tf, frk_f, frkD_tt, frkD_tf, frkD_f, pk2_true, pk2_false, imp_true, seval, Nat.reduceLeDiff, Nat.reduceEqDiff, reduceCtorEq, ↓reduceIte, reduceCtorEq, fmN, fm0, take_N, toN1, slN_nil, encN, slN, cfg0, get_flat_part lenN, get_flat_drop lenN, len_flat lenN, Tryz.ntmps14]
    refine callO.pc i0 ?_
    simp (config := { maxSteps := 2000000 }) -implicitDefEqProofs +contextual (disch := first | assumption | omega | decide +kernel) only [push_cast, ↓capI, br2_true, br2_false, frk_tt, frk_tf, frk_f, frkD_tt, frkD_tf, frkD_f, pk2_true, pk2_false, imp_true, seval, Nat.reduceLeDiff, Nat.reduceEqDiff, reduceCtorEq, ↓reduceIte, reduceCtorEq, fmN, fm0, take_N, toN1, slN_nil, encN, slN, cfg0, get_flat_part lenN, get_flat_drop lenN, len_flat lenN]
    refine callO.pc i1 ?_
    simp (config := { maxSteps := 2000000 }) -implicitDefEqProofs +contextual (disch := first | assumption | omega | decide +kernel) only [push_cast, ↓capI, br2_true, br2_false, frk_tt, frk_tf, frk_f, frkD_tt, frkD_tf, frkD_f, pk2_true, pk2_false, imp_true, seval, Nat.reduceLeDiff, Nat.reduceEqDiff, reduceCtorEq, ↓reduceIte, reduceCtorEq, fmN, fm0, take_N, toN1, slN_nil, encN, slN, cfg0, get_flat_part lenN, get_flat_drop lenN, len_flat lenN]
    refine endK.ret ?_ (by first | rfl | simp [bel_LN, fmN, fm0, belN, bel_Ns, bel_slN]); simp [evRes, getT, retV, Tryz.f14,  he, hc, hs]
  · refine PC.walk tok mixed cfg0 Tryz.func14 rfl Tryz.call14 (by simp [bel_LN, fmN, fm0, belN, bel_Ns, bel_slN]) (by first | rfl | simp [bel_LN, fmN, fm0, belN, bel_Ns, bel_slN]) ?_; simp (config := { maxSteps := 2000000 }) -implicitDefEqProofs +contextual (disch := first | assumption | omega | decide +kernel) only [push_cast, ↓capI, br2_true, br2_false, frk_tt, frk_tf, frk_f, frkD_tt, frkD_tf, frkD_f, pk2_true, pk2_false, imp_true, seval, Nat.reduceLeDiff, Nat.reduceEqDiff, reduceCtorEq, ↓reduceIte, reduceCtorEq, fmN, fm0, take_N, toN1, slN_nil, encN, slN, cfg0, get_flat_part lenN, get_flat_drop lenN, len_flat lenN, Tryz.ntmps14]
    refine callO.pc (pc19 l hl) ?_
    simp (config := { maxSteps := 2000000 }) -implicitDefEqProofs +contextual (disch := first | assumption | omega | decide +kernel) only [push_cast, ↓capI, br2_true, br2_false, frk_tt, frk_tf, frk_f, frkD_tt, frkD_tf, frkD_f, pk2_true, pk2_false, imp_true, seval, Nat.reduceLeDiff, Nat.reduceEqDiff, reduceCtorEq, ↓reduceIte, reduceCtorEq, fmN, fm0, take_N, toN1, slN_nil, encN, slN, cfg0, get_flat_part lenN, get_flat_drop lenN, len_flat lenN, hc]
    refine endK.ret ?_ (by first | rfl | simp [bel_LN, fmN, fm0, belN, bel_Ns, bel_slN]); simp [evRes, getT, retV, Tryz.f14,  he, hs]
theorem pc13 (l : List Nd) (hl : l.length ≤ 4000000) (s : List UInt8) (e : Int) (h : fmtL l s e) : PC Tryz.prog 13 [slN l] (.str s) := by
  refine PC.walk tok mixed cfg0 Tryz.func13 rfl Tryz.call13 (by simp [bel_LN, fmN, fm0, belN, bel_Ns, bel_slN]) (by first | rfl | simp [bel_LN, fmN, fm0, belN, bel_Ns, bel_slN]) ?_; simp (config := { maxSteps := 2000000 }) -implicitDefEqProofs +contextual (disch := first | assumption | omega | decide +kernel) only [push_cast, ↓capI, br2_true, br2_false, frk_tt, frk_tf, frk_f, frkD_tt, frkD_tf, frkD_f, pk2_true, pk2_false, imp_true, seval, Nat.reduceLeDiff, Nat.reduceEqDiff, reduceCtorEq, ↓reduceIte, reduceCtorEq, fmN, fm0, take_N, toN1, slN_nil, encN, slN, cfg0, get_flat_part lenN, get_flat_drop lenN, len_flat lenN, Tryz.ntmps13]
  refine callO.pc (pc14 l hl s e h) ?_
  simp (config := { maxSteps := 2000000 }) -implicitDefEqProofs +contextual (disch := first | assumption | omega | decide +kernel) only [push_cast, ↓capI, br2_true, br2_false, frk_tt, frk_tf, frk_f, frkD_tt, frkD_tf, frkD_f, pk2_true, pk2_false, imp_true, seval, Nat.reduceLeDiff, Nat.reduceEqDiff, reduceCtorEq, ↓reduceIte, reduceCtorEq, fmN, fm0, take_N, toN1, slN_nil, encN, slN, cfg0, get_flat_part lenN, get_flat_drop lenN, len_flat lenN]
  refine endK.ret ?_ (by first | rfl | simp [bel_LN, fmN, fm0, belN, bel_Ns, bel_slN]); simp [evRes, getT, retV, Tryz.f13]
end Go.Proofs.YtllfdnbnkncnhaaGreatDoor


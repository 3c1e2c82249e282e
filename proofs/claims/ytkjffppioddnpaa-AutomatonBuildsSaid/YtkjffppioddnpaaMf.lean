/-
  Joined by a program from the texts Rli Rre Rrf Rpt Rmi.
-/
import Derived.Test.YtkjffppioddnpaaMb
import Derived.Test.YtkjffppioddnpaaMc
/- Chapter 42: the live states, by the reference; the class of a state; whether two states look alike. -/
set_option maxRecDepth 100000
set_option maxHeartbeats 4000000
set_option linter.all false
namespace Go.Proofs.Ytkjffppioddnpaa
open Go.Vm
theorem bel_setB {n q : Nat} {b : Bool} {o : List Bool} : belAll n ((o.map V.bool).set q (V.bool b)) = true := by
  rw [← List.map_set]; exact bel_bools _
theorem chk_rest' {α : Type} {f : α → Bool} {l : List α} {i : Nat} (h : i < l.length) (hp : (l.take i).any f = false) : (f l[i] = true → l.any f = true) ∧ (f l[i] = false → (l.take (i + 1)).any f = false) := by
  refine ⟨fun hf => List.any_eq_true.2 ⟨_, List.getElem_mem h, hf⟩, fun hf => ?_⟩
  rw [List.take_succ_eq_append_getElem h, List.any_append, hp, List.any_cons, hf]
  rfl
theorem pc54 {n m : Nat} {t : Tb} (ht : okT n m t) : PC Try.prog 54 [.agg (encT t)] (slB (liveS t)) := by
  have hn1 := ht.rows
  have hn2 := ht.accs
  have hpos := ht.pos
  have hbig := ht.big
  have hcols := ht.cols
  obtain ⟨next, acc⟩ := t
  simp only at hn1 hn2
  have htk0 : List.take acc.length (acc.map V.bool) = acc.map V.bool := List.take_of_length_le (by simp)
  refine PC.walk tok mixed cfg0 Try.func54 rfl Try.call54 (by simp [bel_setB, bel_ints, bel_bools, bel_rows, bel_slI, bel_slR, bel_slB, bel_encT]) (by first | rfl | simp [bel_setB, bel_ints, bel_bools, bel_rows, bel_slI, bel_slR, bel_slB, bel_encT]) ?_; simp (maxSteps := 2000000) -implicitDefEqProofs +contextual (disch := first | assumption | omega | decide +kernel) only [push_cast, ↓capI, br2_true, br2_false, frk_tt, frk_tf, frk_f, frkD_tt, frkD_tf, frkD_f, pk2_true, pk2_false, imp_true, seval, Nat.reduceLeDiff, Nat.reduceEqDiff, reduceCtorEq, ↓reduceIte, cfg0, ones_ints, ones_bools, getV_map, getV_mapO, List.length_map, Nat.mul_one, slI, slR, slB, encT, Try.ntmps54]
  simp (maxSteps := 2000000) -implicitDefEqProofs +contextual (disch := first | assumption | omega | decide +kernel) only [push_cast, ↓capI, br2_true, br2_false, frk_tt, frk_tf, frk_f, frkD_tt, frkD_tf, frkD_f, pk2_true, pk2_false, imp_true, seval, Nat.reduceLeDiff, Nat.reduceEqDiff, reduceCtorEq, ↓reduceIte, cfg0, ones_ints, ones_bools, getV_map, getV_mapO, List.length_map, Nat.mul_one, slI, slR, slB, encT, htk0]
  refine T.lp tok mixed cfg0 (fun ((s : List Bool × Bool)) => dd 1 (kp 1 (dd 1 (kp 1 (sv (.bool s.2) (dd 51 (nl))))))) (fun H0 ((s : List Bool × Bool)) => [.cells 0 (encT ⟨next, acc⟩), .cells 0 (s.1.map .bool)]) (fun ((s : List Bool × Bool)) => s.1.length = acc.length ∧ (s.2 = true → liveF ⟨next, acc⟩ (cntF s.1 + 1) s.1 = liveS ⟨next, acc⟩) ∧ (s.2 = false → s.1 = liveS ⟨next, acc⟩)) (fun ((s : List Bool × Bool)) => 2 * cntF s.1 + cond s.2 1 0) ((acc, true)) ?_ ?_ ?_
  · exact ⟨rfl, fun _ => rfl, fun h => by simp at h⟩
  · exact Gn.canon (J := _) (by first | rfl | (simp [List.append_nil, encT, slR, slB, slI, liveN0]; done) | (simp [List.append_nil, encT, slR, slB, slI, liveN0]; rfl)) (by simp [wk, liveN0, putT, kp, dd, sv, nl]) (by simp [List.length_append]) (by simp [bel_setB, bel_ints, bel_bools, bel_rows, bel_slI, bel_slR, bel_slB, bel_encT, kp, dd, sv, nl]) (by simp [bel_setB, bel_ints, bel_bools, bel_rows, bel_slI, bel_slR, bel_slB, bel_encT])
  · intro s hs
    obtain ⟨o, ch⟩ := s
    obtain ⟨hol, htr, hfa⟩ := hs
    simp only at hol htr hfa
    cases ch with
    | false =>
      have hfa := hfa rfl
      rw [← hfa]
      have htk : List.take acc.length (o.map V.bool) = o.map V.bool := List.take_of_length_le (by simp; omega)
      simp (maxSteps := 2000000) -implicitDefEqProofs +contextual (disch := first | assumption | omega | decide +kernel) only [push_cast, ↓capI, br2_true, br2_false, frk_tt, frk_tf, frk_f, frkD_tt, frkD_tf, frkD_f, pk2_true, pk2_false, imp_true, seval, Nat.reduceLeDiff, Nat.reduceEqDiff, reduceCtorEq, ↓reduceIte, cfg0, ones_ints, ones_bools, getV_map, getV_mapO, List.length_map, Nat.mul_one, slI, slR, slB, encT]
      refine endK.gn (Gn.freeze (id := 1) rfl) ?_; refine endK.ret ?_ (by first | rfl | simp [bel_setB, bel_ints, bel_bools, bel_rows, bel_slI, bel_slR, bel_slB, bel_encT]); simp [bel_setB, bel_ints, bel_bools, bel_rows, bel_slI, bel_slR, bel_slB, bel_encT, fzs_ok, imp, lenOK_iff, List.take_of_length_le, evRes, getT, getO, setO, fzs, fz, fzH, Nat.beq, retV, Res.then, ldT, ldR, mkV, getV, cfg0, ones_ints, ones_bools, getV_map, getV_mapO, List.length_map, Nat.mul_one, slI, slR, slB, encT, Try.f54,  slB, htk, hol]
    | true =>
      have htr := htr rfl
      have hstep := liveF_step ⟨next, acc⟩ (k := cntF o + 1) (o := o) (by simp only; omega) (by omega)
      rw [htr] at hstep
      simp (maxSteps := 2000000) -implicitDefEqProofs +contextual (disch := first | assumption | omega | decide +kernel) only [push_cast, ↓capI, br2_true, br2_false, frk_tt, frk_tf, frk_f, frkD_tt, frkD_tf, frkD_f, pk2_true, pk2_false, imp_true, seval, Nat.reduceLeDiff, Nat.reduceEqDiff, reduceCtorEq, ↓reduceIte, cfg0, ones_ints, ones_bools, getV_map, getV_mapO, List.length_map, Nat.mul_one, slI, slR, slB, encT]
      refine T.lp tok mixed cfg0 (fun ((q : Nat)) => dd 1 (kp 1 (dd 1 (kp 1 (sv (.bool (liveN ⟨next, acc⟩ o q).2) (sv (.int .i64 (q : Int)) (dd 50 (nl)))))))) (fun H0 ((q : Nat)) => [.cells 0 (encT ⟨next, acc⟩), .cells 0 ((liveN ⟨next, acc⟩ o q).1.map .bool)]) (fun ((q : Nat)) => q ≤ next.length) (fun ((q : Nat)) => next.length - q) (0) ?_ ?_ ?_
      · omega
      · exact Gn.canon (J := _) (by first | rfl | (simp [List.append_nil, encT, slR, slB, slI, liveN0]; done) | (simp [List.append_nil, encT, slR, slB, slI, liveN0]; rfl)) (by simp [wk, liveN0, putT, kp, dd, sv, nl]) (by simp [List.length_append]) (by simp [bel_setB, bel_ints, bel_bools, bel_rows, bel_slI, bel_slR, bel_slB, bel_encT, kp, dd, sv, nl]) (by simp [bel_setB, bel_ints, bel_bools, bel_rows, bel_slI, bel_slR, bel_slB, bel_encT])
      · intro q hq
        have hq0 : q ≤ next.length := hq
        have hol2 := liveN_len ⟨next, acc⟩ o q
        have hcn := (liveN_cnt ⟨next, acc⟩ o (by simp only; omega) q hq0).1
        have hnx : liveN ⟨next, acc⟩ o (q + 1) = liveI ⟨next, acc⟩ q (liveN ⟨next, acc⟩ o q) := rfl
        have hlast : q = next.length → pass ⟨next, acc⟩ o = liveN ⟨next, acc⟩ o q := fun e => by rw [e]; rfl
        generalize hs : liveN ⟨next, acc⟩ o q = s at hol2 hnx hlast hcn
        simp only [hs]
        obtain ⟨o2, c2⟩ := s
        simp only at hol2 hcn
        by_cases hlt : q < next.length
        · have hqa : q < acc.length := by omega
          have hqo : q < o2.length := by omega
          have hgo : o2.getD q false = o2[q] := lgetD hqo
          have hgr : next.getD q [] = next[q] := lgetD hlt
          have hrow := ht.row next[q] (List.getElem_mem hlt)
          have hrng := ht.rng next[q] (List.getElem_mem hlt)
          have hI : liveI ⟨next, acc⟩ q (o2, c2) = if o2[q] = false ∧ toL o2 next[q] = true then (o2.set q true, true) else (o2, c2) := by rw [liveI]; simp only [hgo, hgr]
          simp (maxSteps := 2000000) -implicitDefEqProofs +contextual (disch := first | assumption | omega | decide +kernel) only [push_cast, ↓capI, br2_true, br2_false, frk_tt, frk_tf, frk_f, frkD_tt, frkD_tf, frkD_f, pk2_true, pk2_false, imp_true, seval, Nat.reduceLeDiff, Nat.reduceEqDiff, reduceCtorEq, ↓reduceIte, cfg0, ones_ints, ones_bools, getV_map, getV_mapO, List.length_map, Nat.mul_one, slI, slR, slB, encT, hqa]
          refine T.lp tok mixed cfg0 (fun ((s : Nat × Bool)) => dd 1 (kp 1 (dd 1 (kp 1 (sv (.bool (cond s.2 true c2)) (kp 1 (sv (.int .i64 (s.1 : Int)) (dd 49 (nl))))))))) (fun H0 ((s : Nat × Bool)) => [.cells 0 (encT ⟨next, acc⟩), .cells 0 ((cond s.2 (o2.set q true) o2).map .bool)]) (fun ((s : Nat × Bool)) => s.1 ≤ next[q].length ∧ (s.2 = false → o2[q] = false → (next[q].take s.1).any (fun x => decide (0 ≤ x) && gB o2 x) = false) ∧ (s.2 = true → o2[q] = false ∧ toL o2 next[q] = true)) (fun ((s : Nat × Bool)) => next[q].length - s.1) ((0, false)) ?_ ?_ ?_
          · exact ⟨by simp only; omega, fun _ _ => rfl, fun h => by simp at h⟩
          · exact Gn.canon (J := _) (by first | rfl | (simp [List.append_nil, encT, slR, slB, slI, liveN0]; done) | (simp [List.append_nil, encT, slR, slB, slI, liveN0]; rfl)) (by simp [wk, liveN0, putT, kp, dd, sv, nl]) (by simp [List.length_append]) (by simp [bel_setB, bel_ints, bel_bools, bel_rows, bel_slI, bel_slR, bel_slB, bel_encT, kp, dd, sv, nl]) (by simp [bel_setB, bel_ints, bel_bools, bel_rows, bel_slI, bel_slR, bel_slB, bel_encT])
          · intro s hs
            obtain ⟨j, b⟩ := s
            obtain ⟨hj, hb0, hb1⟩ := hs
            simp only at hj hb0 hb1
            cases b with
            | true =>
              obtain ⟨h1, h2⟩ := hb1 rfl
              rw [hI, if_pos ⟨h1, h2⟩] at hnx
              have hset : (o2.set q true)[q]'(by simpa using hqo) = true := by simp
              have hqs : q < (o2.set q true).length := by simpa using hqo
              by_cases hjl : j < next[q].length
              · simp (maxSteps := 2000000) -implicitDefEqProofs +contextual (disch := first | assumption | omega | decide +kernel) only [push_cast, ↓capI, br2_true, br2_false, frk_tt, frk_tf, frk_f, frkD_tt, frkD_tf, frkD_f, pk2_true, pk2_false, imp_true, seval, Nat.reduceLeDiff, Nat.reduceEqDiff, reduceCtorEq, ↓reduceIte, cfg0, ones_ints, ones_bools, getV_map, getV_mapO, List.length_map, Nat.mul_one, slI, slR, slB, encT, hlt, hjl, hqa, hqs, hset, cond_true]
                refine ⟨(q + 1), by omega, by (try simp only); omega, ?_⟩; exact Gn.canon (by first | rfl | (simp [List.append_nil, encT, slR, slB, slI, liveN0, hnx]; rfl)) (by simp [wk, liveN0, hnx]) (by simp [List.length_append]) (by simp [bel_setB, bel_ints, bel_bools, bel_rows, bel_slI, bel_slR, bel_slB, bel_encT]) (by simp [bel_setB, bel_ints, bel_bools, bel_rows, bel_slI, bel_slR, bel_slB, bel_encT])
              · simp (maxSteps := 2000000) -implicitDefEqProofs +contextual (disch := first | assumption | omega | decide +kernel) only [push_cast, ↓capI, br2_true, br2_false, frk_tt, frk_tf, frk_f, frkD_tt, frkD_tf, frkD_f, pk2_true, pk2_false, imp_true, seval, Nat.reduceLeDiff, Nat.reduceEqDiff, reduceCtorEq, ↓reduceIte, cfg0, ones_ints, ones_bools, getV_map, getV_mapO, List.length_map, Nat.mul_one, slI, slR, slB, encT, hlt, hjl, hqa, hqs, hset, cond_true]
                refine ⟨(q + 1), by omega, by (try simp only); omega, ?_⟩; exact Gn.canon (by first | rfl | (simp [List.append_nil, encT, slR, slB, slI, liveN0, hnx]; rfl)) (by simp [wk, liveN0, hnx]) (by simp [List.length_append]) (by simp [bel_setB, bel_ints, bel_bools, bel_rows, bel_slI, bel_slR, bel_slB, bel_encT]) (by simp [bel_setB, bel_ints, bel_bools, bel_rows, bel_slI, bel_slR, bel_slB, bel_encT])
            | false =>
              have hb0 := hb0 rfl
              by_cases hjl : j < next[q].length
              · cases hoq : o2[q] with
                | true =>
                  rw [hI, if_neg (by rw [hoq]; simp)] at hnx
                  simp (maxSteps := 2000000) -implicitDefEqProofs +contextual (disch := first | assumption | omega | decide +kernel) only [push_cast, ↓capI, br2_true, br2_false, frk_tt, frk_tf, frk_f, frkD_tt, frkD_tf, frkD_f, pk2_true, pk2_false, imp_true, seval, Nat.reduceLeDiff, Nat.reduceEqDiff, reduceCtorEq, ↓reduceIte, cfg0, ones_ints, ones_bools, getV_map, getV_mapO, List.length_map, Nat.mul_one, slI, slR, slB, encT, hlt, hjl, hqa, hqo, hoq, cond_false]
                  refine ⟨(q + 1), by omega, by (try simp only); omega, ?_⟩; exact Gn.canon (by first | rfl | (simp [List.append_nil, encT, slR, slB, slI, liveN0, hnx]; rfl)) (by simp [wk, liveN0, hnx]) (by simp [List.length_append]) (by simp [bel_setB, bel_ints, bel_bools, bel_rows, bel_slI, bel_slR, bel_slB, bel_encT]) (by simp [bel_setB, bel_ints, bel_bools, bel_rows, bel_slI, bel_slR, bel_slB, bel_encT])
                | false =>
                  have hb0 := hb0 hoq
                  have hr := chk_rest' hjl hb0
                  have hx := hrng _ (List.getElem_mem hjl)
                  have hset := set_bools hqo
                  by_cases hneg : 0 ≤ next[q][j]
                  · obtain ⟨k, hk⟩ : ∃ k : Nat, next[q][j] = (k : Int) := ⟨next[q][j].toNat, by omega⟩
                    have hka : k < acc.length := by omega
                    have hko : k < o2.length := by omega
                    have hgk : gB o2 (k : Int) = o2[k] := by rw [gB, Int.toNat_natCast]; exact lgetD hko
                    rw [hk, hgk, decide_eq_true (by omega), Bool.true_and] at hr
                    cases hok : o2[k] with
                    | true =>
                      have h2 := hr.1 hok
                      simp (maxSteps := 2000000) -implicitDefEqProofs +contextual (disch := first | assumption | omega | decide +kernel) only [push_cast, ↓capI, br2_true, br2_false, frk_tt, frk_tf, frk_f, frkD_tt, frkD_tf, frkD_f, pk2_true, pk2_false, imp_true, seval, Nat.reduceLeDiff, Nat.reduceEqDiff, reduceCtorEq, ↓reduceIte, cfg0, ones_ints, ones_bools, getV_map, getV_mapO, List.length_map, Nat.mul_one, slI, slR, slB, encT, hlt, hjl, hqa, hqo, hoq, hk, hka, hko, hok, hset, cond_false]
                      refine ⟨(j + 1, true), ⟨by simp only; omega, fun h => by simp at h, fun _ => h2⟩, by (try simp only); omega, ?_⟩; exact Gn.canon (by first | rfl | (simp [List.append_nil, encT, slR, slB, slI, liveN0]; rfl)) (by simp [wk, liveN0]) (by simp [List.length_append]) (by simp [bel_setB, bel_ints, bel_bools, bel_rows, bel_slI, bel_slR, bel_slB, bel_encT]) (by simp [bel_setB, bel_ints, bel_bools, bel_rows, bel_slI, bel_slR, bel_slB, bel_encT])
                    | false =>
                      have h2 := hr.2 hok
                      simp (maxSteps := 2000000) -implicitDefEqProofs +contextual (disch := first | assumption | omega | decide +kernel) only [push_cast, ↓capI, br2_true, br2_false, frk_tt, frk_tf, frk_f, frkD_tt, frkD_tf, frkD_f, pk2_true, pk2_false, imp_true, seval, Nat.reduceLeDiff, Nat.reduceEqDiff, reduceCtorEq, ↓reduceIte, cfg0, ones_ints, ones_bools, getV_map, getV_mapO, List.length_map, Nat.mul_one, slI, slR, slB, encT, hlt, hjl, hqa, hqo, hoq, hk, hka, hko, hok, hset, cond_false]
                      refine ⟨(j + 1, false), ⟨by simp only; omega, fun _ => h2, fun h => by simp at h⟩, by (try simp only); omega, ?_⟩; exact Gn.canon (by first | rfl | (simp [List.append_nil, encT, slR, slB, slI, liveN0]; rfl)) (by simp [wk, liveN0]) (by simp [List.length_append]) (by simp [bel_setB, bel_ints, bel_bools, bel_rows, bel_slI, bel_slR, bel_slB, bel_encT]) (by simp [bel_setB, bel_ints, bel_bools, bel_rows, bel_slI, bel_slR, bel_slB, bel_encT])
                  · have h2 := hr.2 (by rw [decide_eq_false hneg]; rfl)
                    simp (maxSteps := 2000000) -implicitDefEqProofs +contextual (disch := first | assumption | omega | decide +kernel) only [push_cast, ↓capI, br2_true, br2_false, frk_tt, frk_tf, frk_f, frkD_tt, frkD_tf, frkD_f, pk2_true, pk2_false, imp_true, seval, Nat.reduceLeDiff, Nat.reduceEqDiff, reduceCtorEq, ↓reduceIte, cfg0, ones_ints, ones_bools, getV_map, getV_mapO, List.length_map, Nat.mul_one, slI, slR, slB, encT, hlt, hjl, hqa, hqo, hoq, hneg, cond_false]
                    refine ⟨(j + 1, false), ⟨by simp only; omega, fun _ => h2, fun h => by simp at h⟩, by (try simp only); omega, ?_⟩; exact Gn.canon (by first | rfl | (simp [List.append_nil, encT, slR, slB, slI, liveN0]; rfl)) (by simp [wk, liveN0]) (by simp [List.length_append]) (by simp [bel_setB, bel_ints, bel_bools, bel_rows, bel_slI, bel_slR, bel_slB, bel_encT]) (by simp [bel_setB, bel_ints, bel_bools, bel_rows, bel_slI, bel_slR, bel_slB, bel_encT])
              · have hjn : j = next[q].length := by omega
                rw [hjn, List.take_length] at hb0
                have : ¬ (o2[q] = false ∧ toL o2 next[q] = true) := fun h => by
                  have := hb0 h.1
                  rw [toL] at h
                  rw [this] at h
                  exact absurd h.2 (by decide)
                rw [hI, if_neg this] at hnx
                simp (maxSteps := 2000000) -implicitDefEqProofs +contextual (disch := first | assumption | omega | decide +kernel) only [push_cast, ↓capI, br2_true, br2_false, frk_tt, frk_tf, frk_f, frkD_tt, frkD_tf, frkD_f, pk2_true, pk2_false, imp_true, seval, Nat.reduceLeDiff, Nat.reduceEqDiff, reduceCtorEq, ↓reduceIte, cfg0, ones_ints, ones_bools, getV_map, getV_mapO, List.length_map, Nat.mul_one, slI, slR, slB, encT, hlt, hjl, cond_false]
                refine ⟨(q + 1), by omega, by (try simp only); omega, ?_⟩; exact Gn.canon (by first | rfl | (simp [List.append_nil, encT, slR, slB, slI, liveN0, hnx]; rfl)) (by simp [wk, liveN0, hnx]) (by simp [List.length_append]) (by simp [bel_setB, bel_ints, bel_bools, bel_rows, bel_slI, bel_slR, bel_slB, bel_encT]) (by simp [bel_setB, bel_ints, bel_bools, bel_rows, bel_slI, bel_slR, bel_slB, bel_encT])
        · have hqn : q = next.length := by omega
          have hqa : ¬ q < acc.length := by omega
          rw [hlast hqn] at hstep
          cases c2 with
          | true =>
            have h1 := hstep.1 rfl
            simp only at h1
            simp (maxSteps := 2000000) -implicitDefEqProofs +contextual (disch := first | assumption | omega | decide +kernel) only [push_cast, ↓capI, br2_true, br2_false, frk_tt, frk_tf, frk_f, frkD_tt, frkD_tf, frkD_f, pk2_true, pk2_false, imp_true, seval, Nat.reduceLeDiff, Nat.reduceEqDiff, reduceCtorEq, ↓reduceIte, cfg0, ones_ints, ones_bools, getV_map, getV_mapO, List.length_map, Nat.mul_one, slI, slR, slB, encT, hqa]
            refine ⟨(o2, true), ⟨by simp only; omega, fun _ => by rw [← h1.2]; exact liveF_any _ _ _ (by simp only; omega) (by simp only; omega) _ (by simp only; omega), fun h => by simp at h⟩, by show 2 * cntF o2 + 1 < 2 * cntF o + 1; omega, ?_⟩; exact Gn.canon (by first | rfl | (simp [List.append_nil, encT, slR, slB, slI, liveN0]; rfl)) (by simp [wk, liveN0]) (by simp [List.length_append]) (by simp [bel_setB, bel_ints, bel_bools, bel_rows, bel_slI, bel_slR, bel_slB, bel_encT]) (by simp [bel_setB, bel_ints, bel_bools, bel_rows, bel_slI, bel_slR, bel_slB, bel_encT])
          | false =>
            have h1 := hstep.2 rfl
            simp (maxSteps := 2000000) -implicitDefEqProofs +contextual (disch := first | assumption | omega | decide +kernel) only [push_cast, ↓capI, br2_true, br2_false, frk_tt, frk_tf, frk_f, frkD_tt, frkD_tf, frkD_f, pk2_true, pk2_false, imp_true, seval, Nat.reduceLeDiff, Nat.reduceEqDiff, reduceCtorEq, ↓reduceIte, cfg0, ones_ints, ones_bools, getV_map, getV_mapO, List.length_map, Nat.mul_one, slI, slR, slB, encT, hqa]
            refine ⟨(o2, false), ⟨by simp only; omega, fun h => by simp at h, fun _ => h1⟩, by show 2 * cntF o2 + 0 < 2 * cntF o + 1; omega, ?_⟩; exact Gn.canon (by first | rfl | (simp [List.append_nil, encT, slR, slB, slI, liveN0]; rfl)) (by simp [wk, liveN0]) (by simp [List.length_append]) (by simp [bel_setB, bel_ints, bel_bools, bel_rows, bel_slI, bel_slR, bel_slB, bel_encT]) (by simp [bel_setB, bel_ints, bel_bools, bel_rows, bel_slI, bel_slR, bel_slB, bel_encT])
theorem pc43 {c : List Int} {x : Int} (h : x < (c.length : Int)) : PC Try.prog 43 [slI c, .int .i64 x] (.int .i64 (if 0 ≤ x then gI c x else -1)) := by
  by_cases hx : 0 ≤ x
  · obtain ⟨k, rfl⟩ : ∃ k : Nat, x = (k : Int) := ⟨x.toNat, by omega⟩
    have hk : k < c.length := by omega
    have hg : gI c (k : Int) = c[k] := by rw [gI, Int.toNat_natCast]; exact lgetD hk
    rw [if_pos hx, hg]
    refine PC.walk tok mixed cfg0 Try.func43 rfl Try.call43 (by simp [bel_setB, bel_ints, bel_bools, bel_rows, bel_slI, bel_slR, bel_slB, bel_encT]) (by first | rfl | simp [bel_setB, bel_ints, bel_bools, bel_rows, bel_slI, bel_slR, bel_slB, bel_encT]) ?_; simp (maxSteps := 2000000) -implicitDefEqProofs +contextual (disch := first | assumption | omega | decide +kernel) only [push_cast, ↓capI, br2_true, br2_false, frk_tt, frk_tf, frk_f, frkD_tt, frkD_tf, frkD_f, pk2_true, pk2_false, imp_true, seval, Nat.reduceLeDiff, Nat.reduceEqDiff, reduceCtorEq, ↓reduceIte, cfg0, ones_ints, ones_bools, getV_map, getV_mapO, List.length_map, Nat.mul_one, slI, slR, slB, encT, Try.ntmps43]
    (try simp (maxSteps := 2000000) -implicitDefEqProofs +contextual (disch := first | assumption | omega | decide +kernel) only [push_cast, ↓capI, br2_true, br2_false, frk_tt, frk_tf, frk_f, frkD_tt, frkD_tf, frkD_f, pk2_true, pk2_false, imp_true, seval, Nat.reduceLeDiff, Nat.reduceEqDiff, reduceCtorEq, ↓reduceIte, cfg0, ones_ints, ones_bools, getV_map, getV_mapO, List.length_map, Nat.mul_one, slI, slR, slB, encT, hk])
    refine endK.ret ?_ (by first | rfl | simp [bel_setB, bel_ints, bel_bools, bel_rows, bel_slI, bel_slR, bel_slB, bel_encT]); simp [evRes, getT, retV, Try.f43]
  · rw [if_neg hx]
    refine PC.walk tok mixed cfg0 Try.func43 rfl Try.call43 (by simp [bel_setB, bel_ints, bel_bools, bel_rows, bel_slI, bel_slR, bel_slB, bel_encT]) (by first | rfl | simp [bel_setB, bel_ints, bel_bools, bel_rows, bel_slI, bel_slR, bel_slB, bel_encT]) ?_; simp (maxSteps := 2000000) -implicitDefEqProofs +contextual (disch := first | assumption | omega | decide +kernel) only [push_cast, ↓capI, br2_true, br2_false, frk_tt, frk_tf, frk_f, frkD_tt, frkD_tf, frkD_f, pk2_true, pk2_false, imp_true, seval, Nat.reduceLeDiff, Nat.reduceEqDiff, reduceCtorEq, ↓reduceIte, cfg0, ones_ints, ones_bools, getV_map, getV_mapO, List.length_map, Nat.mul_one, slI, slR, slB, encT, Try.ntmps43]
    (try simp (maxSteps := 2000000) -implicitDefEqProofs +contextual (disch := first | assumption | omega | decide +kernel) only [push_cast, ↓capI, br2_true, br2_false, frk_tt, frk_tf, frk_f, frkD_tt, frkD_tf, frkD_f, pk2_true, pk2_false, imp_true, seval, Nat.reduceLeDiff, Nat.reduceEqDiff, reduceCtorEq, ↓reduceIte, cfg0, ones_ints, ones_bools, getV_map, getV_mapO, List.length_map, Nat.mul_one, slI, slR, slB, encT, hx])
    refine endK.ret ?_ (by first | rfl | simp [bel_setB, bel_ints, bel_bools, bel_rows, bel_slI, bel_slR, bel_slB, bel_encT]); simp [evRes, getT, retV, Try.f43]
end Go.Proofs.Ytkjffppioddnpaa

/- Chapter 42: the classes, by the reference. -/
set_option maxRecDepth 100000
set_option maxHeartbeats 4000000
set_option linter.all false
namespace Go.Proofs.Ytkjffppioddnpaa
open Go.Vm
def fC (c : List Int) (x : Int) : Int := if 0 ≤ x then gI c x else -1
theorem sigO_eq {c row : List Int} {q : Nat} : sigO c row q = c.getD q 0 :: row.map (fC c) := rfl
theorem bel_ixs {n : Nat} (l : List Nat) : belAll n (l.map fun (q : Nat) => V.int .i64 (q : Int)) = true := belAll_map (fun _ => rfl) l
theorem pc63 {n m : Nat} {t : Tb} (ht : okT n m t) {c : List Int} (hc : c.length = n) {i j : Nat} (hi : i < n) (hj : j < n) :
    PC Try.prog 63 [.agg (encT t), slI c, .int .i64 (i : Int), .int .i64 (j : Int)] (.bool (decide (sigO c (t.next.getD i []) i = sigO c (t.next.getD j []) j))) := by
  have hn1 := ht.rows
  have hcols := ht.cols
  have hbig := ht.big
  obtain ⟨next, acc⟩ := t
  simp only at hn1
  have hin : i < next.length := by omega
  have hjn : j < next.length := by omega
  have hic : i < c.length := by omega
  have hjc : j < c.length := by omega
  have hri := ht.row next[i] (List.getElem_mem hin)
  have hrj := ht.row next[j] (List.getElem_mem hjn)
  have hgi := ht.rng next[i] (List.getElem_mem hin)
  have hgj := ht.rng next[j] (List.getElem_mem hjn)
  simp only [sigO_eq, show next.getD i [] = next[i] from lgetD hin, show next.getD j [] = next[j] from lgetD hjn, show c.getD i 0 = c[i] from lgetD hic, show c.getD j 0 = c[j] from lgetD hjc]
  by_cases hcc : c[i] = c[j]
  · refine PC.walk tok mixed cfg0 Try.func63 rfl Try.call63 (by simp [belAll_append, bel_ints, bel_bools, bel_rows, bel_slI, bel_slR, bel_slB, bel_encT, bel_ixs]) (by first | rfl | simp [belAll_append, bel_ints, bel_bools, bel_rows, bel_slI, bel_slR, bel_slB, bel_encT, bel_ixs]) ?_; simp (maxSteps := 2000000) -implicitDefEqProofs +contextual (disch := first | assumption | omega | decide +kernel) only [push_cast, ↓capI, br2_true, br2_false, frk_tt, frk_tf, frk_f, frkD_tt, frkD_tf, frkD_f, pk2_true, pk2_false, imp_true, seval, Nat.reduceLeDiff, Nat.reduceEqDiff, reduceCtorEq, ↓reduceIte, cfg0, ones_ints, ones_bools, getV_map, getV_mapO, List.length_map, Nat.mul_one, slI, slR, slB, encT, Try.ntmps63]
    simp (maxSteps := 2000000) -implicitDefEqProofs +contextual (disch := first | assumption | omega | decide +kernel) only [push_cast, ↓capI, br2_true, br2_false, frk_tt, frk_tf, frk_f, frkD_tt, frkD_tf, frkD_f, pk2_true, pk2_false, imp_true, seval, Nat.reduceLeDiff, Nat.reduceEqDiff, reduceCtorEq, ↓reduceIte, cfg0, ones_ints, ones_bools, getV_map, getV_mapO, List.length_map, Nat.mul_one, slI, slR, slB, encT, hic, hjc, hcc]
    refine T.lp tok mixed cfg0 (fun ((s : Nat)) => dd 1 (kp 4 (dd 4 (sv (.int .i64 (s : Int)) (dd 40 (nl)))))) (fun H0 ((s : Nat)) => H0) (fun ((s : Nat)) => s ≤ m ∧ (next[i].take s).map (fC c) = (next[j].take s).map (fC c)) (fun ((s : Nat)) => m - s) (0) ?_ ?_ ?_
    · exact ⟨by omega, rfl⟩
    · exact Gn.canon (J := _) (by first | rfl | (simp [List.append_nil, encT, slR, slB, slI, refN0]; done) | (simp [List.append_nil, encT, slR, slB, slI, refN0]; rfl)) (by simp [wk, refN0, putT, kp, dd, sv, nl]) (by simp [List.length_append]) (by simp [belAll_append, bel_ints, bel_bools, bel_rows, bel_slI, bel_slR, bel_slB, bel_encT, bel_ixs, kp, dd, sv, nl]) (by simp [belAll_append, bel_ints, bel_bools, bel_rows, bel_slI, bel_slR, bel_slB, bel_encT, bel_ixs])
    · intro s hs
      obtain ⟨hs, he⟩ := hs
      by_cases hlt : s < m
      · have hsi : s < next[i].length := by omega
        have hsj : s < next[j].length := by omega
        have hxi := hgi _ (List.getElem_mem hsi)
        have hxj := hgj _ (List.getElem_mem hsj)
        have h1 := pc43 (c := c) (x := next[i][s]) (by omega)
        have h2 := pc43 (c := c) (x := next[j][s]) (by omega)
        rw [show (if 0 ≤ next[i][s] then gI c next[i][s] else -1) = fC c next[i][s] from rfl] at h1
        rw [show (if 0 ≤ next[j][s] then gI c next[j][s] else -1) = fC c next[j][s] from rfl] at h2
        by_cases heq : fC c next[i][s] = fC c next[j][s]
        · have he2 : (next[i].take (s + 1)).map (fC c) = (next[j].take (s + 1)).map (fC c) := by
            rw [List.take_succ_eq_append_getElem hsi, List.take_succ_eq_append_getElem hsj, List.map_append, List.map_append, he, List.map_singleton, List.map_singleton, heq]
          simp (maxSteps := 2000000) -implicitDefEqProofs +contextual (disch := first | assumption | omega | decide +kernel) only [push_cast, ↓capI, br2_true, br2_false, frk_tt, frk_tf, frk_f, frkD_tt, frkD_tf, frkD_f, pk2_true, pk2_false, imp_true, seval, Nat.reduceLeDiff, Nat.reduceEqDiff, reduceCtorEq, ↓reduceIte, cfg0, ones_ints, ones_bools, getV_map, getV_mapO, List.length_map, Nat.mul_one, slI, slR, slB, encT, hin, hjn, hsi, hsj]
          refine callG.pc1 h1 ?_
          simp (maxSteps := 2000000) -implicitDefEqProofs +contextual (disch := first | assumption | omega | decide +kernel) only [push_cast, ↓capI, br2_true, br2_false, frk_tt, frk_tf, frk_f, frkD_tt, frkD_tf, frkD_f, pk2_true, pk2_false, imp_true, seval, Nat.reduceLeDiff, Nat.reduceEqDiff, reduceCtorEq, ↓reduceIte, cfg0, ones_ints, ones_bools, getV_map, getV_mapO, List.length_map, Nat.mul_one, slI, slR, slB, encT]
          refine callG.pc1 h2 ?_
          simp (maxSteps := 2000000) -implicitDefEqProofs +contextual (disch := first | assumption | omega | decide +kernel) only [push_cast, ↓capI, br2_true, br2_false, frk_tt, frk_tf, frk_f, frkD_tt, frkD_tf, frkD_f, pk2_true, pk2_false, imp_true, seval, Nat.reduceLeDiff, Nat.reduceEqDiff, reduceCtorEq, ↓reduceIte, cfg0, ones_ints, ones_bools, getV_map, getV_mapO, List.length_map, Nat.mul_one, slI, slR, slB, encT, heq]
          refine ⟨(s + 1), ⟨by omega, he2⟩, by (try simp only); omega, ?_⟩; exact Gn.canon (by first | rfl | (simp [List.append_nil, encT, slR, slB, slI, refN0]; rfl)) (by simp [wk, refN0]) (by simp [List.length_append]) (by simp [belAll_append, bel_ints, bel_bools, bel_rows, bel_slI, bel_slR, bel_slB, bel_encT, bel_ixs]) (by simp [belAll_append, bel_ints, bel_bools, bel_rows, bel_slI, bel_slR, bel_slB, bel_encT, bel_ixs])
        · have hne : ¬ (c[j] :: next[i].map (fC c) = c[j] :: next[j].map (fC c)) := fun h => by
            injection h with _ h
            have e1 : (next[i].map (fC c))[s]? = (next[j].map (fC c))[s]? := by rw [h]
            rw [List.getElem?_map, List.getElem?_map, List.getElem?_eq_getElem hsi, List.getElem?_eq_getElem hsj] at e1
            simp only [Option.map_some, Option.some.injEq] at e1
            exact heq e1
          rw [decide_eq_false hne]
          simp (maxSteps := 2000000) -implicitDefEqProofs +contextual (disch := first | assumption | omega | decide +kernel) only [push_cast, ↓capI, br2_true, br2_false, frk_tt, frk_tf, frk_f, frkD_tt, frkD_tf, frkD_f, pk2_true, pk2_false, imp_true, seval, Nat.reduceLeDiff, Nat.reduceEqDiff, reduceCtorEq, ↓reduceIte, cfg0, ones_ints, ones_bools, getV_map, getV_mapO, List.length_map, Nat.mul_one, slI, slR, slB, encT, hin, hjn, hsi, hsj]
          refine callG.pc1 h1 ?_
          simp (maxSteps := 2000000) -implicitDefEqProofs +contextual (disch := first | assumption | omega | decide +kernel) only [push_cast, ↓capI, br2_true, br2_false, frk_tt, frk_tf, frk_f, frkD_tt, frkD_tf, frkD_f, pk2_true, pk2_false, imp_true, seval, Nat.reduceLeDiff, Nat.reduceEqDiff, reduceCtorEq, ↓reduceIte, cfg0, ones_ints, ones_bools, getV_map, getV_mapO, List.length_map, Nat.mul_one, slI, slR, slB, encT]
          refine callG.pc1 h2 ?_
          simp (maxSteps := 2000000) -implicitDefEqProofs +contextual (disch := first | assumption | omega | decide +kernel) only [push_cast, ↓capI, br2_true, br2_false, frk_tt, frk_tf, frk_f, frkD_tt, frkD_tf, frkD_f, pk2_true, pk2_false, imp_true, seval, Nat.reduceLeDiff, Nat.reduceEqDiff, reduceCtorEq, ↓reduceIte, cfg0, ones_ints, ones_bools, getV_map, getV_mapO, List.length_map, Nat.mul_one, slI, slR, slB, encT, heq]
          refine endK.ret ?_ (by first | rfl | simp [belAll_append, bel_ints, bel_bools, bel_rows, bel_slI, bel_slR, bel_slB, bel_encT, bel_ixs]); simp [evRes, getT, retV, Try.f63]
      · have hsm : s = m := by omega
        have hsi : ¬ s < next[i].length := by omega
        have heq : c[j] :: next[i].map (fC c) = c[j] :: next[j].map (fC c) := by
          rw [List.take_of_length_le (by omega), List.take_of_length_le (by omega)] at he
          rw [he]
        rw [decide_eq_true heq]
        simp (maxSteps := 2000000) -implicitDefEqProofs +contextual (disch := first | assumption | omega | decide +kernel) only [push_cast, ↓capI, br2_true, br2_false, frk_tt, frk_tf, frk_f, frkD_tt, frkD_tf, frkD_f, pk2_true, pk2_false, imp_true, seval, Nat.reduceLeDiff, Nat.reduceEqDiff, reduceCtorEq, ↓reduceIte, cfg0, ones_ints, ones_bools, getV_map, getV_mapO, List.length_map, Nat.mul_one, slI, slR, slB, encT, hin, hsi]
        refine endK.ret ?_ (by first | rfl | simp [belAll_append, bel_ints, bel_bools, bel_rows, bel_slI, bel_slR, bel_slB, bel_encT, bel_ixs]); simp [evRes, getT, retV, Try.f63]
  · rw [decide_eq_false (fun h => hcc (by injection h))]
    refine PC.walk tok mixed cfg0 Try.func63 rfl Try.call63 (by simp [belAll_append, bel_ints, bel_bools, bel_rows, bel_slI, bel_slR, bel_slB, bel_encT, bel_ixs]) (by first | rfl | simp [belAll_append, bel_ints, bel_bools, bel_rows, bel_slI, bel_slR, bel_slB, bel_encT, bel_ixs]) ?_; simp (maxSteps := 2000000) -implicitDefEqProofs +contextual (disch := first | assumption | omega | decide +kernel) only [push_cast, ↓capI, br2_true, br2_false, frk_tt, frk_tf, frk_f, frkD_tt, frkD_tf, frkD_f, pk2_true, pk2_false, imp_true, seval, Nat.reduceLeDiff, Nat.reduceEqDiff, reduceCtorEq, ↓reduceIte, cfg0, ones_ints, ones_bools, getV_map, getV_mapO, List.length_map, Nat.mul_one, slI, slR, slB, encT, Try.ntmps63]
    (try simp (maxSteps := 2000000) -implicitDefEqProofs +contextual (disch := first | assumption | omega | decide +kernel) only [push_cast, ↓capI, br2_true, br2_false, frk_tt, frk_tf, frk_f, frkD_tt, frkD_tf, frkD_f, pk2_true, pk2_false, imp_true, seval, Nat.reduceLeDiff, Nat.reduceEqDiff, reduceCtorEq, ↓reduceIte, cfg0, ones_ints, ones_bools, getV_map, getV_mapO, List.length_map, Nat.mul_one, slI, slR, slB, encT, hic, hjc, hcc])
    refine endK.ret ?_ (by first | rfl | simp [belAll_append, bel_ints, bel_bools, bel_rows, bel_slI, bel_slR, bel_slB, bel_encT, bel_ixs]); simp [evRes, getT, retV, Try.f63]
end Go.Proofs.Ytkjffppioddnpaa

/- Chapter 42: one round of refining, by the reference. -/
set_option maxRecDepth 100000
set_option maxHeartbeats 4000000
set_option linter.all false
namespace Go.Proofs.Ytkjffppioddnpaa
open Go.Vm
def sgq (t : Tb) (c : List Int) (q : Nat) : List Int := sigO c (t.next.getD q []) q
abbrev nI (q : Nat) : V := .int .i64 (q : Int)
def cfgR : Cfg := { lv := [], ef := [40], ord := [], em := [] }
def fnd (t : Tb) (c : List Int) (i : Nat) (F : List Nat) (j : Nat) : Int := match idxL (sgq t c i) ((F.take j).map (sgq t c)) with | some k => (k : Int) | none => -1
theorem idxL_app {x : List Int} : ∀ {a b : List (List Int)}, idxL x (a ++ b) = match idxL x a with | some k => some k | none => (idxL x b).map (· + a.length)
  | [], b => by simp [idxL]
  | y :: a, b => by
    simp only [List.cons_append, idxL]
    by_cases e : x = y
    · simp [e]
    · simp only [e, if_false, idxL_app (a := a) (b := b)]
      cases idxL x a with
      | some k => rfl
      | none =>
        simp only [Option.map_none, List.length_cons]
        cases idxL x b <;> simp
        omega
theorem fnd_succ {t : Tb} {c : List Int} {i : Nat} {F : List Nat} {j : Nat} (h : j < F.length) :
    fnd t c i F (j + 1) = if fnd t c i F j < 0 ∧ sgq t c F[j] = sgq t c i then (j : Int) else fnd t c i F j := by
  rw [fnd, List.take_succ_eq_append_getElem h, List.map_append, idxL_app, fnd]
  cases hk : idxL (sgq t c i) ((F.take j).map (sgq t c)) with
  | some k => simp; intro h; omega
  | none =>
    simp only [List.map_cons, List.map_nil, idxL]
    by_cases e : sgq t c i = sgq t c F[j]
    · rw [if_pos e, if_pos ⟨by decide, e.symm⟩]
      simp [Nat.min_eq_left (Nat.le_of_lt h)]
    · rw [if_neg e, if_neg (fun h => e h.2.symm)]
      rfl
theorem pc55 {n m : Nat} {t : Tb} (ht : okT n m t) {c : List Int} (hc : c.length = n) : PC Try.prog 55 [.agg (encT t), slI c] (.tup [slI (ref t c).1, .int .i64 ((ref t c).2.length : Int)]) := by
  have hn1 := ht.rows
  have hpos := ht.pos
  have hbig := ht.big
  have hcols := ht.cols
  have h63 := fun i j (hi : i < n) (hj : j < n) => pc63 ht hc hi hj
  have hfin := refN_len t c n
  rw [show ref t c = refN t c n by rw [ref, hn1]]
  obtain ⟨next, acc⟩ := t
  simp only at hn1
  obtain ⟨F0, hF0⟩ : ∃ F0 : List Nat, F0 = [] := ⟨_, rfl⟩
  refine PC.walk tok mixed cfg0 Try.func55 rfl Try.call55 (by simp [belAll_append, bel_ints, bel_bools, bel_rows, bel_slI, bel_slR, bel_slB, bel_encT, bel_ixs]) (by first | rfl | simp [belAll_append, bel_ints, bel_bools, bel_rows, bel_slI, bel_slR, bel_slB, bel_encT, bel_ixs]) ?_; simp (maxSteps := 2000000) -implicitDefEqProofs +contextual (disch := first | assumption | omega | decide +kernel) only [push_cast, ↓capI, br2_true, br2_false, frk_tt, frk_tf, frk_f, frkD_tt, frkD_tf, frkD_f, pk2_true, pk2_false, imp_true, seval, Nat.reduceLeDiff, Nat.reduceEqDiff, reduceCtorEq, ↓reduceIte, cfg0, cfgR, ones_ints, ones_bools, getV_map, getV_mapO, List.length_map, Nat.mul_one, slI, slR, slB, encT, Try.ntmps55]
  refine T.lp tok mixed cfg0 (fun ((s : Nat × List Nat)) => dd 1 (kp 2 (dd 3 (sv (.buf 1 s.1 0 s.1 1) (sv (.buf 2 s.2.length 0 s.2.length 1) (sv (.int .i64 (s.1 : Int)) (dd 56 (nl)))))))) (fun H0 ((s : Nat × List Nat)) => [.cells 0 (encT ⟨next, acc⟩), .cells s.1 ((refN ⟨next, acc⟩ c s.1).1.map (.int .i64)), .cells s.2.length (s.2.map nI)]) (fun ((s : Nat × List Nat)) => s.1 ≤ n ∧ s.2.map (sgq ⟨next, acc⟩ c) = (refN ⟨next, acc⟩ c s.1).2 ∧ (∀ q ∈ s.2, q < n) ∧ s.2.length ≤ s.1) (fun ((s : Nat × List Nat)) => n - s.1) ((0, [])) ?_ ?_ ?_
  · exact ⟨by simp only; omega, rfl, fun q hq => by simp at hq, by simp⟩
  · refine (Gn.ownNil (t := 6) (sz := 1) rfl).trans ((Gn.ownNil (t := 7) (sz := 1) rfl).trans ?_)
    exact Gn.canon (J := []) (by simp [List.append_nil, encT, slR, slB, slI, refN0]) (by simp [wk, refN0, putT, putT, kp, dd, sv, nl]) (by simp [List.length_append]) (by simp [belAll_append, bel_ints, bel_bools, bel_rows, bel_slI, bel_slR, bel_slB, bel_encT, bel_ixs, kp, dd, sv, nl]) (by simp [belAll_append, bel_ints, bel_bools, bel_rows, bel_slI, bel_slR, bel_slB, bel_encT, bel_ixs])
  · intro s hs
    obtain ⟨i, F⟩ := s
    obtain ⟨hi, hF, hFn, hFl⟩ := hs
    simp only at hi hF hFn hFl
    have hrl := refN_len ⟨next, acc⟩ c i
    have hnx : refN ⟨next, acc⟩ c (i + 1) = refI ⟨next, acc⟩ c i (refN ⟨next, acc⟩ c i) := rfl
    have hsl := congrArg List.length hF
    rw [List.length_map] at hsl
    have hlast : i = n → refN ⟨next, acc⟩ c n = refN ⟨next, acc⟩ c i := fun e => by rw [e]
    generalize hR : refN ⟨next, acc⟩ c i = r at hrl hnx hF hsl hlast
    simp only [hR]
    obtain ⟨out, sigs⟩ := r
    simp only at hrl hF hsl
    by_cases hlt : i < n
    · have hic : i < c.length := by omega
      have hgc : c.getD i 0 = c[i] := lgetD hic
      have hFd : fnd ⟨next, acc⟩ c i F F.length = match idxL (sgq ⟨next, acc⟩ c i) sigs with | some k => (k : Int) | none => -1 := by rw [fnd, List.take_length, hF]
      simp (maxSteps := 2000000) -implicitDefEqProofs +contextual (disch := first | assumption | omega | decide +kernel) only [push_cast, ↓capI, br2_true, br2_false, frk_tt, frk_tf, frk_f, frkD_tt, frkD_tf, frkD_f, pk2_true, pk2_false, imp_true, seval, Nat.reduceLeDiff, Nat.reduceEqDiff, reduceCtorEq, ↓reduceIte, cfg0, cfgR, ones_ints, ones_bools, getV_map, getV_mapO, List.length_map, Nat.mul_one, slI, slR, slB, encT, hlt, hic]
      refine T.lp tok mixed cfg0 (fun ((j : Nat)) => dd 1 (kp 2 (dd 3 (kp 3 (sv (.int .i64 (fnd ⟨next, acc⟩ c i F j)) (sv (.int .i64 (j : Int)) (dd 54 (nl)))))))) (fun H0 ((j : Nat)) => H0) (fun ((j : Nat)) => j ≤ F.length ∧ (c[i] < 0 → j = 0)) (fun ((j : Nat)) => F.length - j) (0) ?_ ?_ ?_
      · exact ⟨by omega, fun _ => rfl⟩
      · exact Gn.canon (J := []) (by simp [List.append_nil, encT, slR, slB, slI, refN0]) (by simp [wk, refN0, putT, putT, kp, dd, sv, nl, fnd, idxL]) (by simp [List.length_append]) (by simp [belAll_append, bel_ints, bel_bools, bel_rows, bel_slI, bel_slR, bel_slB, bel_encT, bel_ixs, kp, dd, sv, nl]) (by simp [belAll_append, bel_ints, bel_bools, bel_rows, bel_slI, bel_slR, bel_slB, bel_encT, bel_ixs])
      · intro j hj
        obtain ⟨hj, hneg0⟩ := hj
        by_cases hneg : c[i] < 0
        · have hj0 := hneg0 hneg
          subst hj0
          have hf0 : fnd ⟨next, acc⟩ c i F 0 = -1 := rfl
          have hI : refI ⟨next, acc⟩ c i (out, sigs) = (out ++ [-1], sigs) := by rw [refI, hgc, if_pos hneg]
          rw [hI] at hnx
          by_cases hj1 : 0 < F.length
          · simp (maxSteps := 2000000) -implicitDefEqProofs +contextual (disch := first | assumption | omega | decide +kernel) only [push_cast, ↓capI, br2_true, br2_false, frk_tt, frk_tf, frk_f, frkD_tt, frkD_tf, frkD_f, pk2_true, pk2_false, imp_true, seval, Nat.reduceLeDiff, Nat.reduceEqDiff, reduceCtorEq, ↓reduceIte, cfg0, cfgR, ones_ints, ones_bools, getV_map, getV_mapO, List.length_map, Nat.mul_one, slI, slR, slB, encT, hj1, hic, hneg, hf0]
            refine ⟨(i + 1, F), ⟨by simp only; omega, by rw [hnx]; exact hF, hFn, by simp only; omega⟩, by (try simp only); omega, ?_⟩; exact Gn.canon (by first | rfl | (simp [List.append_nil, encT, slR, slB, slI, refN0, hnx]; rfl)) (by simp [wk, refN0, putT, hnx]) (by simp [List.length_append]) (by simp [belAll_append, bel_ints, bel_bools, bel_rows, bel_slI, bel_slR, bel_slB, bel_encT, bel_ixs]) (by simp [belAll_append, bel_ints, bel_bools, bel_rows, bel_slI, bel_slR, bel_slB, bel_encT, bel_ixs])
          · simp (maxSteps := 2000000) -implicitDefEqProofs +contextual (disch := first | assumption | omega | decide +kernel) only [push_cast, ↓capI, br2_true, br2_false, frk_tt, frk_tf, frk_f, frkD_tt, frkD_tf, frkD_f, pk2_true, pk2_false, imp_true, seval, Nat.reduceLeDiff, Nat.reduceEqDiff, reduceCtorEq, ↓reduceIte, cfg0, cfgR, ones_ints, ones_bools, getV_map, getV_mapO, List.length_map, Nat.mul_one, slI, slR, slB, encT, hj1, hic, hneg, hf0]
            refine ⟨(i + 1, F), ⟨by simp only; omega, by rw [hnx]; exact hF, hFn, by simp only; omega⟩, by (try simp only); omega, ?_⟩; exact Gn.canon (by first | rfl | (simp [List.append_nil, encT, slR, slB, slI, refN0, hnx]; rfl)) (by simp [wk, refN0, putT, hnx]) (by simp [List.length_append]) (by simp [belAll_append, bel_ints, bel_bools, bel_rows, bel_slI, bel_slR, bel_slB, bel_encT, bel_ixs]) (by simp [belAll_append, bel_ints, bel_bools, bel_rows, bel_slI, bel_slR, bel_slB, bel_encT, bel_ixs])
        · by_cases hjl : j < F.length
          · have hs := fnd_succ (t := ⟨next, acc⟩) (c := c) (i := i) hjl
            have hFj := hFn F[j] (List.getElem_mem hjl)
            have hcall := h63 F[j] i hFj hlt
            by_cases hk : fnd ⟨next, acc⟩ c i F j < 0
            · by_cases he : sgq ⟨next, acc⟩ c F[j] = sgq ⟨next, acc⟩ c i
              · rw [if_pos ⟨hk, he⟩] at hs
                rw [show decide (sigO c ((⟨next, acc⟩ : Tb).next.getD F[j] []) F[j] = sigO c ((⟨next, acc⟩ : Tb).next.getD i []) i) = true from decide_eq_true he] at hcall
                simp (maxSteps := 2000000) -implicitDefEqProofs +contextual (disch := first | assumption | omega | decide +kernel) only [push_cast, ↓capI, br2_true, br2_false, frk_tt, frk_tf, frk_f, frkD_tt, frkD_tf, frkD_f, pk2_true, pk2_false, imp_true, seval, Nat.reduceLeDiff, Nat.reduceEqDiff, reduceCtorEq, ↓reduceIte, cfg0, cfgR, ones_ints, ones_bools, getV_map, getV_mapO, List.length_map, Nat.mul_one, slI, slR, slB, encT, hjl, hic, hneg, hk]
                refine callG.pc1 hcall ?_
                simp (maxSteps := 2000000) -implicitDefEqProofs +contextual (disch := first | assumption | omega | decide +kernel) only [push_cast, ↓capI, br2_true, br2_false, frk_tt, frk_tf, frk_f, frkD_tt, frkD_tf, frkD_f, pk2_true, pk2_false, imp_true, seval, Nat.reduceLeDiff, Nat.reduceEqDiff, reduceCtorEq, ↓reduceIte, cfg0, cfgR, ones_ints, ones_bools, getV_map, getV_mapO, List.length_map, Nat.mul_one, slI, slR, slB, encT]
                refine ⟨(j + 1), by omega, by (try simp only); omega, ?_⟩; exact Gn.canon (by first | rfl | (simp [List.append_nil, encT, slR, slB, slI, refN0, hs]; rfl)) (by simp [wk, refN0, putT, hs]) (by simp [List.length_append]) (by simp [belAll_append, bel_ints, bel_bools, bel_rows, bel_slI, bel_slR, bel_slB, bel_encT, bel_ixs]) (by simp [belAll_append, bel_ints, bel_bools, bel_rows, bel_slI, bel_slR, bel_slB, bel_encT, bel_ixs])
              · rw [if_neg (fun h => he h.2)] at hs
                rw [show decide (sigO c ((⟨next, acc⟩ : Tb).next.getD F[j] []) F[j] = sigO c ((⟨next, acc⟩ : Tb).next.getD i []) i) = false from decide_eq_false he] at hcall
                simp (maxSteps := 2000000) -implicitDefEqProofs +contextual (disch := first | assumption | omega | decide +kernel) only [push_cast, ↓capI, br2_true, br2_false, frk_tt, frk_tf, frk_f, frkD_tt, frkD_tf, frkD_f, pk2_true, pk2_false, imp_true, seval, Nat.reduceLeDiff, Nat.reduceEqDiff, reduceCtorEq, ↓reduceIte, cfg0, cfgR, ones_ints, ones_bools, getV_map, getV_mapO, List.length_map, Nat.mul_one, slI, slR, slB, encT, hjl, hic, hneg, hk]
                refine callG.pc1 hcall ?_
                simp (maxSteps := 2000000) -implicitDefEqProofs +contextual (disch := first | assumption | omega | decide +kernel) only [push_cast, ↓capI, br2_true, br2_false, frk_tt, frk_tf, frk_f, frkD_tt, frkD_tf, frkD_f, pk2_true, pk2_false, imp_true, seval, Nat.reduceLeDiff, Nat.reduceEqDiff, reduceCtorEq, ↓reduceIte, cfg0, cfgR, ones_ints, ones_bools, getV_map, getV_mapO, List.length_map, Nat.mul_one, slI, slR, slB, encT]
                refine ⟨(j + 1), by omega, by (try simp only); omega, ?_⟩; exact Gn.canon (by first | rfl | (simp [List.append_nil, encT, slR, slB, slI, refN0, hs]; rfl)) (by simp [wk, refN0, putT, hs]) (by simp [List.length_append]) (by simp [belAll_append, bel_ints, bel_bools, bel_rows, bel_slI, bel_slR, bel_slB, bel_encT, bel_ixs]) (by simp [belAll_append, bel_ints, bel_bools, bel_rows, bel_slI, bel_slR, bel_slB, bel_encT, bel_ixs])
            · rw [if_neg (fun h => hk h.1)] at hs
              simp (maxSteps := 2000000) -implicitDefEqProofs +contextual (disch := first | assumption | omega | decide +kernel) only [push_cast, ↓capI, br2_true, br2_false, frk_tt, frk_tf, frk_f, frkD_tt, frkD_tf, frkD_f, pk2_true, pk2_false, imp_true, seval, Nat.reduceLeDiff, Nat.reduceEqDiff, reduceCtorEq, ↓reduceIte, cfg0, cfgR, ones_ints, ones_bools, getV_map, getV_mapO, List.length_map, Nat.mul_one, slI, slR, slB, encT, hjl, hic, hneg, hk]
              refine ⟨(j + 1), by omega, by (try simp only); omega, ?_⟩; exact Gn.canon (by first | rfl | (simp [List.append_nil, encT, slR, slB, slI, refN0, hs]; rfl)) (by simp [wk, refN0, putT, hs]) (by simp [List.length_append]) (by simp [belAll_append, bel_ints, bel_bools, bel_rows, bel_slI, bel_slR, bel_slB, bel_encT, bel_ixs]) (by simp [belAll_append, bel_ints, bel_bools, bel_rows, bel_slI, bel_slR, bel_slB, bel_encT, bel_ixs])
          · have hjn : j = F.length := by omega
            subst hjn
            have hsgi : sigO c (next.getD i []) i = sgq ⟨next, acc⟩ c i := rfl
            cases hik : idxL (sgq ⟨next, acc⟩ c i) sigs with
            | some k =>
              rw [hik] at hFd
              simp only at hFd
              have hI : refI ⟨next, acc⟩ c i (out, sigs) = (out ++ [(k : Int)], sigs) := by rw [refI, hgc, if_neg hneg, hsgi]; simp only [hik]
              rw [hI] at hnx
              simp (maxSteps := 2000000) -implicitDefEqProofs +contextual (disch := first | assumption | omega | decide +kernel) only [push_cast, ↓capI, br2_true, br2_false, frk_tt, frk_tf, frk_f, frkD_tt, frkD_tf, frkD_f, pk2_true, pk2_false, imp_true, seval, Nat.reduceLeDiff, Nat.reduceEqDiff, reduceCtorEq, ↓reduceIte, cfg0, cfgR, ones_ints, ones_bools, getV_map, getV_mapO, List.length_map, Nat.mul_one, slI, slR, slB, encT, hjl, hic, hneg, hFd]
              refine ⟨(i + 1, F), ⟨by simp only; omega, by rw [hnx]; exact hF, hFn, by simp only; omega⟩, by (try simp only); omega, ?_⟩; exact Gn.canon (by first | rfl | (simp [List.append_nil, encT, slR, slB, slI, refN0, hnx]; rfl)) (by simp [wk, refN0, putT, hnx]) (by simp [List.length_append]) (by simp [belAll_append, bel_ints, bel_bools, bel_rows, bel_slI, bel_slR, bel_slB, bel_encT, bel_ixs]) (by simp [belAll_append, bel_ints, bel_bools, bel_rows, bel_slI, bel_slR, bel_slB, bel_encT, bel_ixs])
            | none =>
              rw [hik] at hFd
              simp only at hFd
              have hI : refI ⟨next, acc⟩ c i (out, sigs) = (out ++ [(sigs.length : Int)], sigs ++ [sgq ⟨next, acc⟩ c i]) := by rw [refI, hgc, if_neg hneg, hsgi]; simp only [hik]
              rw [hI] at hnx
              simp (maxSteps := 2000000) -implicitDefEqProofs +contextual (disch := first | assumption | omega | decide +kernel) only [push_cast, ↓capI, br2_true, br2_false, frk_tt, frk_tf, frk_f, frkD_tt, frkD_tf, frkD_f, pk2_true, pk2_false, imp_true, seval, Nat.reduceLeDiff, Nat.reduceEqDiff, reduceCtorEq, ↓reduceIte, cfg0, cfgR, ones_ints, ones_bools, getV_map, getV_mapO, List.length_map, Nat.mul_one, slI, slR, slB, encT, hjl, hic, hneg, hFd]
              refine ⟨(i + 1, F ++ [i]), ⟨by simp only; omega, by rw [hnx]; simp [hF], fun q hq => by rcases List.mem_append.1 hq with hq | hq; exact hFn q hq; rw [List.mem_singleton] at hq; omega, by simp; omega⟩, by (try simp only); omega, ?_⟩; exact Gn.canon (by first | rfl | (simp [List.append_nil, encT, slR, slB, slI, refN0, hnx, hsl]; rfl)) (by simp [wk, refN0, putT, hnx, hsl]) (by simp [List.length_append]) (by simp [belAll_append, bel_ints, bel_bools, bel_rows, bel_slI, bel_slR, bel_slB, bel_encT, bel_ixs]) (by simp [belAll_append, bel_ints, bel_bools, bel_rows, bel_slI, bel_slR, bel_slB, bel_encT, bel_ixs])
    · have hin : i = n := by omega
      subst hin
      have hic : ¬ i < c.length := by omega
      rw [hlast rfl]
      simp (maxSteps := 2000000) -implicitDefEqProofs +contextual (disch := first | assumption | omega | decide +kernel) only [push_cast, ↓capI, br2_true, br2_false, frk_tt, frk_tf, frk_f, frkD_tt, frkD_tf, frkD_f, pk2_true, pk2_false, imp_true, seval, Nat.reduceLeDiff, Nat.reduceEqDiff, reduceCtorEq, ↓reduceIte, cfg0, cfgR, ones_ints, ones_bools, getV_map, getV_mapO, List.length_map, Nat.mul_one, slI, slR, slB, encT, hic]
      refine endK.gn (Gn.freeze (id := 1) rfl) ?_; refine endK.ret ?_ (by first | rfl | simp [belAll_append, bel_ints, bel_bools, bel_rows, bel_slI, bel_slR, bel_slB, bel_encT, bel_ixs]); simp [belAll_append, bel_ints, bel_bools, bel_rows, bel_slI, bel_slR, bel_slB, bel_encT, bel_ixs, fzs_ok, imp, lenOK_iff, List.take_of_length_le, evRes, getT, getO, setO, fzs, fz, fzH, Nat.beq, retV, Res.then, ldT, ldR, mkV, getV, cfg0, cfgR, ones_ints, ones_bools, getV_map, getV_mapO, List.length_map, Nat.mul_one, slI, slR, slB, encT, Try.f55,  slI, hrl, hsl]
end Go.Proofs.Ytkjffppioddnpaa

/- Chapter 42: the classes of a table, by the reference. -/
set_option maxRecDepth 100000
set_option maxHeartbeats 4000000
set_option linter.all false
namespace Go.Proofs.Ytkjffppioddnpaa
open Go.Vm
theorem bel_takeI {n k : Nat} (l : List Int) : belAll n (List.take k (l.map (V.int .i64))) = true := by rw [← List.map_take]; exact bel_ints _
def parR (t : Tb) : Nat → List Int → Nat → Option (List Int)
  | 0, c, _ => some c
  | k + 1, c, cnt => if 64 < (ref t c).2.length then none else if (ref t c).2.length = cnt then some (ref t c).1 else parR t k (ref t c).1 (ref t c).2.length
def parO (t : Tb) : Option (List Int) := parR t (t.next.length + 2) (cls0 t) 0
def parV : Option (List Int) → V
  | some c => .tup [slI c, .bool true]
  | none => .tup [.sl true [] 0, .bool false]
theorem bel_parV {n : Nat} (o : Option (List Int)) : (parV o).bel n = true := by
  cases o with
  | none => rfl
  | some c => rw [parV, bel_tup, belAll_cons, belAll_cons, bel_slI]; rfl
theorem parR_any (t : Tb) : ∀ (k : Nat) (c : List Int) (cnt : Nat), c.length = t.next.length → (∀ j, j < cnt → ((j : Nat) : Int) ∈ c) → t.next.length + 1 ≤ k + cnt → ∀ k', t.next.length + 1 ≤ k' + cnt → 0 < k → 0 < k' → parR t k c cnt = parR t k' c cnt := by
  intro k
  induction k with
  | zero => intro c cnt _ _ _ k' _ h; omega
  | succ k ih =>
    intro c cnt hl hm hk k' hk' _ h0'
    cases k' with
    | zero => omega
    | succ k' =>
      rw [parR, parR]
      split
      · rfl
      · split
        · rfl
        · rename_i hne
          have h1 := ref_ge t c hl hm
          have h2 := ref_le t c
          have hok := refN_ok t c t.next.length
          exact ih (ref t c).1 (ref t c).2.length (ref_len t c) hok.met (by omega) k' (by omega) (by omega) (by omega)
theorem pc42 {n m : Nat} {t : Tb} (ht : okT n m t) : PC Try.prog 42 [.agg (encT t)] (parV (parO t)) := by
  have h54 := pc54 ht
  have h55 := fun (c : List Int) (hc : c.length = n) => pc55 ht hc
  have hn1 := ht.rows
  have hn2 := ht.accs
  have hpos := ht.pos
  have hbig := ht.big
  have hll := liveS_len t
  have hcl := cls0_len t
  have hat := fun q (h : q < t.next.length) => cls0_at h
  have hrl := ref_len t
  have hge := fun (c : List Int) hc (cnt : Nat) hm => ref_ge t c hc (cnt := cnt) hm
  have hle := ref_le t
  have hok := fun c => refN_ok t c t.next.length
  have hany := fun k c cnt => parR_any t k c cnt
  obtain ⟨next, acc⟩ := t
  simp only at hn1 hn2 hll hcl hat hrl hge hle hok hany
  refine PC.walk tok mixed cfg0 Try.func42 rfl Try.call42 (by simp [belAll_append, bel_ints, bel_bools, bel_rows, bel_slI, bel_slR, bel_slB, bel_encT, bel_parV, bel_takeI]) (by first | rfl | simp [belAll_append, bel_ints, bel_bools, bel_rows, bel_slI, bel_slR, bel_slB, bel_encT, bel_parV, bel_takeI]) ?_; simp (maxSteps := 2000000) -implicitDefEqProofs +contextual (disch := first | assumption | omega | decide +kernel) only [push_cast, ↓capI, br2_true, br2_false, frk_tt, frk_tf, frk_f, frkD_tt, frkD_tf, frkD_f, pk2_true, pk2_false, imp_true, seval, Nat.reduceLeDiff, Nat.reduceEqDiff, reduceCtorEq, ↓reduceIte, cfg0, ones_ints, ones_bools, getV_map, getV_mapO, List.length_map, Nat.mul_one, slI, slR, slB, encT, Try.ntmps42]
  refine callO.pc h54 ?_
  simp (maxSteps := 2000000) -implicitDefEqProofs +contextual (disch := first | assumption | omega | decide +kernel) only [push_cast, ↓capI, br2_true, br2_false, frk_tt, frk_tf, frk_f, frkD_tt, frkD_tf, frkD_f, pk2_true, pk2_false, imp_true, seval, Nat.reduceLeDiff, Nat.reduceEqDiff, reduceCtorEq, ↓reduceIte, cfg0, ones_ints, ones_bools, getV_map, getV_mapO, List.length_map, Nat.mul_one, slI, slR, slB, encT]
  refine T.lp tok mixed cfg0 (fun ((i : Nat)) => dd 1 (kp 1 (dd 2 (kp 1 (sv (.buf 1 i 0 i 1) (kp 1 (sv (.int .i64 (i : Int)) (dd 38 (nl))))))))) (fun H0 ((i : Nat)) => [.cells 0 (encT ⟨next, acc⟩), .cells i (((cls0 ⟨next, acc⟩).take i).map (.int .i64))]) (fun ((i : Nat)) => i ≤ n) (fun ((i : Nat)) => n - i) (0) ?_ ?_ ?_
  · omega
  · refine (Gn.ownNil (t := 5) (sz := 1) rfl).trans ?_
    exact Gn.canon (J := []) (by simp [List.append_nil, encT, slR, slB, slI]) (by simp [wk, putT, kp, dd, sv, nl]) (by simp [List.length_append]) (by simp [belAll_append, bel_ints, bel_bools, bel_rows, bel_slI, bel_slR, bel_slB, bel_encT, bel_parV, bel_takeI, kp, dd, sv, nl]) (by simp [belAll_append, bel_ints, bel_bools, bel_rows, bel_slI, bel_slR, bel_slB, bel_encT, bel_parV, bel_takeI])
  · intro i hi
    have hi0 : i ≤ n := hi
    by_cases hlt : i < n
    · have hil : i < (liveS ⟨next, acc⟩).length := by omega
      have hia : i < acc.length := by omega
      have hic : i < (cls0 ⟨next, acc⟩).length := by omega
      have ha := hat i (by omega)
      rw [lgetD hil, lgetD hia] at ha
      have htk : (cls0 ⟨next, acc⟩).take (i + 1) = (cls0 ⟨next, acc⟩).take i ++ [(cls0 ⟨next, acc⟩)[i]] := List.take_succ_eq_append_getElem hic
      rw [List.getElem?_eq_getElem hic] at ha
      simp only [Option.some.injEq] at ha
      rw [ha] at htk
      have hlk : ((cls0 ⟨next, acc⟩).take i).length = i := by rw [List.length_take]; omega
      cases hb : (liveS ⟨next, acc⟩)[i] with
      | false =>
        rw [hb, if_pos rfl] at htk
        simp (maxSteps := 2000000) -implicitDefEqProofs +contextual (disch := first | assumption | omega | decide +kernel) only [push_cast, ↓capI, br2_true, br2_false, frk_tt, frk_tf, frk_f, frkD_tt, frkD_tf, frkD_f, pk2_true, pk2_false, imp_true, seval, Nat.reduceLeDiff, Nat.reduceEqDiff, reduceCtorEq, ↓reduceIte, cfg0, ones_ints, ones_bools, getV_map, getV_mapO, List.length_map, Nat.mul_one, slI, slR, slB, encT, hil, hb, hlk]
        refine ⟨(i + 1), by omega, by (try simp only); omega, ?_⟩; exact Gn.canon (by first | rfl | (simp [List.append_nil, encT, slR, slB, slI, htk, List.map_append]; rfl)) (by simp [wk, htk, List.map_append]) (by simp [List.length_append]) (by simp [belAll_append, bel_ints, bel_bools, bel_rows, bel_slI, bel_slR, bel_slB, bel_encT, bel_parV, bel_takeI]) (by simp [belAll_append, bel_ints, bel_bools, bel_rows, bel_slI, bel_slR, bel_slB, bel_encT, bel_parV, bel_takeI])
      | true =>
        rw [hb, if_neg (by decide)] at htk
        cases hb2 : acc[i] with
        | true =>
          rw [hb2, if_pos rfl] at htk
          simp (maxSteps := 2000000) -implicitDefEqProofs +contextual (disch := first | assumption | omega | decide +kernel) only [push_cast, ↓capI, br2_true, br2_false, frk_tt, frk_tf, frk_f, frkD_tt, frkD_tf, frkD_f, pk2_true, pk2_false, imp_true, seval, Nat.reduceLeDiff, Nat.reduceEqDiff, reduceCtorEq, ↓reduceIte, cfg0, ones_ints, ones_bools, getV_map, getV_mapO, List.length_map, Nat.mul_one, slI, slR, slB, encT, hil, hia, hb, hb2, hlk]
          refine ⟨(i + 1), by omega, by (try simp only); omega, ?_⟩; exact Gn.canon (by first | rfl | (simp [List.append_nil, encT, slR, slB, slI, htk, List.map_append]; rfl)) (by simp [wk, htk, List.map_append]) (by simp [List.length_append]) (by simp [belAll_append, bel_ints, bel_bools, bel_rows, bel_slI, bel_slR, bel_slB, bel_encT, bel_parV, bel_takeI]) (by simp [belAll_append, bel_ints, bel_bools, bel_rows, bel_slI, bel_slR, bel_slB, bel_encT, bel_parV, bel_takeI])
        | false =>
          rw [hb2, if_neg (by decide)] at htk
          simp (maxSteps := 2000000) -implicitDefEqProofs +contextual (disch := first | assumption | omega | decide +kernel) only [push_cast, ↓capI, br2_true, br2_false, frk_tt, frk_tf, frk_f, frkD_tt, frkD_tf, frkD_f, pk2_true, pk2_false, imp_true, seval, Nat.reduceLeDiff, Nat.reduceEqDiff, reduceCtorEq, ↓reduceIte, cfg0, ones_ints, ones_bools, getV_map, getV_mapO, List.length_map, Nat.mul_one, slI, slR, slB, encT, hil, hia, hb, hb2, hlk]
          refine ⟨(i + 1), by omega, by (try simp only); omega, ?_⟩; exact Gn.canon (by first | rfl | (simp [List.append_nil, encT, slR, slB, slI, htk, List.map_append]; rfl)) (by simp [wk, htk, List.map_append]) (by simp [List.length_append]) (by simp [belAll_append, bel_ints, bel_bools, bel_rows, bel_slI, bel_slR, bel_slB, bel_encT, bel_parV, bel_takeI]) (by simp [belAll_append, bel_ints, bel_bools, bel_rows, bel_slI, bel_slR, bel_slB, bel_encT, bel_parV, bel_takeI])
    · have hin : i = n := by omega
      subst hin
      have hil : ¬ i < (liveS ⟨next, acc⟩).length := by omega
      have htk : (cls0 ⟨next, acc⟩).take i = cls0 ⟨next, acc⟩ := List.take_of_length_le (by omega)
      simp (maxSteps := 2000000) -implicitDefEqProofs +contextual (disch := first | assumption | omega | decide +kernel) only [push_cast, ↓capI, br2_true, br2_false, frk_tt, frk_tf, frk_f, frkD_tt, frkD_tf, frkD_f, pk2_true, pk2_false, imp_true, seval, Nat.reduceLeDiff, Nat.reduceEqDiff, reduceCtorEq, ↓reduceIte, cfg0, ones_ints, ones_bools, getV_map, getV_mapO, List.length_map, Nat.mul_one, slI, slR, slB, encT, hil]
      refine T.lp tok mixed cfg0 (fun ((s : List Int × Nat)) => dd 1 (kp 1 (dd 3 (sv (slI s.1) (sv (.int .i64 (s.2 : Int)) (dd 39 (nl))))))) (fun H0 ((s : List Int × Nat)) => [.cells 0 (encT ⟨next, acc⟩), .dead]) (fun ((s : List Int × Nat)) => s.1.length = i ∧ (∀ j, j < s.2 → ((j : Nat) : Int) ∈ s.1) ∧ s.2 ≤ i ∧ parR ⟨next, acc⟩ (i + 2) s.1 s.2 = parO ⟨next, acc⟩) (fun ((s : List Int × Nat)) => i + 1 - s.2) ((cls0 ⟨next, acc⟩, 0)) ?_ ?_ ?_
      · exact ⟨by simp only; omega, fun j h => by omega, Nat.zero_le _, by rw [parO, ← hn1]⟩
      · refine (Gn.freeze (id := 1) rfl).trans ?_; exact Gn.canon (by first | rfl | (simp [List.append_nil, encT, slR, slB, slI, fzs, fz, fzs_ok, fzH, setO, getO, Nat.beq, List.take_of_length_le, belAll_append, bel_ints, bel_bools, bel_rows, bel_slI, bel_slR, bel_slB, bel_encT, bel_parV, bel_takeI, htk, hcl, hn1]; done) | (simp [List.append_nil, encT, slR, slB, slI, fzs, fz, fzs_ok, fzH, setO, getO, Nat.beq, List.take_of_length_le, belAll_append, bel_ints, bel_bools, bel_rows, bel_slI, bel_slR, bel_slB, bel_encT, bel_parV, bel_takeI, htk, hcl, hn1]; rfl)) (by simp [wk, putT, kp, dd, sv, nl, fzs, fz, fzs_ok, fzH, setO, getO, Nat.beq, List.take_of_length_le, belAll_append, bel_ints, bel_bools, bel_rows, bel_slI, bel_slR, bel_slB, bel_encT, bel_parV, bel_takeI, htk, hcl, hn1, cfg0, ones_ints, ones_bools, getV_map, getV_mapO, List.length_map, Nat.mul_one, slI, slR, slB, encT]) (by simp [List.length_append]) (by simp [belAll_append, bel_ints, bel_bools, bel_rows, bel_slI, bel_slR, bel_slB, bel_encT, bel_parV, bel_takeI, kp, dd, sv, nl]) (by simp [belAll_append, bel_ints, bel_bools, bel_rows, bel_slI, bel_slR, bel_slB, bel_encT, bel_parV, bel_takeI])
      · intro s hs
        obtain ⟨c, cnt⟩ := s
        obtain ⟨hcl2, hmet, hcnt, hpar⟩ := hs
        simp only at hcl2 hmet hcnt hpar
        have h55c := h55 c hcl2
        have hr1 := hrl c
        have hg1 := hge c (by omega) cnt hmet
        have hl1 := hle c
        have hokc := hok c
        rw [parR] at hpar
        rw [show refN ⟨next, acc⟩ c next.length = ref ⟨next, acc⟩ c from rfl] at hokc
        generalize ref ⟨next, acc⟩ c = r at h55c hr1 hg1 hl1 hokc hpar
        obtain ⟨out, sigs⟩ := r
        simp only at h55c hr1 hg1 hl1 hokc hpar
        by_cases h64 : 64 < sigs.length
        · rw [if_pos h64] at hpar
          rw [← hpar, parV]
          simp (maxSteps := 2000000) -implicitDefEqProofs +contextual (disch := first | assumption | omega | decide +kernel) only [push_cast, ↓capI, br2_true, br2_false, frk_tt, frk_tf, frk_f, frkD_tt, frkD_tf, frkD_f, pk2_true, pk2_false, imp_true, seval, Nat.reduceLeDiff, Nat.reduceEqDiff, reduceCtorEq, ↓reduceIte, cfg0, ones_ints, ones_bools, getV_map, getV_mapO, List.length_map, Nat.mul_one, slI, slR, slB, encT]
          refine callO.pc h55c ?_
          simp (maxSteps := 2000000) -implicitDefEqProofs +contextual (disch := first | assumption | omega | decide +kernel) only [push_cast, ↓capI, br2_true, br2_false, frk_tt, frk_tf, frk_f, frkD_tt, frkD_tf, frkD_f, pk2_true, pk2_false, imp_true, seval, Nat.reduceLeDiff, Nat.reduceEqDiff, reduceCtorEq, ↓reduceIte, cfg0, ones_ints, ones_bools, getV_map, getV_mapO, List.length_map, Nat.mul_one, slI, slR, slB, encT, h64]
          refine endK.ret ?_ (by first | rfl | simp [belAll_append, bel_ints, bel_bools, bel_rows, bel_slI, bel_slR, bel_slB, bel_encT, bel_parV, bel_takeI]); simp [evRes, getT, retV, Try.f42]
        · rw [if_neg h64] at hpar
          by_cases heq : sigs.length = cnt
          · rw [if_pos heq] at hpar
            rw [← hpar, parV]
            simp (maxSteps := 2000000) -implicitDefEqProofs +contextual (disch := first | assumption | omega | decide +kernel) only [push_cast, ↓capI, br2_true, br2_false, frk_tt, frk_tf, frk_f, frkD_tt, frkD_tf, frkD_f, pk2_true, pk2_false, imp_true, seval, Nat.reduceLeDiff, Nat.reduceEqDiff, reduceCtorEq, ↓reduceIte, cfg0, ones_ints, ones_bools, getV_map, getV_mapO, List.length_map, Nat.mul_one, slI, slR, slB, encT]
            refine callO.pc h55c ?_
            simp (maxSteps := 2000000) -implicitDefEqProofs +contextual (disch := first | assumption | omega | decide +kernel) only [push_cast, ↓capI, br2_true, br2_false, frk_tt, frk_tf, frk_f, frkD_tt, frkD_tf, frkD_f, pk2_true, pk2_false, imp_true, seval, Nat.reduceLeDiff, Nat.reduceEqDiff, reduceCtorEq, ↓reduceIte, cfg0, ones_ints, ones_bools, getV_map, getV_mapO, List.length_map, Nat.mul_one, slI, slR, slB, encT, h64, heq]
            refine endK.ret ?_ (by first | rfl | simp [belAll_append, bel_ints, bel_bools, bel_rows, bel_slI, bel_slR, bel_slB, bel_encT, bel_parV, bel_takeI]); simp [evRes, getT, retV, Try.f42,  slI]
          · rw [if_neg heq] at hpar
            have hpar2 : parR ⟨next, acc⟩ (i + 2) out sigs.length = parO ⟨next, acc⟩ := by
              rw [← hpar]
              exact hany _ _ _ (by omega) hokc.met (by omega) _ (by omega) (by omega) (by omega)
            simp (maxSteps := 2000000) -implicitDefEqProofs +contextual (disch := first | assumption | omega | decide +kernel) only [push_cast, ↓capI, br2_true, br2_false, frk_tt, frk_tf, frk_f, frkD_tt, frkD_tf, frkD_f, pk2_true, pk2_false, imp_true, seval, Nat.reduceLeDiff, Nat.reduceEqDiff, reduceCtorEq, ↓reduceIte, cfg0, ones_ints, ones_bools, getV_map, getV_mapO, List.length_map, Nat.mul_one, slI, slR, slB, encT]
            refine callO.pc h55c ?_
            simp (maxSteps := 2000000) -implicitDefEqProofs +contextual (disch := first | assumption | omega | decide +kernel) only [push_cast, ↓capI, br2_true, br2_false, frk_tt, frk_tf, frk_f, frkD_tt, frkD_tf, frkD_f, pk2_true, pk2_false, imp_true, seval, Nat.reduceLeDiff, Nat.reduceEqDiff, reduceCtorEq, ↓reduceIte, cfg0, ones_ints, ones_bools, getV_map, getV_mapO, List.length_map, Nat.mul_one, slI, slR, slB, encT, h64, heq]
            refine ⟨(out, sigs.length), ⟨by simp only; omega, hokc.met, by simp only; omega, hpar2⟩, by (try simp only); omega, ?_⟩; exact Gn.canon (by first | rfl | (simp [List.append_nil, encT, slR, slB, slI]; rfl)) (by simp [wk]) (by simp [List.length_append]) (by simp [belAll_append, bel_ints, bel_bools, bel_rows, bel_slI, bel_slR, bel_slB, bel_encT, bel_parV, bel_takeI]) (by simp [belAll_append, bel_ints, bel_bools, bel_rows, bel_slI, bel_slR, bel_slB, bel_encT, bel_parV, bel_takeI])
end Go.Proofs.Ytkjffppioddnpaa

/- Chapter 42: the minimal table, by the reference. -/
set_option maxRecDepth 100000
set_option maxHeartbeats 4000000
set_option linter.all false
namespace Go.Proofs.Ytkjffppioddnpaa
open Go.Vm
theorem idxI_app {x : Int} : ∀ {a b : List Int}, idxI x (a ++ b) = match idxI x a with | some k => some k | none => (idxI x b).map (· + a.length)
  | [], b => by simp [idxI]
  | y :: a, b => by
    simp only [List.cons_append, idxI]
    by_cases e : x = y
    · simp [e]
    · simp only [e, if_false, idxI_app (a := a) (b := b)]
      cases idxI x a with
      | some k => rfl
      | none =>
        simp only [Option.map_none, List.length_cons]
        cases idxI x b <;> simp
        omega
def fnx (c : List Int) (x : Int) (F : List Int) (j : Nat) : Int := match idxI x ((F.take j).map (gI c)) with | some k => (k : Int) | none => -1
theorem fnx_succ {c : List Int} {x : Int} {F : List Int} {j : Nat} (h : j < F.length) :
    fnx c x F (j + 1) = if fnx c x F j < 0 ∧ gI c F[j] = x then (j : Int) else fnx c x F j := by
  rw [fnx, List.take_succ_eq_append_getElem h, List.map_append, idxI_app, fnx]
  cases hk : idxI x ((F.take j).map (gI c)) with
  | some k => simp; intro h; omega
  | none =>
    simp only [List.map_cons, List.map_nil, idxI]
    by_cases e : x = gI c F[j]
    · rw [if_pos e, if_pos ⟨by decide, e.symm⟩]
      simp [Nat.min_eq_left (Nat.le_of_lt h)]
    · rw [if_neg e, if_neg (fun h => e h.2.symm)]
      rfl
def minO (t : Tb) : V := match parO t with | some c => .tup [.agg (encT (minF t c)), .bool true] | none => .tup [zTb, .bool false]
theorem bel_minO {n : Nat} (t : Tb) : (minO t).bel n = true := by
  rw [minO]
  split
  · rw [bel_tup, belAll_cons, belAll_cons, bel_agg, bel_encT]; rfl
  · rfl
def cfgX : Cfg := { lv := [22], ef := [], ord := [], em := [] }
def objU (t : Tb) (s : Ms) : List Ob := [.cells 0 (encT t), .cells 0 [.sl true [] 0, .sl true [] 0], .cells (s.order.length - 1) (s.order.map (.int .i64)), .cells 0 [.buf 4 s.rows.length 0 s.rows.length 1, .buf 5 s.accs.length 0 s.accs.length 1], .cells s.rows.length (s.rows.map slI), .cells s.accs.length (s.accs.map .bool)]
def objW (t : Tb) (s : Ms) (r : List Int × List Int) : List Ob := [.cells 0 (encT t), .cells 0 [.sl true [] 0, .sl true [] 0], .cells (r.1.length - 1) (r.1.map (.int .i64)), .cells 0 [.buf 4 s.rows.length 0 s.rows.length 1, .buf 5 s.accs.length 0 s.accs.length 1], .cells s.rows.length (s.rows.map slI), .cells s.accs.length (s.accs.map .bool), .cells r.2.length (r.2.map (.int .i64))]
theorem len_objU {t : Tb} {s : Ms} : (objU t s).length = 6 := rfl
theorem len_objW {t : Tb} {s : Ms} {r : List Int × List Int} : (objW t s r).length = 7 := rfl
theorem bel_objU {t : Tb} {s : Ms} : belObs 6 (objU t s) = true := by
  simp only [objU, belObs_cons, belObs_nil, belO_cells, bel_ints, bel_bools, bel_rows, bel_encT, belAll_cons, belAll_nil, bel_buf, bel_sl]
  rfl
theorem bel_objW {t : Tb} {s : Ms} {r : List Int × List Int} : belObs 7 (objW t s r) = true := by
  simp only [objW, belObs_cons, belObs_nil, belO_cells, bel_ints, bel_bools, bel_rows, bel_encT, belAll_cons, belAll_nil, bel_buf, bel_sl]
  rfl
theorem parR_len (t : Tb) : ∀ k c cnt c', c.length = t.next.length → parR t k c cnt = some c' → c'.length = t.next.length
  | 0, c, _, c', h, e => by rw [parR] at e; cases e; exact h
  | k + 1, c, cnt, c', h, e => by
    rw [parR] at e
    split at e
    · cases e
    · split at e
      · cases e; exact ref_len t c
      · exact parR_len t k _ _ c' (ref_len t c) e
theorem parO_len {t : Tb} {c : List Int} (h : parO t = some c) : c.length = t.next.length := parR_len t _ _ _ c (by simp [cls0]) h
theorem pc28 {n m : Nat} {t : Tb} (ht : okT n m t) : PC Try.prog 28 [.agg (encT t)] (minO t) := by
  have h42 := pc42 ht
  have hcl0 := fun c (h : parO t = some c) => parO_len h
  have hn1 := ht.rows
  have hn2 := ht.accs
  have hpos := ht.pos
  have hbig := ht.big
  rw [minO]
  cases hpo : parO t with
  | none =>
    rw [hpo] at h42
    simp only [parV] at h42
    clear hcl0 hpo
    obtain ⟨next, acc⟩ := t
    refine PC.walk tok mixed cfg0 Try.func28 rfl Try.call28 (by simp [belAll_append, bel_mapL, bel_ints, bel_bools, bel_rows, bel_slI, bel_slR, bel_slB, bel_encT, len_objU, bel_objU, len_objW, bel_objW, bel_minO]) (by first | rfl | simp [belAll_append, bel_mapL, bel_ints, bel_bools, bel_rows, bel_slI, bel_slR, bel_slB, bel_encT, len_objU, bel_objU, len_objW, bel_objW, bel_minO]) ?_; simp (maxSteps := 2000000) -implicitDefEqProofs +contextual (disch := first | assumption | omega | decide +kernel) only [push_cast, ↓capI, br2_true, br2_false, frk_tt, frk_tf, frk_f, frkD_tt, frkD_tf, frkD_f, pk2_true, pk2_false, imp_true, seval, Nat.reduceLeDiff, Nat.reduceEqDiff, reduceCtorEq, ↓reduceIte, cfg0, cfgX, ones_ints, ones_bools, getV_map, getV_mapO, List.length_map, Nat.mul_one, slI, slR, slB, encT, Try.ntmps28]
    refine callO.pc h42 ?_
    simp (maxSteps := 2000000) -implicitDefEqProofs +contextual (disch := first | assumption | omega | decide +kernel) only [push_cast, ↓capI, br2_true, br2_false, frk_tt, frk_tf, frk_f, frkD_tt, frkD_tf, frkD_f, pk2_true, pk2_false, imp_true, seval, Nat.reduceLeDiff, Nat.reduceEqDiff, reduceCtorEq, ↓reduceIte, cfg0, cfgX, ones_ints, ones_bools, getV_map, getV_mapO, List.length_map, Nat.mul_one, slI, slR, slB, encT]
    refine endK.ret ?_ (by first | rfl | simp [belAll_append, bel_mapL, bel_ints, bel_bools, bel_rows, bel_slI, bel_slR, bel_slB, bel_encT, len_objU, bel_objU, len_objW, bel_objW, bel_minO]); simp [evRes, getT, retV, Try.f28,  zTb, tt_27, Res.then, ldT, ldR, getO, mkV, getV, imp, lenOK_iff]
  | some c =>
  rw [hpo] at h42
  simp only [parV] at h42
  have hcl := hcl0 c hpo
  clear hcl0 hpo
  have h43 := fun (x : Int) (h : x < (c.length : Int)) => pc43 (c := c) h
  have hok := fun i => minN_ok ht (c := c) i
  have hst := fun (i : Nat) (h : (minN t c i).order.length ≤ i) (hi : i ≤ n) => minN_at h hi
  simp only [minF, hn1]
  obtain ⟨next, acc⟩ := t
  simp only at hn1 hn2 hcl
  have hc0 : 0 < c.length := by omega
  refine PC.cutN tok mixed cfgX 4 Try.func28 rfl Try.call28 (by simp [belAll_append, bel_mapL, bel_ints, bel_bools, bel_rows, bel_slI, bel_slR, bel_slB, bel_encT, len_objU, bel_objU, len_objW, bel_objW, bel_minO]) (by simp [belAll_append, bel_mapL, bel_ints, bel_bools, bel_rows, bel_slI, bel_slR, bel_slB, bel_encT, len_objU, bel_objU, len_objW, bel_objW, bel_minO, bel_encT]) ?_
  simp (maxSteps := 2000000) -implicitDefEqProofs +contextual (disch := first | assumption | omega | decide +kernel) only [push_cast, ↓capI, br2_true, br2_false, frk_tt, frk_tf, frk_f, frkD_tt, frkD_tf, frkD_f, pk2_true, pk2_false, imp_true, seval, Nat.reduceLeDiff, Nat.reduceEqDiff, reduceCtorEq, ↓reduceIte, cfg0, cfgX, ones_ints, ones_bools, getV_map, getV_mapO, List.length_map, Nat.mul_one, slI, slR, slB, encT, Try.ntmps28, cutAt_z, cutAt_s]
  refine callO.pc h42 ?_
  simp (maxSteps := 2000000) -implicitDefEqProofs +contextual (disch := first | assumption | omega | decide +kernel) only [push_cast, ↓capI, br2_true, br2_false, frk_tt, frk_tf, frk_f, frkD_tt, frkD_tf, frkD_f, pk2_true, pk2_false, imp_true, seval, Nat.reduceLeDiff, Nat.reduceEqDiff, reduceCtorEq, ↓reduceIte, cfg0, cfgX, ones_ints, ones_bools, getV_map, getV_mapO, List.length_map, Nat.mul_one, slI, slR, slB, encT, cutAt_z, cutAt_s, hc0]
  refine cutK.gn ((Gn.weak (tm' := (.dead :: .ptr 0 0 0 :: .ptr 1 0 0 :: .dead :: .sl false (c.map (.int .i64)) c.length :: .dead :: .buf 2 0 0 1 1 :: .ptr 3 0 0 :: .dead :: .dead :: .dead :: .dead :: .dead :: .dead :: .dead :: .dead :: .dead :: .dead :: .dead :: .dead :: .dead :: .dead :: .dead :: .dead :: .dead :: .dead :: .dead :: .dead :: .dead :: .dead :: .dead :: .dead :: .dead :: .dead :: .dead :: .dead :: .dead :: .dead :: .dead :: .dead :: .dead :: .dead :: .dead :: .dead :: .dead :: .dead :: .dead :: .dead :: .dead :: .dead :: .dead :: .dead :: .dead :: .dead :: .dead :: .dead :: .dead :: .dead :: .dead :: .dead :: .dead :: .dead :: .dead :: .dead :: .dead :: .dead :: .dead :: .dead :: .dead :: .dead :: .dead :: .dead :: .dead :: .dead :: .dead :: .dead :: .dead :: .dead :: .dead :: .dead :: .dead :: .dead :: .dead :: .dead :: .dead :: .dead :: .dead :: .dead :: .dead :: .dead :: .dead :: .dead :: .dead :: .dead :: .dead :: .dead :: .dead :: .dead :: .dead :: .dead :: .dead :: .dead :: .dead :: .dead :: .dead :: .dead :: .dead :: .dead :: .dead :: .dead :: .dead :: .dead :: .dead :: [])) (by simp [wk, minN0, mrN0])).trans (((Gn.ownCell (id := 3) (i := 0) (sz := 1) rfl rfl)).trans (Gn.ownCell (id := 3) (i := 1) (sz := 1) rfl rfl))) (cutK.go (cfg := cfgX) tok mixed ?_)
  simp (maxSteps := 2000000) -implicitDefEqProofs +contextual (disch := first | assumption | omega | decide +kernel) only [push_cast, ↓capI, br2_true, br2_false, frk_tt, frk_tf, frk_f, frkD_tt, frkD_tf, frkD_f, pk2_true, pk2_false, imp_true, seval, Nat.reduceLeDiff, Nat.reduceEqDiff, reduceCtorEq, ↓reduceIte, cfg0, cfgX, ones_ints, ones_bools, getV_map, getV_mapO, List.length_map, Nat.mul_one, slI, slR, slB, encT, List.set]
  refine T.lp tok mixed cfg0 (fun ((i : Nat)) => dd 1 (kp 2 (dd 1 (kp 1 (dd 1 (sv (.buf 2 ((minN ⟨next, acc⟩ c i).order.length - 1) 0 (minN ⟨next, acc⟩ c i).order.length 1) (kp 1 (sv (.int .i64 (i : Int)) (dd 104 (nl)))))))))) (fun H0 ((i : Nat)) => objU ⟨next, acc⟩ (minN ⟨next, acc⟩ c i)) (fun ((i : Nat)) => i ≤ (minN ⟨next, acc⟩ c i).order.length ∧ (minN ⟨next, acc⟩ c i).rows.length = i ∧ (minN ⟨next, acc⟩ c i).accs.length = i) (fun ((i : Nat)) => n - i) (0) ?_ ?_ ?_
  · exact ⟨by simp [minN0], rfl, rfl⟩
  · exact Gn.canon (J := []) (by simp [List.append_nil, encT, slR, slB, slI, minN0, mrN0, objU]) (by simp [wk, minN0, mrN0, putT, kp, dd, sv, nl]) (by simp [List.length_append, len_objU, len_objW]) (by simp [belAll_append, bel_mapL, bel_ints, bel_bools, bel_rows, bel_slI, bel_slR, bel_slB, bel_encT, len_objU, bel_objU, len_objW, bel_objW, bel_minO, kp, dd, sv, nl]) (by rw [len_objU]; exact bel_objU)
  · intro i hi
    obtain ⟨hi, hr, ha⟩ := hi
    have hoki := hok i
    have hnext : minN ⟨next, acc⟩ c (i + 1) = minI ⟨next, acc⟩ c i (minN ⟨next, acc⟩ c i) := rfl
    have hstop := hst i
    generalize hs : minN ⟨next, acc⟩ c i = s at hoki hnext hstop hi hr ha
    simp only [hs]
    obtain ⟨order, rows, accs⟩ := s
    simp only at hoki hi hr ha hstop
    have hlen := hoki.len
    have hx1 : objU ⟨next, acc⟩ ⟨order, rows, accs⟩ = [.cells 0 (encT ⟨next, acc⟩), .cells 0 [.sl true [] 0, .sl true [] 0], .cells (order.length - 1) (order.map (.int .i64)), .cells 0 [.buf 4 rows.length 0 rows.length 1, .buf 5 accs.length 0 accs.length 1], .cells rows.length (rows.map slI), .cells accs.length (accs.map .bool)] := rfl
    by_cases hlt : i < order.length
    · obtain ⟨q, hq⟩ : ∃ y, y = order[i] := ⟨_, rfl⟩
      have hqr := hoki.rng q (hq ▸ List.getElem_mem hlt)
      obtain ⟨k, rfl⟩ : ∃ k : Nat, q = (k : Int) := ⟨q.toNat, by omega⟩
      have hkn : k < next.length := by omega
      have hka : k < acc.length := by omega
      have hrow := ht.row next[k] (List.getElem_mem hkn)
      have hrng := ht.rng next[k] (List.getElem_mem hkn)
      have hcols := ht.cols
      have hgr : next.getD k [] = next[k] := lgetD hkn
      have hga : gB acc (k : Int) = acc[k] := by rw [gB, Int.toNat_natCast]; exact lgetD hka
      have hq' := hq.symm
      simp (maxSteps := 2000000) -implicitDefEqProofs +contextual (disch := first | assumption | omega | decide +kernel) only [push_cast, ↓capI, br2_true, br2_false, frk_tt, frk_tf, frk_f, frkD_tt, frkD_tf, frkD_f, pk2_true, pk2_false, imp_true, seval, Nat.reduceLeDiff, Nat.reduceEqDiff, reduceCtorEq, ↓reduceIte, cfg0, cfgX, ones_ints, ones_bools, getV_map, getV_mapO, List.length_map, Nat.mul_one, slI, slR, slB, encT, hx1, hlt]
      refine T.lp tok mixed cfg0 (fun ((j : Nat)) => dd 1 (kp 2 (dd 1 (kp 1 (dd 1 (sv (.buf 2 ((mrN c next[k] order j).1.length - 1) 0 (mrN c next[k] order j).1.length 1) (kp 2 (sv (.buf 6 (mrN c next[k] order j).2.length 0 (mrN c next[k] order j).2.length 1) (sv (.int .i64 (j : Int)) (dd 102 (nl))))))))))) (fun H0 ((j : Nat)) => objW ⟨next, acc⟩ ⟨order, rows, accs⟩ (mrN c next[k] order j)) (fun ((j : Nat)) => j ≤ m) (fun ((j : Nat)) => m - j) (0) ?_ ?_ ?_
      · omega
      · refine (Gn.ownNil (t := 9) (sz := 1) rfl).trans ?_
        exact Gn.canon (J := []) (by simp [List.append_nil, encT, slR, slB, slI, minN0, mrN0, objW]) (by simp [wk, minN0, mrN0, putT, kp, dd, sv, nl]) (by simp [List.length_append, len_objU, len_objW]) (by simp [belAll_append, bel_mapL, bel_ints, bel_bools, bel_rows, bel_slI, bel_slR, bel_slB, bel_encT, len_objU, bel_objU, len_objW, bel_objW, bel_minO, kp, dd, sv, nl]) (by rw [len_objW]; exact bel_objW)
      · intro j hj
        have hj0 : j ≤ m := hj
        have hokj := mrN_ok (n := n) (c := c) (row := next[k]) (fun x hx => (hrng x hx).2) hoki j (by omega)
        have hrl := mrN_len c next[k] order j
        obtain ⟨rs, hrs⟩ := mrN_pre c next[k] order j
        have hnx : mrN c next[k] order (j + 1) = mrI c (gI next[k] j) (mrN c next[k] order j) := rfl
        have hlast : j = m → mrN c next[k] order m = mrN c next[k] order j := fun e => by rw [e]
        generalize hR : mrN c next[k] order j = r at hokj hrl hrs hnx hlast
        simp only [hR]
        obtain ⟨ord2, row⟩ := r
        simp only at hokj hrl hrs
        have hlen2 := hokj.len
        have hio : i < ord2.length := by rw [hrs, List.length_append]; omega
        have hoq : ord2[i] = (k : Int) := by
          rw [hq]; simp only [hrs]; exact List.getElem_append_left hlt
        have hx2 : objW ⟨next, acc⟩ ⟨order, rows, accs⟩ (ord2, row) = [.cells 0 (encT ⟨next, acc⟩), .cells 0 [.sl true [] 0, .sl true [] 0], .cells (ord2.length - 1) (ord2.map (.int .i64)), .cells 0 [.buf 4 rows.length 0 rows.length 1, .buf 5 accs.length 0 accs.length 1], .cells rows.length (rows.map slI), .cells accs.length (accs.map .bool), .cells row.length (row.map (.int .i64))] := rfl
        by_cases hjm : j < m
        · have hjr : j < next[k].length := by omega
          have hx := hrng _ (List.getElem_mem hjr)
          have hgj : gI next[k] (j : Int) = next[k][j] := by rw [gI, Int.toNat_natCast]; exact lgetD hjr
          rw [hgj] at hnx
          have hcall := h43 next[k][j] (by omega)
          have hneg : ¬ (0 ≤ (if 0 ≤ next[k][j] then gI c next[k][j] else -1)) → mrN c next[k] order (j + 1) = (ord2, row ++ [-1]) := fun h => by
            rw [hnx, mrI, if_pos]
            by_cases h0 : 0 ≤ next[k][j]
            · rw [if_pos h0] at h; exact .inr (by omega)
            · exact .inl (by omega)
          have hnn : 0 ≤ (if 0 ≤ next[k][j] then gI c next[k][j] else -1) → ∃ l : Nat, next[k][j] = (l : Int) ∧ ∃ hl : l < c.length, gI c (l : Int) = c[l] ∧ ¬ c[l] < 0 := fun h => by
            by_cases h0 : 0 ≤ next[k][j]
            · rw [if_pos h0] at h
              refine ⟨next[k][j].toNat, by omega, by omega, ?_⟩
              have hg : gI c (next[k][j].toNat : Int) = c[next[k][j].toNat]'(by omega) := by rw [gI, Int.toNat_natCast]; exact lgetD (by omega)
              refine ⟨hg, ?_⟩
              rw [← hg, show ((next[k][j].toNat : Nat) : Int) = next[k][j] from by omega]
              omega
            · rw [if_neg h0] at h; exact absurd h (by decide)
          generalize (if 0 ≤ next[k][j] then gI c next[k][j] else -1) = y at hcall hneg hnn
          by_cases hy : 0 ≤ y
          · obtain ⟨l, hl, hlc, hgl, hcn⟩ := hnn hy
            have hnx2 : mrN c next[k] order (j + 1) = match idxI c[l] (ord2.map (gI c)) with | some u => (ord2, row ++ [(u : Int)]) | none => (ord2 ++ [(l : Int)], row ++ [(ord2.length : Int)]) := by
              rw [hnx, hl, mrI, if_neg (by rw [hgl]; omega), hgl]
              cases idxI c[l] (List.map (gI c) ord2) <;> rfl
            have hall : fnx c c[l] ord2 ord2.length = match idxI c[l] (ord2.map (gI c)) with | some k => (k : Int) | none => -1 := by rw [fnx, List.take_length]
            clear hnx
            rw [hl] at hcall
            rw [← hrow] at hjm
            simp (maxSteps := 2000000) -implicitDefEqProofs +contextual (disch := first | assumption | omega | decide +kernel) only [push_cast, ↓capI, br2_true, br2_false, frk_tt, frk_tf, frk_f, frkD_tt, frkD_tf, frkD_f, pk2_true, pk2_false, imp_true, seval, Nat.reduceLeDiff, Nat.reduceEqDiff, reduceCtorEq, ↓reduceIte, cfg0, cfgX, ones_ints, ones_bools, getV_map, getV_mapO, List.length_map, Nat.mul_one, slI, slR, slB, encT, hx2, hio, hoq, hkn, hjm, hjr, hl]
            refine callO.pc hcall ?_
            simp (maxSteps := 2000000) -implicitDefEqProofs +contextual (disch := first | assumption | omega | decide +kernel) only [push_cast, ↓capI, br2_true, br2_false, frk_tt, frk_tf, frk_f, frkD_tt, frkD_tf, frkD_f, pk2_true, pk2_false, imp_true, seval, Nat.reduceLeDiff, Nat.reduceEqDiff, reduceCtorEq, ↓reduceIte, cfg0, cfgX, ones_ints, ones_bools, getV_map, getV_mapO, List.length_map, Nat.mul_one, slI, slR, slB, encT, hy]
            refine T.lp tok mixed cfg0 (fun ((u : Nat)) => dd 1 (kp 2 (dd 1 (kp 1 (dd 1 (kp 6 (sv (.int .i64 (fnx c c[l] ord2 u)) (sv (.int .i64 (u : Int)) (dd 99 (nl)))))))))) (fun H0 ((u : Nat)) => H0) (fun ((u : Nat)) => u ≤ ord2.length) (fun ((u : Nat)) => ord2.length - u) (0) ?_ ?_ ?_
            · omega
            · exact Gn.canon (J := []) (by simp [List.append_nil, encT, slR, slB, slI, minN0, mrN0]) (by simp [wk, minN0, mrN0, putT, kp, dd, sv, nl, fnx, idxI]) (by simp [List.length_append, len_objU, len_objW]) (by simp [belAll_append, bel_mapL, bel_ints, bel_bools, bel_rows, bel_slI, bel_slR, bel_slB, bel_encT, len_objU, bel_objU, len_objW, bel_objW, bel_minO, kp, dd, sv, nl]) (by simp [belAll_append, bel_mapL, bel_ints, bel_bools, bel_rows, bel_slI, bel_slR, bel_slB, bel_encT, len_objU, bel_objU, len_objW, bel_objW, bel_minO])
            · intro u hu
              have hu0 : u ≤ ord2.length := hu
              by_cases hul : u < ord2.length
              · have hs := fnx_succ (c := c) (x := c[l]) hul
                have hor := hokj.rng ord2[u] (List.getElem_mem hul)
                obtain ⟨v, hv⟩ : ∃ v : Nat, ord2[u] = (v : Int) := ⟨ord2[u].toNat, by omega⟩
                have hvc : v < c.length := by omega
                have hgv : gI c (v : Int) = c[v] := by rw [gI, Int.toNat_natCast]; exact lgetD hvc
                rw [hv, hgv] at hs
                by_cases hk : fnx c c[l] ord2 u < 0
                · by_cases he : c[v] = c[l]
                  · rw [if_pos ⟨hk, he⟩] at hs
                    simp (maxSteps := 2000000) -implicitDefEqProofs +contextual (disch := first | assumption | omega | decide +kernel) only [push_cast, ↓capI, br2_true, br2_false, frk_tt, frk_tf, frk_f, frkD_tt, frkD_tf, frkD_f, pk2_true, pk2_false, imp_true, seval, Nat.reduceLeDiff, Nat.reduceEqDiff, reduceCtorEq, ↓reduceIte, cfg0, cfgX, ones_ints, ones_bools, getV_map, getV_mapO, List.length_map, Nat.mul_one, slI, slR, slB, encT, hul, hv, hvc, hlc, hk, he]
                    refine ⟨(u + 1), by omega, by (try simp only); omega, ?_⟩; exact Gn.canon (by first | rfl | (simp [List.append_nil, encT, slR, slB, slI, minN0, mrN0, hs]; rfl)) (by simp [wk, minN0, mrN0, hs]) (by simp [List.length_append, len_objU, len_objW]) (by simp [belAll_append, bel_mapL, bel_ints, bel_bools, bel_rows, bel_slI, bel_slR, bel_slB, bel_encT, len_objU, bel_objU, len_objW, bel_objW, bel_minO]) (by simp [belAll_append, bel_mapL, bel_ints, bel_bools, bel_rows, bel_slI, bel_slR, bel_slB, bel_encT, len_objU, bel_objU, len_objW, bel_objW, bel_minO])
                  · rw [if_neg (fun h => he h.2)] at hs
                    simp (maxSteps := 2000000) -implicitDefEqProofs +contextual (disch := first | assumption | omega | decide +kernel) only [push_cast, ↓capI, br2_true, br2_false, frk_tt, frk_tf, frk_f, frkD_tt, frkD_tf, frkD_f, pk2_true, pk2_false, imp_true, seval, Nat.reduceLeDiff, Nat.reduceEqDiff, reduceCtorEq, ↓reduceIte, cfg0, cfgX, ones_ints, ones_bools, getV_map, getV_mapO, List.length_map, Nat.mul_one, slI, slR, slB, encT, hul, hv, hvc, hlc, hk, he]
                    refine ⟨(u + 1), by omega, by (try simp only); omega, ?_⟩; exact Gn.canon (by first | rfl | (simp [List.append_nil, encT, slR, slB, slI, minN0, mrN0, hs]; rfl)) (by simp [wk, minN0, mrN0, hs]) (by simp [List.length_append, len_objU, len_objW]) (by simp [belAll_append, bel_mapL, bel_ints, bel_bools, bel_rows, bel_slI, bel_slR, bel_slB, bel_encT, len_objU, bel_objU, len_objW, bel_objW, bel_minO]) (by simp [belAll_append, bel_mapL, bel_ints, bel_bools, bel_rows, bel_slI, bel_slR, bel_slB, bel_encT, len_objU, bel_objU, len_objW, bel_objW, bel_minO])
                · rw [if_neg (fun h => hk h.1)] at hs
                  simp (maxSteps := 2000000) -implicitDefEqProofs +contextual (disch := first | assumption | omega | decide +kernel) only [push_cast, ↓capI, br2_true, br2_false, frk_tt, frk_tf, frk_f, frkD_tt, frkD_tf, frkD_f, pk2_true, pk2_false, imp_true, seval, Nat.reduceLeDiff, Nat.reduceEqDiff, reduceCtorEq, ↓reduceIte, cfg0, cfgX, ones_ints, ones_bools, getV_map, getV_mapO, List.length_map, Nat.mul_one, slI, slR, slB, encT, hul, hk]
                  refine ⟨(u + 1), by omega, by (try simp only); omega, ?_⟩; exact Gn.canon (by first | rfl | (simp [List.append_nil, encT, slR, slB, slI, minN0, mrN0, hs]; rfl)) (by simp [wk, minN0, mrN0, hs]) (by simp [List.length_append, len_objU, len_objW]) (by simp [belAll_append, bel_mapL, bel_ints, bel_bools, bel_rows, bel_slI, bel_slR, bel_slB, bel_encT, len_objU, bel_objU, len_objW, bel_objW, bel_minO]) (by simp [belAll_append, bel_mapL, bel_ints, bel_bools, bel_rows, bel_slI, bel_slR, bel_slB, bel_encT, len_objU, bel_objU, len_objW, bel_objW, bel_minO])
              · have hul2 : u = ord2.length := by omega
                subst hul2
                cases hik : idxI c[l] (ord2.map (gI c)) with
                | some w =>
                  rw [hik] at hnx2 hall
                  simp only at hnx2 hall
                  simp (maxSteps := 2000000) -implicitDefEqProofs +contextual (disch := first | assumption | omega | decide +kernel) only [push_cast, ↓capI, br2_true, br2_false, frk_tt, frk_tf, frk_f, frkD_tt, frkD_tf, frkD_f, pk2_true, pk2_false, imp_true, seval, Nat.reduceLeDiff, Nat.reduceEqDiff, reduceCtorEq, ↓reduceIte, cfg0, cfgX, ones_ints, ones_bools, getV_map, getV_mapO, List.length_map, Nat.mul_one, slI, slR, slB, encT, hul, hall]
                  refine ⟨(j + 1), by omega, by (try simp only); omega, ?_⟩; exact Gn.canon (by first | rfl | (simp [List.append_nil, encT, slR, slB, slI, minN0, mrN0, hnx2, objW]; rfl)) (by simp [wk, minN0, mrN0, hnx2, objW]) (by simp [List.length_append, len_objU, len_objW]) (by simp [belAll_append, bel_mapL, bel_ints, bel_bools, bel_rows, bel_slI, bel_slR, bel_slB, bel_encT, len_objU, bel_objU, len_objW, bel_objW, bel_minO]) (by simp [belAll_append, bel_mapL, bel_ints, bel_bools, bel_rows, bel_slI, bel_slR, bel_slB, bel_encT, len_objU, bel_objU, len_objW, bel_objW, bel_minO])
                | none =>
                  rw [hik] at hnx2 hall
                  simp only at hnx2 hall
                  have hap : ord2.length - 1 + 1 = ord2.length + 1 - 1 := by omega
                  simp (maxSteps := 2000000) -implicitDefEqProofs +contextual (disch := first | assumption | omega | decide +kernel) only [push_cast, ↓capI, br2_true, br2_false, frk_tt, frk_tf, frk_f, frkD_tt, frkD_tf, frkD_f, pk2_true, pk2_false, imp_true, seval, Nat.reduceLeDiff, Nat.reduceEqDiff, reduceCtorEq, ↓reduceIte, cfg0, cfgX, ones_ints, ones_bools, getV_map, getV_mapO, List.length_map, Nat.mul_one, slI, slR, slB, encT, hul, hall, hap]
                  refine ⟨(j + 1), by omega, by (try simp only); omega, ?_⟩; exact Gn.canon (by first | rfl | (simp [List.append_nil, encT, slR, slB, slI, minN0, mrN0, hnx2, objW]; rfl)) (by simp [wk, minN0, mrN0, hnx2, objW]) (by simp [List.length_append, len_objU, len_objW]) (by simp [belAll_append, bel_mapL, bel_ints, bel_bools, bel_rows, bel_slI, bel_slR, bel_slB, bel_encT, len_objU, bel_objU, len_objW, bel_objW, bel_minO]) (by simp [belAll_append, bel_mapL, bel_ints, bel_bools, bel_rows, bel_slI, bel_slR, bel_slB, bel_encT, len_objU, bel_objU, len_objW, bel_objW, bel_minO])
          · have hI := hneg hy
            rw [← hrow] at hjm
            simp (maxSteps := 2000000) -implicitDefEqProofs +contextual (disch := first | assumption | omega | decide +kernel) only [push_cast, ↓capI, br2_true, br2_false, frk_tt, frk_tf, frk_f, frkD_tt, frkD_tf, frkD_f, pk2_true, pk2_false, imp_true, seval, Nat.reduceLeDiff, Nat.reduceEqDiff, reduceCtorEq, ↓reduceIte, cfg0, cfgX, ones_ints, ones_bools, getV_map, getV_mapO, List.length_map, Nat.mul_one, slI, slR, slB, encT, hx2, hio, hoq, hkn, hjm, hjr]
            refine callO.pc hcall ?_
            simp (maxSteps := 2000000) -implicitDefEqProofs +contextual (disch := first | assumption | omega | decide +kernel) only [push_cast, ↓capI, br2_true, br2_false, frk_tt, frk_tf, frk_f, frkD_tt, frkD_tf, frkD_f, pk2_true, pk2_false, imp_true, seval, Nat.reduceLeDiff, Nat.reduceEqDiff, reduceCtorEq, ↓reduceIte, cfg0, cfgX, ones_ints, ones_bools, getV_map, getV_mapO, List.length_map, Nat.mul_one, slI, slR, slB, encT, hy]
            refine ⟨(j + 1), by omega, by (try simp only); omega, ?_⟩; exact Gn.canon (by first | rfl | (simp [List.append_nil, encT, slR, slB, slI, minN0, mrN0, hI, objW]; rfl)) (by simp [wk, minN0, mrN0, hI, objW]) (by simp [List.length_append, len_objU, len_objW]) (by simp [belAll_append, bel_mapL, bel_ints, bel_bools, bel_rows, bel_slI, bel_slR, bel_slB, bel_encT, len_objU, bel_objU, len_objW, bel_objW, bel_minO]) (by simp [belAll_append, bel_mapL, bel_ints, bel_bools, bel_rows, bel_slI, bel_slR, bel_slB, bel_encT, len_objU, bel_objU, len_objW, bel_objW, bel_minO])
        · have hjm2 : j = m := by omega
          have hjr : ¬ j < next[k].length := by omega
          have hdet : minI ⟨next, acc⟩ c i ⟨order, rows, accs⟩ = ⟨ord2, rows ++ [row], accs ++ [acc[k]]⟩ := by
            have e1 : order[i]? = some (k : Int) := by rw [hq]; exact List.getElem?_eq_getElem hlt
            simp only [minI, e1, Int.toNat_natCast, hgr, hrow, hlast hjm2, hga]
          rw [hdet] at hnext
          subst hjm2
          simp (maxSteps := 2000000) -implicitDefEqProofs +contextual (disch := first | assumption | omega | decide +kernel) only [push_cast, ↓capI, br2_true, br2_false, frk_tt, frk_tf, frk_f, frkD_tt, frkD_tf, frkD_f, pk2_true, pk2_false, imp_true, seval, Nat.reduceLeDiff, Nat.reduceEqDiff, reduceCtorEq, ↓reduceIte, cfg0, cfgX, ones_ints, ones_bools, getV_map, getV_mapO, List.length_map, Nat.mul_one, slI, slR, slB, encT, hx2, hio, hoq, hkn, hjr, hka]
          refine ⟨(i + 1), ⟨by rw [hnext]; exact hio, by rw [hnext]; simp [hr], by rw [hnext]; simp [ha]⟩, by (try simp only); omega, ?_⟩; refine (Gn.freeze (id := 6) rfl).trans ?_; exact Gn.canon (by first | rfl | (simp [List.append_nil, encT, slR, slB, slI, minN0, mrN0, fzs, fz, fzs_ok, fzH, setO, getO, Nat.beq, List.take_of_length_le, belAll_append, bel_mapL, bel_ints, bel_bools, bel_rows, bel_slI, bel_slR, bel_slB, bel_encT, len_objU, bel_objU, len_objW, bel_objW, bel_minO, hnext, objU, slI, hrl, fzs_app]; done) | (simp [List.append_nil, encT, slR, slB, slI, minN0, mrN0, fzs, fz, fzs_ok, fzH, setO, getO, Nat.beq, List.take_of_length_le, belAll_append, bel_mapL, bel_ints, bel_bools, bel_rows, bel_slI, bel_slR, bel_slB, bel_encT, len_objU, bel_objU, len_objW, bel_objW, bel_minO, hnext, objU, slI, hrl, fzs_app]; rfl)) (by simp [wk, minN0, mrN0, fzs, fz, fzs_ok, fzH, setO, getO, Nat.beq, List.take_of_length_le, belAll_append, bel_mapL, bel_ints, bel_bools, bel_rows, bel_slI, bel_slR, bel_slB, bel_encT, len_objU, bel_objU, len_objW, bel_objW, bel_minO, hnext, objU, slI, hrl, fzs_app, cfg0, cfgX, ones_ints, ones_bools, getV_map, getV_mapO, List.length_map, Nat.mul_one, slI, slR, slB, encT]) (by simp [List.length_append, len_objU, len_objW]) (by simp [belAll_append, bel_mapL, bel_ints, bel_bools, bel_rows, bel_slI, bel_slR, bel_slB, bel_encT, len_objU, bel_objU, len_objW, bel_objW, bel_minO]) (by simp [belAll_append, bel_mapL, bel_ints, bel_bools, bel_rows, bel_slI, bel_slR, bel_slB, bel_encT, len_objU, bel_objU, len_objW, bel_objW, bel_minO])
    · rw [hstop (by omega) (by omega)]
      simp (maxSteps := 2000000) -implicitDefEqProofs +contextual (disch := first | assumption | omega | decide +kernel) only [push_cast, ↓capI, br2_true, br2_false, frk_tt, frk_tf, frk_f, frkD_tt, frkD_tf, frkD_f, pk2_true, pk2_false, imp_true, seval, Nat.reduceLeDiff, Nat.reduceEqDiff, reduceCtorEq, ↓reduceIte, cfg0, cfgX, ones_ints, ones_bools, getV_map, getV_mapO, List.length_map, Nat.mul_one, slI, slR, slB, encT, hx1, hlt]
      refine endK.gn (Gn.freeze (id := 4) rfl) ?_; refine endK.gn (Gn.freeze (id := 5) rfl) ?_; refine endK.ret ?_ (by first | rfl | simp [belAll_append, bel_mapL, bel_ints, bel_bools, bel_rows, bel_slI, bel_slR, bel_slB, bel_encT, len_objU, bel_objU, len_objW, bel_objW, bel_minO]); simp [belAll_append, bel_mapL, bel_ints, bel_bools, bel_rows, bel_slI, bel_slR, bel_slB, bel_encT, len_objU, bel_objU, len_objW, bel_objW, bel_minO, fzs_ok, imp, lenOK_iff, List.take_of_length_le, evRes, getT, getO, setO, fzs, fz, fzH, Nat.beq, retV, Res.then, ldT, ldR, mkV, getV, cfg0, cfgX, ones_ints, ones_bools, getV_map, getV_mapO, List.length_map, Nat.mul_one, slI, slR, slB, encT, Try.f28,  encT, slR, slB, tt_27]
end Go.Proofs.Ytkjffppioddnpaa


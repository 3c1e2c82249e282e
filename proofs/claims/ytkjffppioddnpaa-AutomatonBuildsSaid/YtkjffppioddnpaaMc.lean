/-
  Joined by a program from the texts Det Bld Prs Chk Ref Tree Run Cld Bui.
-/
import Derived.Test.YtkjffppioddnpaaMb
import Derived.Test.YtkjffppioddnpaaMa
/- Chapter 42: the program's subset construction. -/
set_option maxRecDepth 100000
set_option maxHeartbeats 4000000
set_option linter.all false
namespace Go.Proofs.Ytkjffppioddnpaa
open Go.Vm
def cfgT : Cfg := { lv := [22], ef := [], ord := [], em := [] }
def bigN : Nat := 2 ^ 30
theorem keyU {n : Int} : keyOK tt 93 (.int .u64 n) := ⟨rfl, rfl⟩
theorem keys0 {t : Nat} : keysOK tt t [] := fun e he => by simp at he
theorem mPut_nil {k v : V} : mPut k v [] = [(k, v)] := rfl
theorem shl10 : ishl .u64 1 0 = 1 := rfl
theorem rn_clA {q : Nat → Nat} {x : Nx} : rns q (clA x) = clA x := rns_ok (bel_clA x)
theorem gn_parts {x : Nx} {m : Int} : Gn 0 ⟨(.ifc (tgA x) (.agg (clA x)) :: .int .i64 m :: .dead :: .dead :: .ptr 0 0 0 :: .ptr 2 0 0 :: .dead :: .dead :: .dead :: .dead :: .dead :: .dead :: .dead :: .dead :: .dead :: .dead :: .dead :: .dead :: .dead :: .dead :: .dead :: .dead :: .dead :: .dead :: .dead :: .dead :: .dead :: .dead :: .dead :: .dead :: .dead :: .dead :: .dead :: .dead :: .dead :: .dead :: .dead :: .dead :: .dead :: .dead :: .dead :: .dead :: .dead :: .dead :: .dead :: .dead :: .dead :: .dead :: .dead :: .dead :: .dead :: .dead :: .dead :: .dead :: .dead :: .dead :: .dead :: .dead :: .dead :: .dead :: .dead :: .dead :: .dead :: .dead :: .dead :: .dead :: .dead :: .dead :: .dead :: .dead :: .dead :: .dead :: .dead :: .dead :: .dead :: .dead :: .dead :: .dead :: .dead :: .dead :: .dead :: .dead :: .dead :: .dead :: .dead :: .dead :: .dead :: .dead :: .dead :: .dead :: .dead :: .dead :: .dead :: []), [.cells 0 [.sl true [] 0, .sl true [] 0], .map [], .cells 0 [.mp 1, .sl true [] 0]]⟩
    ⟨(.ifc (tgA x) (.agg (clA x)) :: .int .i64 m :: .dead :: .dead :: .ptr 3 0 0 :: .ptr 0 0 0 :: .dead :: .dead :: .dead :: .dead :: .dead :: .dead :: .dead :: .dead :: .dead :: .dead :: .dead :: .dead :: .dead :: .dead :: .dead :: .dead :: .dead :: .dead :: .dead :: .dead :: .dead :: .dead :: .dead :: .dead :: .dead :: .dead :: .dead :: .dead :: .dead :: .dead :: .dead :: .dead :: .dead :: .dead :: .dead :: .dead :: .dead :: .dead :: .dead :: .dead :: .dead :: .dead :: .dead :: .dead :: .dead :: .dead :: .dead :: .dead :: .dead :: .dead :: .dead :: .dead :: .dead :: .dead :: .dead :: .dead :: .dead :: .dead :: .dead :: .dead :: .dead :: .dead :: .dead :: .dead :: .dead :: .dead :: .dead :: .dead :: .dead :: .dead :: .dead :: .dead :: .dead :: .dead :: .dead :: .dead :: .dead :: .dead :: .dead :: .dead :: .dead :: .dead :: .dead :: .dead :: .dead :: .dead :: .dead :: []), [.cells 0 [.mp 2, .buf 1 0 0 0 1], .cells 0 [], .map [], .cells 0 [.sl true [] 0, .sl true [] 0]]⟩ := by
  refine (Gn.ownCell (id := 2) (i := 1) (sz := 1) rfl rfl).trans ?_
  refine (Gn.swap (i := 0) (j := 2) (Nat.zero_le _) (Nat.zero_le _) (by simp [setO]) (by simp [setO])).trans ?_
  simp [V.rn, rns, Ob.rn, rnOs, swp, swpH, setO, getO, Nat.beq, rn_clA, List.map_nil]
  refine (Gn.swap (i := 1) (j := 3) (Nat.zero_le _) (Nat.zero_le _) (by simp) (by simp)).trans ?_
  simp [V.rn, rns, Ob.rn, rnOs, swp, swpH, setO, getO, Nat.beq, rn_clA, List.map_nil]
  refine (Gn.swap (i := 2) (j := 3) (Nat.zero_le _) (Nat.zero_le _) (by simp) (by simp)).trans ?_
  simp [V.rn, rns, Ob.rn, rnOs, swp, swpH, setO, getO, Nat.beq, rn_clA, List.map_nil]
  exact Gn.refl _ _
def objD (s : Ds2) : List Ob := objP s.L ++ [.cells 0 [.sl true [] 0, .sl true [] 0], .cells (s.sets.length - 1) (s.sets.map u64), .map (enk 0 s.sets), .cells 0 [.buf 7 s.rows.length 0 s.rows.length 1, .buf 8 s.accs.length 0 s.accs.length 1], .cells s.rows.length (s.rows.map slI), .cells s.accs.length (s.accs.map .bool)]
def objR (s : Ds2) (m : Nat) (r : Rs) (j : Nat) : List Ob := objP r.L ++ [.cells 0 [.sl true [] 0, .sl true [] 0], .cells (r.sets.length - 1) (r.sets.map u64), .map (enk 0 r.sets), .cells 0 [.buf 7 s.rows.length 0 s.rows.length 1, .buf 8 s.accs.length 0 s.accs.length 1], .cells s.rows.length (s.rows.map slI), .cells s.accs.length (s.accs.map .bool), .cells 0 ((r.row ++ List.replicate (m - j) 0).map (.int .i64))]
theorem bel_objD (s : Ds2) : belObs 9 (objD s) = true := by
  simp only [objD, objP, List.cons_append, List.nil_append, belObs_cons, belObs_nil, belO_cells, bel_ints, bel_bools, bel_rows, bel_u64s, bel_mapK, bel_mapE, bel_As, belAll_cons, belAll_nil, bel_buf, bel_mp, bel_sl]
  rfl
theorem bel_objR (s : Ds2) (m : Nat) (r : Rs) (j : Nat) : belObs 10 (objR s m r j) = true := by
  simp only [objR, objP, List.cons_append, List.nil_append, belObs_cons, belObs_nil, belO_cells, bel_ints, bel_bools, bel_rows, bel_u64s, bel_mapK, bel_mapE, bel_As, belAll_cons, belAll_nil, bel_buf, bel_mp, bel_sl]
  rfl
theorem len_objD (s : Ds2) : (objD s).length = 9 := rfl
theorem len_objR (s : Ds2) (m : Nat) (r : Rs) (j : Nat) : (objR s m r j).length = 10 := rfl
theorem pc25 {D : List Nx} (hD : Cls D) {x : Nx} (hx : x ∈ D) {m : Nat} (hm : m ≤ 1000) (hm1 : 0 < m) :
    PC Try.prog 25 [encA x, .int .i64 (m : Int)] (.agg (encT ⟨(detN m x bigN).rows, (detN m x bigN).accs⟩)) := by
  have hk : keyOK tt 48 (encA x) := keyA (hD.hgt x hx)
  refine PC.cutN tok mixed cfgT 1 Try.func25 rfl Try.call25 (by simp [bel_clA, bel_encA, bel_As, bel_mapE, bel_ints, bel_bools, bel_rows, bel_u64s, bel_mapK, bel_slI, len_objD, bel_objD, len_objR, bel_objR, bel_encT]) (by simp [bel_clA, bel_encA, bel_As, bel_mapE, bel_ints, bel_bools, bel_rows, bel_u64s, bel_mapK, bel_slI, len_objD, bel_objD, len_objR, bel_objR, bel_encT, bel_encT]) ?_
  simp (maxSteps := 2000000) -implicitDefEqProofs +contextual (disch := first | assumption | omega | decide +kernel) only [push_cast, ↓capI, br2_true, br2_false, frk_tt, frk_tf, frk_f, frkD_tt, frkD_tf, frkD_f, pk2_true, pk2_false, imp_true, seval, Nat.reduceLeDiff, Nat.reduceEqDiff, reduceCtorEq, ↓reduceIte, cfg0, encA, ones_A, ones_ints, ones_bools, objP, w_shl1, cfgT, mHas_enk, mGet_enk, getV_mapO, getV_map, Nat.mul_one, w_eqb0, List.length_map, numV, Option.isSome_some, Option.isSome_none, keyU, keys0, keysW, mPut_nil, shl10, Try.ntmps25, cutAt_z, cutAt_s]
  refine cutK.gn ((Gn.weak (by simp [wk])).trans (gn_parts (x := x) (m := (m : Int)))) (cutK.goN (cfg := cfgT) tok mixed 2 ?_)
  simp (maxSteps := 2000000) -implicitDefEqProofs +contextual (disch := first | assumption | omega | decide +kernel) only [push_cast, ↓capI, br2_true, br2_false, frk_tt, frk_tf, frk_f, frkD_tt, frkD_tf, frkD_f, pk2_true, pk2_false, imp_true, seval, Nat.reduceLeDiff, Nat.reduceEqDiff, reduceCtorEq, ↓reduceIte, cfg0, encA, ones_A, ones_ints, ones_bools, objP, w_shl1, cfgT, mHas_enk, mGet_enk, getV_mapO, getV_map, Nat.mul_one, w_eqb0, List.length_map, numV, Option.isSome_some, Option.isSome_none, keyU, keys0, keysW, mPut_nil, shl10, cutAt_z, cutAt_s]
  have h37 := pc37 (L := []) (x := x) (fun y hy => by simp at hy) (hD.hgt x hx) (by simp)
  refine callO.app [.cells 0 [.sl true [] 0, .sl true [] 0]] h37 rfl rfl (by simp [bel_clA, bel_encA, bel_As, bel_mapE, bel_ints, bel_bools, bel_rows, bel_u64s, bel_mapK, bel_slI, len_objD, bel_objD, len_objR, bel_objR, bel_encT, objP, enm]) (bel_objP _) rfl (bel_objP _) ?_
  have hnum : num [] x = ([x], 0) := rfl
  simp (maxSteps := 2000000) -implicitDefEqProofs +contextual (disch := first | assumption | omega | decide +kernel) only [push_cast, ↓capI, br2_true, br2_false, frk_tt, frk_tf, frk_f, frkD_tt, frkD_tf, frkD_f, pk2_true, pk2_false, imp_true, seval, Nat.reduceLeDiff, Nat.reduceEqDiff, reduceCtorEq, ↓reduceIte, cfg0, encA, ones_A, ones_ints, ones_bools, objP, w_shl1, cfgT, mHas_enk, mGet_enk, getV_mapO, getV_map, Nat.mul_one, w_eqb0, List.length_map, numV, Option.isSome_some, Option.isSome_none, keyU, keys0, keysW, mPut_nil, shl10, cutAt_z, cutAt_s, hnum]
  refine cutK.gn ((Gn.weak (tm' := (.dead :: .int .i64 (m : Int) :: .dead :: .dead :: .ptr 3 0 0 :: .ptr 0 0 0 :: .buf 4 0 0 1 1 :: .mp 5 :: .ptr 6 0 0 :: .dead :: .dead :: .dead :: .dead :: .dead :: .dead :: .dead :: .dead :: .dead :: .dead :: .dead :: .dead :: .dead :: .dead :: .dead :: .dead :: .dead :: .dead :: .dead :: .dead :: .dead :: .dead :: .dead :: .dead :: .dead :: .dead :: .dead :: .dead :: .dead :: .dead :: .dead :: .dead :: .dead :: .dead :: .dead :: .dead :: .dead :: .dead :: .dead :: .dead :: .dead :: .dead :: .dead :: .dead :: .dead :: .dead :: .dead :: .dead :: .dead :: .dead :: .dead :: .dead :: .dead :: .dead :: .dead :: .dead :: .dead :: .dead :: .dead :: .dead :: .dead :: .dead :: .dead :: .dead :: .dead :: .dead :: .dead :: .dead :: .dead :: .dead :: .dead :: .dead :: .dead :: .dead :: .dead :: .dead :: .dead :: .dead :: .dead :: .dead :: .dead :: .dead :: .dead :: .dead :: [])) (by simp [wk])).trans (((Gn.ownCell (id := 6) (i := 0) (sz := 1) rfl rfl)).trans (Gn.ownCell (id := 6) (i := 1) (sz := 1) rfl rfl))) (cutK.go (cfg := cfgT) tok mixed ?_)
  simp (maxSteps := 2000000) -implicitDefEqProofs +contextual (disch := first | assumption | omega | decide +kernel) only [push_cast, ↓capI, br2_true, br2_false, frk_tt, frk_tf, frk_f, frkD_tt, frkD_tf, frkD_f, pk2_true, pk2_false, imp_true, seval, Nat.reduceLeDiff, Nat.reduceEqDiff, reduceCtorEq, ↓reduceIte, cfg0, encA, ones_A, ones_ints, ones_bools, objP, w_shl1, cfgT, mHas_enk, mGet_enk, getV_mapO, getV_map, Nat.mul_one, w_eqb0, List.length_map, numV, Option.isSome_some, Option.isSome_none, keyU, keys0, keysW, mPut_nil, shl10, List.set]
  refine T.lp tok mixed cfg0 (fun ((i : Nat)) => dd 1 (kp 1 (dd 2 (kp 2 (sv (.buf 4 ((detN m x i).sets.length - 1) 0 (detN m x i).sets.length 1) (kp 2 (sv (.int .i64 (i : Int)) (dd 83 (nl))))))))) (fun H0 ((i : Nat)) => objD (detN m x i)) (fun ((i : Nat)) => i ≤ (detN m x i).sets.length ∧ (detN m x i).rows.length = i ∧ (detN m x i).accs.length = i) (fun ((i : Nat)) => 2 ^ 30 - i) (0) ?_ ?_ ?_
  · exact ⟨by omega, rfl, rfl⟩
  · exact Gn.canon (J := []) (by simp [objD, objP, detN, enk, enm, encA]) (by simp [wk, putT, kp, dd, sv, nl, detN]) (by simp [len_objD]) (by simp [bel_clA, bel_encA, bel_As, bel_mapE, bel_ints, bel_bools, bel_rows, bel_u64s, bel_mapK, bel_slI, len_objD, bel_objD, len_objR, bel_objR, bel_encT, kp, dd, sv, nl, len_objD]) (by rw [len_objD]; exact bel_objD _)
  · intro i hi
    obtain ⟨hi, hr, ha⟩ := hi
    have hok := detN_ok hD hx (m := m) i
    have hlen := hok.len hD
    simp only at hlen
    have hnext : detN m x (i + 1) = detI m i (detN m x i) := rfl
    have hstop : (detN m x i).sets.length ≤ i → detN m x bigN = detN m x i := fun h => detN_at h (by rw [bigN]; omega)
    generalize hs : detN m x i = s at hok hlen hnext hstop hi hr ha
    simp only [hs]
    obtain ⟨L, sets, rows, accs⟩ := s
    simp only at hok hlen hi hr ha hstop
    by_cases hlt : i < sets.length
    · obtain ⟨set, hset⟩ : ∃ y, y = sets[i] := ⟨_, rfl⟩
      have hrok := rowN_ok hD (set := set) hok
      have hseti : bitsIn set L.length := by rw [hset]; exact hok.bits _ (List.getElem_mem hlt)
      have hx1 : objD ⟨L, sets, rows, accs⟩ = objP L ++ [.cells 0 [.sl true [] 0, .sl true [] 0], .cells (sets.length - 1) (sets.map u64), .map (enk 0 sets), .cells 0 [.buf 7 rows.length 0 rows.length 1, .buf 8 accs.length 0 accs.length 1], .cells rows.length (rows.map slI), .cells accs.length (accs.map .bool)] := rfl
      simp (maxSteps := 2000000) -implicitDefEqProofs +contextual (disch := first | assumption | omega | decide +kernel) only [push_cast, ↓capI, br2_true, br2_false, frk_tt, frk_tf, frk_f, frkD_tt, frkD_tf, frkD_f, pk2_true, pk2_false, imp_true, seval, Nat.reduceLeDiff, Nat.reduceEqDiff, reduceCtorEq, ↓reduceIte, cfg0, encA, ones_A, ones_ints, ones_bools, objP, w_shl1, cfgT, mHas_enk, mGet_enk, getV_mapO, getV_map, Nat.mul_one, w_eqb0, List.length_map, numV, Option.isSome_some, Option.isSome_none, keyU, keys0, keysW, mPut_nil, shl10, hx1, hlt]
      refine T.lp tok mixed cfg0 (fun ((j : Nat)) => dd 1 (kp 1 (dd 2 (kp 2 (sv (.buf 4 ((rowN set L sets j).sets.length - 1) 0 (rowN set L sets j).sets.length 1) (kp 4 (dd 26 (kp 1 (sv (.int .i64 (j : Int)) (dd 54 (nl))))))))))) (fun H0 ((j : Nat)) => objR ⟨L, sets, rows, accs⟩ m (rowN set L sets j) j) (fun ((j : Nat)) => j ≤ m) (fun ((j : Nat)) => m - j) (0) ?_ ?_ ?_
      · omega
      · exact Gn.canon (J := []) (by simp [objR, objP, rowN]) (by simp [wk, putT, kp, dd, sv, nl, rowN]) (by simp [len_objR]) (by simp [bel_clA, bel_encA, bel_As, bel_mapE, bel_ints, bel_bools, bel_rows, bel_u64s, bel_mapK, bel_slI, len_objD, bel_objD, len_objR, bel_objR, bel_encT, kp, dd, sv, nl, len_objR]) (by rw [len_objR]; exact bel_objR _ _ _ _)
      · intro j hj
        have hj0 : j ≤ m := hj
        have hrj := hrok j
        have hrow := rowN_len set L sets j
        obtain ⟨rs, hrs⟩ := rowN_sets set L sets j
        have hnx : rowN set L sets (j + 1) = rowI set j (rowN set L sets j) := rfl
        have hml : j = m → rowN set L sets m = rowN set L sets j := fun e => by rw [e]
        generalize hR : rowN set L sets j = r at hrj hrow hrs hnx hml
        simp only [hR]
        obtain ⟨L2, sets2, row⟩ := r
        simp only at hrj hrow hrs
        have hx2 : objR ⟨L, sets, rows, accs⟩ m ⟨L2, sets2, row⟩ j = objP L2 ++ [.cells 0 [.sl true [] 0, .sl true [] 0], .cells (sets2.length - 1) (sets2.map u64), .map (enk 0 sets2), .cells 0 [.buf 7 rows.length 0 rows.length 1, .buf 8 accs.length 0 accs.length 1], .cells rows.length (rows.map slI), .cells accs.length (accs.map .bool), .cells 0 ((row ++ List.replicate (m - j) 0).map (.int .i64))] := rfl
        have hi2 : i < sets2.length := by rw [hrs, List.length_append]; omega
        have hg2 : sets2[i] = set := by
          rw [hset]
          simp [hrs, List.getElem_append_left hlt]
        by_cases hjm : j < m
        · have hlen2 := hrj.1.len hD
          simp only at hlen2
          have h38 := pc38 hD (L := L2) (sw := (j : Int)) (set := set) hrj.1.good (hseti.le hrj.2)
          have p1 := fun y => put_row1 (y := y) hrow hjm
          have p2 := fun y z => put_row2 (t := List.replicate (m - (j + 1)) 0) (y := y) (z := z) hrow
          have hlr : ((row ++ List.replicate (m - j) (0 : Int)).map (V.int .i64)).length = m := by simp; omega
          simp (maxSteps := 2000000) -implicitDefEqProofs +contextual (disch := first | assumption | omega | decide +kernel) only [push_cast, ↓capI, br2_true, br2_false, frk_tt, frk_tf, frk_f, frkD_tt, frkD_tf, frkD_f, pk2_true, pk2_false, imp_true, seval, Nat.reduceLeDiff, Nat.reduceEqDiff, reduceCtorEq, ↓reduceIte, cfg0, encA, ones_A, ones_ints, ones_bools, objP, w_shl1, cfgT, mHas_enk, mGet_enk, getV_mapO, getV_map, Nat.mul_one, w_eqb0, List.length_map, numV, Option.isSome_some, Option.isSome_none, keyU, keys0, keysW, mPut_nil, shl10, hx2, hjm, hi2, hg2, p1, p2, hlr]
          generalize hst : stepS (j : Int) set L2 = st at h38
          obtain ⟨L3, o3⟩ := st
          refine callO.app [_, _, _, _, _, _, _] h38 rfl rfl (by simp [bel_clA, bel_encA, bel_As, bel_mapE, bel_ints, bel_bools, bel_rows, bel_u64s, bel_mapK, bel_slI, len_objD, bel_objD, len_objR, bel_objR, bel_encT, len_objP]) (bel_objP _) rfl (bel_objP _) ?_
          by_cases h0 : o3 = 0#64
          · have hrI : rowI set j ⟨L2, sets2, row⟩ = ⟨L3, sets2, row ++ [-1]⟩ := by rw [rowI, hst, if_pos h0]
            subst h0
            simp (maxSteps := 2000000) -implicitDefEqProofs +contextual (disch := first | assumption | omega | decide +kernel) only [push_cast, ↓capI, br2_true, br2_false, frk_tt, frk_tf, frk_f, frkD_tt, frkD_tf, frkD_f, pk2_true, pk2_false, imp_true, seval, Nat.reduceLeDiff, Nat.reduceEqDiff, reduceCtorEq, ↓reduceIte, cfg0, encA, ones_A, ones_ints, ones_bools, objP, w_shl1, cfgT, mHas_enk, mGet_enk, getV_mapO, getV_map, Nat.mul_one, w_eqb0, List.length_map, numV, Option.isSome_some, Option.isSome_none, keyU, keys0, keysW, mPut_nil, shl10, p1, p2]
            rw [hrI] at hnx
            refine ⟨(j + 1), by omega, by (try simp only); omega, ?_⟩; exact Gn.canon (by first | rfl | (simp [List.append_nil, hnx, objR, objP]; rfl)) (by simp [wk, hnx, objR, objP]) (by simp [List.length_append, len_objD, len_objR]) (by simp [bel_clA, bel_encA, bel_As, bel_mapE, bel_ints, bel_bools, bel_rows, bel_u64s, bel_mapK, bel_slI, len_objD, bel_objD, len_objR, bel_objR, bel_encT]) (by simp [bel_clA, bel_encA, bel_As, bel_mapE, bel_ints, bel_bools, bel_rows, bel_u64s, bel_mapK, bel_slI, len_objD, bel_objD, len_objR, bel_objR, bel_encT])
          · cases hik : idxW o3 sets2 with
            | some k =>
              have hrI : rowI set j ⟨L2, sets2, row⟩ = ⟨L3, sets2, row ++ [(k : Int)]⟩ := by rw [rowI, hst, if_neg h0]; simp only [hik]
              rw [hrI] at hnx
              simp (maxSteps := 2000000) -implicitDefEqProofs +contextual (disch := first | assumption | omega | decide +kernel) only [push_cast, ↓capI, br2_true, br2_false, frk_tt, frk_tf, frk_f, frkD_tt, frkD_tf, frkD_f, pk2_true, pk2_false, imp_true, seval, Nat.reduceLeDiff, Nat.reduceEqDiff, reduceCtorEq, ↓reduceIte, cfg0, encA, ones_A, ones_ints, ones_bools, objP, w_shl1, cfgT, mHas_enk, mGet_enk, getV_mapO, getV_map, Nat.mul_one, w_eqb0, List.length_map, numV, Option.isSome_some, Option.isSome_none, keyU, keys0, keysW, mPut_nil, shl10, p1, p2, h0, hik, Nat.zero_add]
              refine ⟨(j + 1), by omega, by (try simp only); omega, ?_⟩; exact Gn.canon (by first | rfl | (simp [List.append_nil, hnx, objR, objP]; rfl)) (by simp [wk, hnx, objR, objP]) (by simp [List.length_append, len_objD, len_objR]) (by simp [bel_clA, bel_encA, bel_As, bel_mapE, bel_ints, bel_bools, bel_rows, bel_u64s, bel_mapK, bel_slI, len_objD, bel_objD, len_objR, bel_objR, bel_encT]) (by simp [bel_clA, bel_encA, bel_As, bel_mapE, bel_ints, bel_bools, bel_rows, bel_u64s, bel_mapK, bel_slI, len_objD, bel_objD, len_objR, bel_objR, bel_encT])
            | none =>
              have hrI : rowI set j ⟨L2, sets2, row⟩ = ⟨L3, sets2 ++ [o3], row ++ [(sets2.length : Int)]⟩ := by rw [rowI, hst, if_neg h0]; simp only [hik]
              rw [hrI] at hnx
              have hpk := mPut_enk hik
              have hpos : 0 < sets2.length := by omega
              have hap : sets2.length - 1 + 1 = sets2.length + 1 - 1 := by omega
              simp (maxSteps := 2000000) -implicitDefEqProofs +contextual (disch := first | assumption | omega | decide +kernel) only [push_cast, ↓capI, br2_true, br2_false, frk_tt, frk_tf, frk_f, frkD_tt, frkD_tf, frkD_f, pk2_true, pk2_false, imp_true, seval, Nat.reduceLeDiff, Nat.reduceEqDiff, reduceCtorEq, ↓reduceIte, cfg0, encA, ones_A, ones_ints, ones_bools, objP, w_shl1, cfgT, mHas_enk, mGet_enk, getV_mapO, getV_map, Nat.mul_one, w_eqb0, List.length_map, numV, Option.isSome_some, Option.isSome_none, keyU, keys0, keysW, mPut_nil, shl10, p1, p2, h0, hik, Nat.zero_add, hpk, hap]
              refine ⟨(j + 1), by omega, by (try simp only); omega, ?_⟩; exact Gn.canon (by first | rfl | (simp [List.append_nil, hnx, objR, objP]; rfl)) (by simp [wk, hnx, objR, objP]) (by simp [List.length_append, len_objD, len_objR]) (by simp [bel_clA, bel_encA, bel_As, bel_mapE, bel_ints, bel_bools, bel_rows, bel_u64s, bel_mapK, bel_slI, len_objD, bel_objD, len_objR, bel_objR, bel_encT]) (by simp [bel_clA, bel_encA, bel_As, bel_mapE, bel_ints, bel_bools, bel_rows, bel_u64s, bel_mapK, bel_slI, len_objD, bel_objD, len_objR, bel_objR, bel_encT])
        · have ejm : j = m := by omega
          have hacc := pc39 (L := L2) (set := set) (by have := hrj.1.good.len; have := hD.len; simp only at *; omega)
          simp (maxSteps := 2000000) -implicitDefEqProofs +contextual (disch := first | assumption | omega | decide +kernel) only [push_cast, ↓capI, br2_true, br2_false, frk_tt, frk_tf, frk_f, frkD_tt, frkD_tf, frkD_f, pk2_true, pk2_false, imp_true, seval, Nat.reduceLeDiff, Nat.reduceEqDiff, reduceCtorEq, ↓reduceIte, cfg0, encA, ones_A, ones_ints, ones_bools, objP, w_shl1, cfgT, mHas_enk, mGet_enk, getV_mapO, getV_map, Nat.mul_one, w_eqb0, List.length_map, numV, Option.isSome_some, Option.isSome_none, keyU, keys0, keysW, mPut_nil, shl10, hx2, hjm, hi2, hg2]
          have htk : List.take L2.length (List.map encA L2) = List.map encA L2 := List.take_of_length_le (by simp)
          refine callG.lend1 (v := .bool (accS set L2)) (fun _ => by simpa [lnds1, lndWs, lndW, getO, Nat.blt, Nat.ble, Nat.beq, htk] using hacc) (fun _ => by simp [lnds1, lndWs, lndW, getO, Nat.blt, Nat.ble, Nat.beq, htk, bel_clA, bel_encA, bel_As, bel_mapE, bel_ints, bel_bools, bel_rows, bel_u64s, bel_mapK, bel_slI, len_objD, bel_objD, len_objR, bel_objR, bel_encT]) rfl rfl ?_
          simp (maxSteps := 2000000) -implicitDefEqProofs +contextual (disch := first | assumption | omega | decide +kernel) only [push_cast, ↓capI, br2_true, br2_false, frk_tt, frk_tf, frk_f, frkD_tt, frkD_tf, frkD_f, pk2_true, pk2_false, imp_true, seval, Nat.reduceLeDiff, Nat.reduceEqDiff, reduceCtorEq, ↓reduceIte, cfg0, encA, ones_A, ones_ints, ones_bools, objP, w_shl1, cfgT, mHas_enk, mGet_enk, getV_mapO, getV_map, Nat.mul_one, w_eqb0, List.length_map, numV, Option.isSome_some, Option.isSome_none, keyU, keys0, keysW, mPut_nil, shl10]
          have hdet : detI m i ⟨L, sets, rows, accs⟩ = ⟨L2, sets2, rows ++ [row], accs ++ [accS set L2]⟩ := by
            have e1 : sets[i]? = some set := by rw [hset]; exact List.getElem?_eq_getElem hlt
            simp only [detI, e1, hml ejm]
          rw [hdet] at hnext
          have hrm : row.length = m := by omega
          subst ejm
          refine ⟨(i + 1), ⟨by rw [hnext]; simp only; omega, by rw [hnext]; simp [hr], by rw [hnext]; simp [ha]⟩, by (try simp only); omega, ?_⟩; refine (Gn.freeze (id := 9) rfl).trans ?_; exact Gn.canon (by first | rfl | (simp [List.append_nil, fzs, fz, fzs_ok, fzH, setO, getO, Nat.beq, List.take_of_length_le, bel_clA, bel_encA, bel_As, bel_mapE, bel_ints, bel_bools, bel_rows, bel_u64s, bel_mapK, bel_slI, len_objD, bel_objD, len_objR, bel_objR, bel_encT, hnext, objD, objP, slI, hrow, fzs_app]; done) | (simp [List.append_nil, fzs, fz, fzs_ok, fzH, setO, getO, Nat.beq, List.take_of_length_le, bel_clA, bel_encA, bel_As, bel_mapE, bel_ints, bel_bools, bel_rows, bel_u64s, bel_mapK, bel_slI, len_objD, bel_objD, len_objR, bel_objR, bel_encT, hnext, objD, objP, slI, hrow, fzs_app]; rfl)) (by simp [wk, fzs, fz, fzs_ok, fzH, setO, getO, Nat.beq, List.take_of_length_le, bel_clA, bel_encA, bel_As, bel_mapE, bel_ints, bel_bools, bel_rows, bel_u64s, bel_mapK, bel_slI, len_objD, bel_objD, len_objR, bel_objR, bel_encT, hnext, objD, objP, slI, hrow, fzs_app, cfg0, encA, ones_A, ones_ints, ones_bools, objP, w_shl1, cfgT, mHas_enk, mGet_enk, getV_mapO, getV_map, Nat.mul_one, w_eqb0, List.length_map, numV, Option.isSome_some, Option.isSome_none, keyU, keys0, keysW, mPut_nil, shl10]) (by simp [List.length_append, len_objD, len_objR]) (by simp [bel_clA, bel_encA, bel_As, bel_mapE, bel_ints, bel_bools, bel_rows, bel_u64s, bel_mapK, bel_slI, len_objD, bel_objD, len_objR, bel_objR, bel_encT]) (by simp [bel_clA, bel_encA, bel_As, bel_mapE, bel_ints, bel_bools, bel_rows, bel_u64s, bel_mapK, bel_slI, len_objD, bel_objD, len_objR, bel_objR, bel_encT])
    · have hx1 : objD ⟨L, sets, rows, accs⟩ = objP L ++ [.cells 0 [.sl true [] 0, .sl true [] 0], .cells (sets.length - 1) (sets.map u64), .map (enk 0 sets), .cells 0 [.buf 7 rows.length 0 rows.length 1, .buf 8 accs.length 0 accs.length 1], .cells rows.length (rows.map slI), .cells accs.length (accs.map .bool)] := rfl
      rw [hstop (by omega)]
      simp (maxSteps := 2000000) -implicitDefEqProofs +contextual (disch := first | assumption | omega | decide +kernel) only [push_cast, ↓capI, br2_true, br2_false, frk_tt, frk_tf, frk_f, frkD_tt, frkD_tf, frkD_f, pk2_true, pk2_false, imp_true, seval, Nat.reduceLeDiff, Nat.reduceEqDiff, reduceCtorEq, ↓reduceIte, cfg0, encA, ones_A, ones_ints, ones_bools, objP, w_shl1, cfgT, mHas_enk, mGet_enk, getV_mapO, getV_map, Nat.mul_one, w_eqb0, List.length_map, numV, Option.isSome_some, Option.isSome_none, keyU, keys0, keysW, mPut_nil, shl10, hx1, hlt]
      refine endK.gn (Gn.freeze (id := 7) rfl) ?_; refine endK.gn (Gn.freeze (id := 8) rfl) ?_; refine endK.ret ?_ (by first | rfl | simp [bel_clA, bel_encA, bel_As, bel_mapE, bel_ints, bel_bools, bel_rows, bel_u64s, bel_mapK, bel_slI, len_objD, bel_objD, len_objR, bel_objR, bel_encT]); simp [bel_clA, bel_encA, bel_As, bel_mapE, bel_ints, bel_bools, bel_rows, bel_u64s, bel_mapK, bel_slI, len_objD, bel_objD, len_objR, bel_objR, bel_encT, fzs_ok, imp, lenOK_iff, List.take_of_length_le, evRes, getT, getO, setO, fzs, fz, fzH, Nat.beq, retV, Res.then, ldT, ldR, mkV, getV, cfg0, encA, ones_A, ones_ints, ones_bools, objP, w_shl1, cfgT, mHas_enk, mGet_enk, getV_mapO, getV_map, Nat.mul_one, w_eqb0, List.length_map, numV, Option.isSome_some, Option.isSome_none, keyU, keys0, keysW, mPut_nil, shl10, Try.f25,  encT, slR, slB, tt_52]
end Go.Proofs.Ytkjffppioddnpaa

/- Chapter 41: the program's tree of a list of nodes. -/
set_option maxRecDepth 100000
set_option maxHeartbeats 4000000
set_option linter.all false
namespace Go.Proofs.Ytkjffppioddnpaa
open Go.Vm
def bldR (sw : Int) (k : Nat) (l : List Nd) : Prop :=
  if (chk sw k l).2 = 0 then ∃ p, okP sw p ∧ l = flat p ++ (chk sw k l).1 ∧ PC Try.prog 49 [slN l, .int .i64 sw] (.tup [encX p, slN (chk sw k l).1, .int .i64 0])
  else ∃ m, PC Try.prog 49 [slN l, .int .i64 sw] (.tup [errX m, .sl true [] 0, .int .i64 (chk sw k l).2])
theorem bld_ok {sw : Int} {k : Nat} {l : List Nd} (p : Pr) (hp : okP sw p) (r : List Nd) (hr : chk sw k l = (r, 0)) (hl : l = flat p ++ r) (h : PC Try.prog 49 [slN l, .int .i64 sw] (.tup [encX p, slN r, .int .i64 0])) : bldR sw k l := by
  rw [bldR, hr, if_pos rfl]
  exact ⟨p, hp, hl, h⟩
theorem bld_err {sw : Int} {k : Nat} {l : List Nd} (m : Er) (e : Int) (he : e ≠ 0) (hr : chk sw k l = ([], e)) (h : PC Try.prog 49 [slN l, .int .i64 sw] (.tup [errX m, .sl true [] 0, .int .i64 e])) : bldR sw k l := by
  rw [bldR, hr, if_neg he]
  exact ⟨m, h⟩
theorem pc49 (sw : Int) : ∀ (k : Nat) (l : List Nd), l.length ≤ k → l.length ≤ 4000000 → bldR sw k l := by
  intro k
  induction k with
  | zero =>
    intro l hl _
    have hl0 : l = [] := List.length_eq_zero_iff.1 (by omega)
    subst hl0
    refine bld_err .no 3 (by decide) rfl ?_
    refine PC.walk tok mixed cfg0 Try.func49 rfl Try.call49 (by simp [belN, bel_Ns, bel_slN, bel_clX, bel_encX, bel_errX]) (by first | rfl | simp [belN, bel_Ns, bel_slN, bel_clX, bel_encX, bel_errX]) ?_; simp (maxSteps := 2000000) -implicitDefEqProofs +contextual (disch := first | assumption | omega | decide +kernel) only [push_cast, ↓capI, br2_true, br2_false, frk_tt, frk_tf, frk_f, frkD_tt, frkD_tf, frkD_f, pk2_true, pk2_false, imp_true, seval, Nat.reduceLeDiff, Nat.reduceEqDiff, reduceCtorEq, ↓reduceIte, fmN, fm0, take_N, toN1, slN_nil, encN, slN, cfg0, get_flat_part lenN, get_flat_drop lenN, len_flat lenN, encX, st_errX, os_errX, Try.ntmps49]
    refine endK.ret ?_ (by first | rfl | simp [belN, bel_Ns, bel_slN, bel_clX, bel_encX, bel_errX]); simp [evRes, getT, retV, Try.f49,  errX]
  | succ k ih =>
    intro l hl hm
    cases l with
    | nil =>
      refine bld_err .no 3 (by decide) rfl ?_
      refine PC.walk tok mixed cfg0 Try.func49 rfl Try.call49 (by simp [belN, bel_Ns, bel_slN, bel_clX, bel_encX, bel_errX]) (by first | rfl | simp [belN, bel_Ns, bel_slN, bel_clX, bel_encX, bel_errX]) ?_; simp (maxSteps := 2000000) -implicitDefEqProofs +contextual (disch := first | assumption | omega | decide +kernel) only [push_cast, ↓capI, br2_true, br2_false, frk_tt, frk_tf, frk_f, frkD_tt, frkD_tf, frkD_f, pk2_true, pk2_false, imp_true, seval, Nat.reduceLeDiff, Nat.reduceEqDiff, reduceCtorEq, ↓reduceIte, fmN, fm0, take_N, toN1, slN_nil, encN, slN, cfg0, get_flat_part lenN, get_flat_drop lenN, len_flat lenN, encX, st_errX, os_errX, Try.ntmps49]
      refine endK.ret ?_ (by first | rfl | simp [belN, bel_Ns, bel_slN, bel_clX, bel_encX, bel_errX]); simp [evRes, getT, retV, Try.f49,  errX]
    | cons x l =>
      have hm2 : l.length ≤ 4000000 := by simp only [List.length_cons] at hm; omega
      have hk2 : l.length ≤ k := by simp only [List.length_cons] at hl; omega
      have hL : ((l.length : Int) + 1).toNat - 1 = l.length := by omega
      obtain ⟨o, n⟩ := x
      by_cases h1 : o = 1 ∨ o = 2
      · have hc : chk1 sw ⟨o, n⟩ = 0 := by
          have ha : ¬ arity o < 0 := by rcases h1 with h | h <;> rw [h] <;> decide
          rw [chk1, if_neg ha, if_neg]
          rintro ⟨h3, _⟩
          simp only at h3
          omega
        have ha : arity o = 0 := by rcases h1 with h | h <;> rw [h] <;> rfl
        have hn : ¬ o = 3 := by omega
        refine bld_ok (.leaf ⟨o, n⟩) ⟨by simp only; omega, hc⟩ l (by rw [chk, if_neg (fun g => g hc), ha]; rfl) rfl ?_
        rcases h1 with h1 | h1
        · subst h1
          refine PC.walk tok mixed cfg0 Try.func49 rfl Try.call49 (by simp [belN, bel_Ns, bel_slN, bel_clX, bel_encX, bel_errX]) (by first | rfl | simp [belN, bel_Ns, bel_slN, bel_clX, bel_encX, bel_errX]) ?_; simp (maxSteps := 2000000) -implicitDefEqProofs +contextual (disch := first | assumption | omega | decide +kernel) only [push_cast, ↓capI, br2_true, br2_false, frk_tt, frk_tf, frk_f, frkD_tt, frkD_tf, frkD_f, pk2_true, pk2_false, imp_true, seval, Nat.reduceLeDiff, Nat.reduceEqDiff, reduceCtorEq, ↓reduceIte, fmN, fm0, take_N, toN1, slN_nil, encN, slN, cfg0, get_flat_part lenN, get_flat_drop lenN, len_flat lenN, encX, st_errX, os_errX, Try.ntmps49]
          refine endK.ret ?_ (by first | rfl | simp [belN, bel_Ns, bel_slN, bel_clX, bel_encX, bel_errX]); simp [evRes, getT, retV, Try.f49,  encX, tgX, clX, nN]
        · subst h1
          refine PC.walk tok mixed cfg0 Try.func49 rfl Try.call49 (by simp [belN, bel_Ns, bel_slN, bel_clX, bel_encX, bel_errX]) (by first | rfl | simp [belN, bel_Ns, bel_slN, bel_clX, bel_encX, bel_errX]) ?_; simp (maxSteps := 2000000) -implicitDefEqProofs +contextual (disch := first | assumption | omega | decide +kernel) only [push_cast, ↓capI, br2_true, br2_false, frk_tt, frk_tf, frk_f, frkD_tt, frkD_tf, frkD_f, pk2_true, pk2_false, imp_true, seval, Nat.reduceLeDiff, Nat.reduceEqDiff, reduceCtorEq, ↓reduceIte, fmN, fm0, take_N, toN1, slN_nil, encN, slN, cfg0, get_flat_part lenN, get_flat_drop lenN, len_flat lenN, encX, st_errX, os_errX, Try.ntmps49]
          refine endK.ret ?_ (by first | rfl | simp [belN, bel_Ns, bel_slN, bel_clX, bel_encX, bel_errX]); simp [evRes, getT, retV, Try.f49,  encX, tgX, clX, nN]
      have n1 : ¬ o = 1 := by omega
      have n2 : ¬ o = 2 := by omega
      by_cases h3 : o = 3
      · subst h3
        have ha : arity 3 = 0 := rfl
        by_cases hb : badN sw ⟨3, n⟩
        · have hc : chk1 sw ⟨3, n⟩ = 9 := by
            rw [chk1]
            simp only [ha]
            rw [if_neg (by decide), if_pos ⟨trivial, hb⟩]
          refine bld_err .no 9 (by decide) (by rw [chk, hc, if_pos (by decide)]) ?_
          by_cases b1 : n < 0
          · refine PC.walk tok mixed cfg0 Try.func49 rfl Try.call49 (by simp [belN, bel_Ns, bel_slN, bel_clX, bel_encX, bel_errX]) (by first | rfl | simp [belN, bel_Ns, bel_slN, bel_clX, bel_encX, bel_errX]) ?_; simp (maxSteps := 2000000) -implicitDefEqProofs +contextual (disch := first | assumption | omega | decide +kernel) only [push_cast, ↓capI, br2_true, br2_false, frk_tt, frk_tf, frk_f, frkD_tt, frkD_tf, frkD_f, pk2_true, pk2_false, imp_true, seval, Nat.reduceLeDiff, Nat.reduceEqDiff, reduceCtorEq, ↓reduceIte, fmN, fm0, take_N, toN1, slN_nil, encN, slN, cfg0, get_flat_part lenN, get_flat_drop lenN, len_flat lenN, encX, st_errX, os_errX, Try.ntmps49]
            (try simp (maxSteps := 2000000) -implicitDefEqProofs +contextual (disch := first | assumption | omega | decide +kernel) only [push_cast, ↓capI, br2_true, br2_false, frk_tt, frk_tf, frk_f, frkD_tt, frkD_tf, frkD_f, pk2_true, pk2_false, imp_true, seval, Nat.reduceLeDiff, Nat.reduceEqDiff, reduceCtorEq, ↓reduceIte, fmN, fm0, take_N, toN1, slN_nil, encN, slN, cfg0, get_flat_part lenN, get_flat_drop lenN, len_flat lenN, encX, st_errX, os_errX, b1])
            refine endK.ret ?_ (by first | rfl | simp [belN, bel_Ns, bel_slN, bel_clX, bel_encX, bel_errX]); simp [evRes, getT, retV, Try.f49,  errX]
          by_cases b2 : sw ≤ n
          · refine PC.walk tok mixed cfg0 Try.func49 rfl Try.call49 (by simp [belN, bel_Ns, bel_slN, bel_clX, bel_encX, bel_errX]) (by first | rfl | simp [belN, bel_Ns, bel_slN, bel_clX, bel_encX, bel_errX]) ?_; simp (maxSteps := 2000000) -implicitDefEqProofs +contextual (disch := first | assumption | omega | decide +kernel) only [push_cast, ↓capI, br2_true, br2_false, frk_tt, frk_tf, frk_f, frkD_tt, frkD_tf, frkD_f, pk2_true, pk2_false, imp_true, seval, Nat.reduceLeDiff, Nat.reduceEqDiff, reduceCtorEq, ↓reduceIte, fmN, fm0, take_N, toN1, slN_nil, encN, slN, cfg0, get_flat_part lenN, get_flat_drop lenN, len_flat lenN, encX, st_errX, os_errX, Try.ntmps49]
            (try simp (maxSteps := 2000000) -implicitDefEqProofs +contextual (disch := first | assumption | omega | decide +kernel) only [push_cast, ↓capI, br2_true, br2_false, frk_tt, frk_tf, frk_f, frkD_tt, frkD_tf, frkD_f, pk2_true, pk2_false, imp_true, seval, Nat.reduceLeDiff, Nat.reduceEqDiff, reduceCtorEq, ↓reduceIte, fmN, fm0, take_N, toN1, slN_nil, encN, slN, cfg0, get_flat_part lenN, get_flat_drop lenN, len_flat lenN, encX, st_errX, os_errX, b1, b2])
            refine endK.ret ?_ (by first | rfl | simp [belN, bel_Ns, bel_slN, bel_clX, bel_encX, bel_errX]); simp [evRes, getT, retV, Try.f49,  errX]
          have b3 : 999999999 < n := by rcases hb with h | h | h <;> simp only at h <;> omega
          refine PC.walk tok mixed cfg0 Try.func49 rfl Try.call49 (by simp [belN, bel_Ns, bel_slN, bel_clX, bel_encX, bel_errX]) (by first | rfl | simp [belN, bel_Ns, bel_slN, bel_clX, bel_encX, bel_errX]) ?_; simp (maxSteps := 2000000) -implicitDefEqProofs +contextual (disch := first | assumption | omega | decide +kernel) only [push_cast, ↓capI, br2_true, br2_false, frk_tt, frk_tf, frk_f, frkD_tt, frkD_tf, frkD_f, pk2_true, pk2_false, imp_true, seval, Nat.reduceLeDiff, Nat.reduceEqDiff, reduceCtorEq, ↓reduceIte, fmN, fm0, take_N, toN1, slN_nil, encN, slN, cfg0, get_flat_part lenN, get_flat_drop lenN, len_flat lenN, encX, st_errX, os_errX, Try.ntmps49]
          (try simp (maxSteps := 2000000) -implicitDefEqProofs +contextual (disch := first | assumption | omega | decide +kernel) only [push_cast, ↓capI, br2_true, br2_false, frk_tt, frk_tf, frk_f, frkD_tt, frkD_tf, frkD_f, pk2_true, pk2_false, imp_true, seval, Nat.reduceLeDiff, Nat.reduceEqDiff, reduceCtorEq, ↓reduceIte, fmN, fm0, take_N, toN1, slN_nil, encN, slN, cfg0, get_flat_part lenN, get_flat_drop lenN, len_flat lenN, encX, st_errX, os_errX, b1, b2, b3])
          refine endK.ret ?_ (by first | rfl | simp [belN, bel_Ns, bel_slN, bel_clX, bel_encX, bel_errX]); simp [evRes, getT, retV, Try.f49,  errX]
        · have hc : chk1 sw ⟨3, n⟩ = 0 := by
            rw [chk1]
            simp only [ha]
            rw [if_neg (by decide), if_neg (fun h => hb h.2)]
          have b1 : ¬ n < 0 := fun h => hb (.inl h)
          have b2 : ¬ sw ≤ n := fun h => hb (.inr (.inl h))
          have b3 : ¬ 999999999 < n := fun h => hb (.inr (.inr h))
          refine bld_ok (.leaf ⟨3, n⟩) ⟨by simp, hc⟩ l (by rw [chk, if_neg (fun g => g hc)]; rfl) rfl ?_
          refine PC.walk tok mixed cfg0 Try.func49 rfl Try.call49 (by simp [belN, bel_Ns, bel_slN, bel_clX, bel_encX, bel_errX]) (by first | rfl | simp [belN, bel_Ns, bel_slN, bel_clX, bel_encX, bel_errX]) ?_; simp (maxSteps := 2000000) -implicitDefEqProofs +contextual (disch := first | assumption | omega | decide +kernel) only [push_cast, ↓capI, br2_true, br2_false, frk_tt, frk_tf, frk_f, frkD_tt, frkD_tf, frkD_f, pk2_true, pk2_false, imp_true, seval, Nat.reduceLeDiff, Nat.reduceEqDiff, reduceCtorEq, ↓reduceIte, fmN, fm0, take_N, toN1, slN_nil, encN, slN, cfg0, get_flat_part lenN, get_flat_drop lenN, len_flat lenN, encX, st_errX, os_errX, Try.ntmps49]
          (try simp (maxSteps := 2000000) -implicitDefEqProofs +contextual (disch := first | assumption | omega | decide +kernel) only [push_cast, ↓capI, br2_true, br2_false, frk_tt, frk_tf, frk_f, frkD_tt, frkD_tf, frkD_f, pk2_true, pk2_false, imp_true, seval, Nat.reduceLeDiff, Nat.reduceEqDiff, reduceCtorEq, ↓reduceIte, fmN, fm0, take_N, toN1, slN_nil, encN, slN, cfg0, get_flat_part lenN, get_flat_drop lenN, len_flat lenN, encX, st_errX, os_errX, b1, b2, b3])
          refine endK.ret ?_ (by first | rfl | simp [belN, bel_Ns, bel_slN, bel_clX, bel_encX, bel_errX]); simp [evRes, getT, retV, Try.f49,  encX, tgX, clX, nN]
      by_cases h6 : o = 6
      · subst h6
        have hc : chk1 sw ⟨6, n⟩ = 0 := chk1_op (.inl rfl)
        have ha : arity 6 = 1 := rfl
        have hr : chk sw (k + 1) (⟨6, n⟩ :: l) = if (chk sw k l).2 ≠ 0 then ([], (chk sw k l).2) else ((chk sw k l).1, 0) := by
          rw [chk, if_neg (fun g => g hc)]
          simp only [ha]
          rfl
        have i1 := ih l hk2 hm2
        rw [bldR] at i1
        by_cases he : (chk sw k l).2 = 0
        · rw [if_pos he] at i1
          obtain ⟨p, hp, hl, hpc⟩ := i1
          refine bld_ok (.un ⟨6, n⟩ p) ⟨rfl, hp⟩ (chk sw k l).1 (by rw [hr, if_neg (fun g => g he)]) (by rw [flat, List.cons_append, ← hl]) ?_
          refine PC.walk tok mixed cfg0 Try.func49 rfl Try.call49 (by simp [belN, bel_Ns, bel_slN, bel_clX, bel_encX, bel_errX]) (by first | rfl | simp [belN, bel_Ns, bel_slN, bel_clX, bel_encX, bel_errX]) ?_; simp (maxSteps := 2000000) -implicitDefEqProofs +contextual (disch := first | assumption | omega | decide +kernel) only [push_cast, ↓capI, br2_true, br2_false, frk_tt, frk_tf, frk_f, frkD_tt, frkD_tf, frkD_f, pk2_true, pk2_false, imp_true, seval, Nat.reduceLeDiff, Nat.reduceEqDiff, reduceCtorEq, ↓reduceIte, fmN, fm0, take_N, toN1, slN_nil, encN, slN, cfg0, get_flat_part lenN, get_flat_drop lenN, len_flat lenN, encX, st_errX, os_errX, Try.ntmps49]
          refine callO.pc hpc ?_
          simp (maxSteps := 2000000) -implicitDefEqProofs +contextual (disch := first | assumption | omega | decide +kernel) only [push_cast, ↓capI, br2_true, br2_false, frk_tt, frk_tf, frk_f, frkD_tt, frkD_tf, frkD_f, pk2_true, pk2_false, imp_true, seval, Nat.reduceLeDiff, Nat.reduceEqDiff, reduceCtorEq, ↓reduceIte, fmN, fm0, take_N, toN1, slN_nil, encN, slN, cfg0, get_flat_part lenN, get_flat_drop lenN, len_flat lenN, encX, st_errX, os_errX]
          refine endK.ret ?_ (by first | rfl | simp [belN, bel_Ns, bel_slN, bel_clX, bel_encX, bel_errX]); simp [evRes, getT, retV, Try.f49,  encX, tgX, clX, slN]
        · rw [if_neg he] at i1
          obtain ⟨m, hpc⟩ := i1
          refine bld_err (.un m) _ he (by rw [hr, if_pos he]) ?_
          cases m
          all_goals
            refine PC.walk tok mixed cfg0 Try.func49 rfl Try.call49 (by simp [belN, bel_Ns, bel_slN, bel_clX, bel_encX, bel_errX]) (by first | rfl | simp [belN, bel_Ns, bel_slN, bel_clX, bel_encX, bel_errX]) ?_; simp (maxSteps := 2000000) -implicitDefEqProofs +contextual (disch := first | assumption | omega | decide +kernel) only [push_cast, ↓capI, br2_true, br2_false, frk_tt, frk_tf, frk_f, frkD_tt, frkD_tf, frkD_f, pk2_true, pk2_false, imp_true, seval, Nat.reduceLeDiff, Nat.reduceEqDiff, reduceCtorEq, ↓reduceIte, fmN, fm0, take_N, toN1, slN_nil, encN, slN, cfg0, get_flat_part lenN, get_flat_drop lenN, len_flat lenN, encX, st_errX, os_errX, Try.ntmps49]
            refine callO.pc hpc ?_
            simp (maxSteps := 2000000) -implicitDefEqProofs +contextual (disch := first | assumption | omega | decide +kernel) only [push_cast, ↓capI, br2_true, br2_false, frk_tt, frk_tf, frk_f, frkD_tt, frkD_tf, frkD_f, pk2_true, pk2_false, imp_true, seval, Nat.reduceLeDiff, Nat.reduceEqDiff, reduceCtorEq, ↓reduceIte, fmN, fm0, take_N, toN1, slN_nil, encN, slN, cfg0, get_flat_part lenN, get_flat_drop lenN, len_flat lenN, encX, st_errX, os_errX, errX]
            refine endK.ret ?_ (by first | rfl | simp [belN, bel_Ns, bel_slN, bel_clX, bel_encX, bel_errX]); simp [evRes, getT, retV, Try.f49,  errX]
      by_cases h45 : o = 4 ∨ o = 5
      · have hc : chk1 sw ⟨o, n⟩ = 0 := chk1_op (.inr h45)
        have ha : arity o = 2 := by rcases h45 with h | h <;> rw [h] <;> rfl
        have hr : chk sw (k + 1) (⟨o, n⟩ :: l) = if (chk sw k l).2 ≠ 0 then ([], (chk sw k l).2) else if (chk sw k (chk sw k l).1).2 ≠ 0 then ([], (chk sw k (chk sw k l).1).2) else ((chk sw k (chk sw k l).1).1, 0) := by
          rw [chk, if_neg (fun g => g hc)]
          simp only [ha]
          rfl
        have i1 := ih l hk2 hm2
        have hlen := chk_len sw k l
        have i2 := ih (chk sw k l).1 (by omega) (by omega)
        rw [bldR] at i1 i2
        by_cases he : (chk sw k l).2 = 0
        case neg =>
          rw [if_neg he] at i1
          obtain ⟨m, hpc⟩ := i1
          refine bld_err .no _ he (by rw [hr, if_pos he]) ?_
          rcases h45 with h | h <;> subst h
          all_goals
            refine PC.walk tok mixed cfg0 Try.func49 rfl Try.call49 (by simp [belN, bel_Ns, bel_slN, bel_clX, bel_encX, bel_errX]) (by first | rfl | simp [belN, bel_Ns, bel_slN, bel_clX, bel_encX, bel_errX]) ?_; simp (maxSteps := 2000000) -implicitDefEqProofs +contextual (disch := first | assumption | omega | decide +kernel) only [push_cast, ↓capI, br2_true, br2_false, frk_tt, frk_tf, frk_f, frkD_tt, frkD_tf, frkD_f, pk2_true, pk2_false, imp_true, seval, Nat.reduceLeDiff, Nat.reduceEqDiff, reduceCtorEq, ↓reduceIte, fmN, fm0, take_N, toN1, slN_nil, encN, slN, cfg0, get_flat_part lenN, get_flat_drop lenN, len_flat lenN, encX, st_errX, os_errX, Try.ntmps49]
            refine callO.pc hpc ?_
            (try simp (maxSteps := 2000000) -implicitDefEqProofs +contextual (disch := first | assumption | omega | decide +kernel) only [push_cast, ↓capI, br2_true, br2_false, frk_tt, frk_tf, frk_f, frkD_tt, frkD_tf, frkD_f, pk2_true, pk2_false, imp_true, seval, Nat.reduceLeDiff, Nat.reduceEqDiff, reduceCtorEq, ↓reduceIte, fmN, fm0, take_N, toN1, slN_nil, encN, slN, cfg0, get_flat_part lenN, get_flat_drop lenN, len_flat lenN, encX, st_errX, os_errX, he])
            refine endK.ret ?_ (by first | rfl | simp [belN, bel_Ns, bel_slN, bel_clX, bel_encX, bel_errX]); simp [evRes, getT, retV, Try.f49,  errX]
        rw [if_pos he] at i1
        rw [if_neg (fun g => g he)] at hr
        obtain ⟨p, hp, hl1, hpc⟩ := i1
        generalize chk sw k l = c at *
        obtain ⟨r, e⟩ := c
        simp only at he hl1 hpc i2 hr hlen
        by_cases he2 : (chk sw k r).2 = 0
        · rw [if_pos he2] at i2
          rw [if_neg (fun g => g he2)] at hr
          obtain ⟨q, hq, hl2, hpc2⟩ := i2
          refine bld_ok (.bin ⟨o, n⟩ p q) ⟨h45, hp, hq⟩ (chk sw k r).1 hr (by rw [flat, List.cons_append, List.append_assoc, ← hl2, ← hl1]) ?_
          rcases h45 with h | h <;> subst h
          all_goals
            refine PC.walk tok mixed cfg0 Try.func49 rfl Try.call49 (by simp [belN, bel_Ns, bel_slN, bel_clX, bel_encX, bel_errX]) (by first | rfl | simp [belN, bel_Ns, bel_slN, bel_clX, bel_encX, bel_errX]) ?_; simp (maxSteps := 2000000) -implicitDefEqProofs +contextual (disch := first | assumption | omega | decide +kernel) only [push_cast, ↓capI, br2_true, br2_false, frk_tt, frk_tf, frk_f, frkD_tt, frkD_tf, frkD_f, pk2_true, pk2_false, imp_true, seval, Nat.reduceLeDiff, Nat.reduceEqDiff, reduceCtorEq, ↓reduceIte, fmN, fm0, take_N, toN1, slN_nil, encN, slN, cfg0, get_flat_part lenN, get_flat_drop lenN, len_flat lenN, encX, st_errX, os_errX, Try.ntmps49]
            refine callO.pc hpc ?_
            simp (maxSteps := 2000000) -implicitDefEqProofs +contextual (disch := first | assumption | omega | decide +kernel) only [push_cast, ↓capI, br2_true, br2_false, frk_tt, frk_tf, frk_f, frkD_tt, frkD_tf, frkD_f, pk2_true, pk2_false, imp_true, seval, Nat.reduceLeDiff, Nat.reduceEqDiff, reduceCtorEq, ↓reduceIte, fmN, fm0, take_N, toN1, slN_nil, encN, slN, cfg0, get_flat_part lenN, get_flat_drop lenN, len_flat lenN, encX, st_errX, os_errX]
            refine callO.pc hpc2 ?_
            simp (maxSteps := 2000000) -implicitDefEqProofs +contextual (disch := first | assumption | omega | decide +kernel) only [push_cast, ↓capI, br2_true, br2_false, frk_tt, frk_tf, frk_f, frkD_tt, frkD_tf, frkD_f, pk2_true, pk2_false, imp_true, seval, Nat.reduceLeDiff, Nat.reduceEqDiff, reduceCtorEq, ↓reduceIte, fmN, fm0, take_N, toN1, slN_nil, encN, slN, cfg0, get_flat_part lenN, get_flat_drop lenN, len_flat lenN, encX, st_errX, os_errX]
            refine endK.ret ?_ (by first | rfl | simp [belN, bel_Ns, bel_slN, bel_clX, bel_encX, bel_errX]); simp [evRes, getT, retV, Try.f49,  encX, tgX, clX, slN]
        · rw [if_neg he2] at i2
          rw [if_pos he2] at hr
          obtain ⟨m, hpc2⟩ := i2
          refine bld_err (.bin o p m) _ he2 hr ?_
          rcases h45 with h | h <;> subst h
          all_goals cases m
          all_goals
            refine PC.walk tok mixed cfg0 Try.func49 rfl Try.call49 (by simp [belN, bel_Ns, bel_slN, bel_clX, bel_encX, bel_errX]) (by first | rfl | simp [belN, bel_Ns, bel_slN, bel_clX, bel_encX, bel_errX]) ?_; simp (maxSteps := 2000000) -implicitDefEqProofs +contextual (disch := first | assumption | omega | decide +kernel) only [push_cast, ↓capI, br2_true, br2_false, frk_tt, frk_tf, frk_f, frkD_tt, frkD_tf, frkD_f, pk2_true, pk2_false, imp_true, seval, Nat.reduceLeDiff, Nat.reduceEqDiff, reduceCtorEq, ↓reduceIte, fmN, fm0, take_N, toN1, slN_nil, encN, slN, cfg0, get_flat_part lenN, get_flat_drop lenN, len_flat lenN, encX, st_errX, os_errX, Try.ntmps49]
            refine callO.pc hpc ?_
            simp (maxSteps := 2000000) -implicitDefEqProofs +contextual (disch := first | assumption | omega | decide +kernel) only [push_cast, ↓capI, br2_true, br2_false, frk_tt, frk_tf, frk_f, frkD_tt, frkD_tf, frkD_f, pk2_true, pk2_false, imp_true, seval, Nat.reduceLeDiff, Nat.reduceEqDiff, reduceCtorEq, ↓reduceIte, fmN, fm0, take_N, toN1, slN_nil, encN, slN, cfg0, get_flat_part lenN, get_flat_drop lenN, len_flat lenN, encX, st_errX, os_errX]
            refine callO.pc hpc2 ?_
            simp (maxSteps := 2000000) -implicitDefEqProofs +contextual (disch := first | assumption | omega | decide +kernel) only [push_cast, ↓capI, br2_true, br2_false, frk_tt, frk_tf, frk_f, frkD_tt, frkD_tf, frkD_f, pk2_true, pk2_false, imp_true, seval, Nat.reduceLeDiff, Nat.reduceEqDiff, reduceCtorEq, ↓reduceIte, fmN, fm0, take_N, toN1, slN_nil, encN, slN, cfg0, get_flat_part lenN, get_flat_drop lenN, len_flat lenN, encX, st_errX, os_errX, errX]
            refine endK.ret ?_ (by first | rfl | simp [belN, bel_Ns, bel_slN, bel_clX, bel_encX, bel_errX]); simp [evRes, getT, retV, Try.f49,  errX, encX]
      · have ha : arity o = -1 := by rw [arity, if_neg (by omega), if_neg h6, if_neg h45]
        have hc : chk1 sw ⟨o, n⟩ = 11 := by
          rw [chk1]
          simp only [ha]
          rfl
        have n4 : ¬ o = 4 := by omega
        have n5 : ¬ o = 5 := by omega
        refine bld_err .no 11 (by decide) (by rw [chk, hc, if_pos (by decide)]) ?_
        refine PC.walk tok mixed cfg0 Try.func49 rfl Try.call49 (by simp [belN, bel_Ns, bel_slN, bel_clX, bel_encX, bel_errX]) (by first | rfl | simp [belN, bel_Ns, bel_slN, bel_clX, bel_encX, bel_errX]) ?_; simp (maxSteps := 2000000) -implicitDefEqProofs +contextual (disch := first | assumption | omega | decide +kernel) only [push_cast, ↓capI, br2_true, br2_false, frk_tt, frk_tf, frk_f, frkD_tt, frkD_tf, frkD_f, pk2_true, pk2_false, imp_true, seval, Nat.reduceLeDiff, Nat.reduceEqDiff, reduceCtorEq, ↓reduceIte, fmN, fm0, take_N, toN1, slN_nil, encN, slN, cfg0, get_flat_part lenN, get_flat_drop lenN, len_flat lenN, encX, st_errX, os_errX, Try.ntmps49]
        (try simp (maxSteps := 2000000) -implicitDefEqProofs +contextual (disch := first | assumption | omega | decide +kernel) only [push_cast, ↓capI, br2_true, br2_false, frk_tt, frk_tf, frk_f, frkD_tt, frkD_tf, frkD_f, pk2_true, pk2_false, imp_true, seval, Nat.reduceLeDiff, Nat.reduceEqDiff, reduceCtorEq, ↓reduceIte, fmN, fm0, take_N, toN1, slN_nil, encN, slN, cfg0, get_flat_part lenN, get_flat_drop lenN, len_flat lenN, encX, st_errX, os_errX, n1, n2, h3, n4, n5, h6])
        refine endK.ret ?_ (by first | rfl | simp [belN, bel_Ns, bel_slN, bel_clX, bel_encX, bel_errX]); simp [evRes, getT, retV, Try.f49,  errX]
end Go.Proofs.Ytkjffppioddnpaa

/- Chapter 42: the program's automaton nodes of a list of path nodes. -/
set_option maxRecDepth 100000
set_option maxHeartbeats 4000000
set_option linter.all false
namespace Go.Proofs.Ytkjffppioddnpaa
open Go.Vm
def nxP : Pr → Nx
  | .leaf x => if x.op = 1 then .eps else if x.op = 2 then .any else .one x.n
  | .un _ p => .star (nxP p)
  | .bin x p q => if x.op = 4 then .cat (nxP p) (nxP q) else .alt (nxP p) (nxP q)
theorem pc24 (sw : Int) : ∀ (p : Pr) (r : List Nd), okP sw p → (flat p ++ r).length ≤ 4000000 → PC Try.prog 24 [slN (flat p ++ r)] (.tup [encA (nxP p), slN r]) := by
  intro p
  induction p with
  | leaf x =>
    intro r hp hl
    obtain ⟨o, n⟩ := x
    simp only [flat, List.cons_append, List.nil_append, List.length_cons] at hl ⊢
    have h0 : o = 1 ∨ o = 2 ∨ o = 3 := hp.1
    rcases h0 with h | h | h <;> subst h
    · rw [show nxP (.leaf ⟨1, n⟩) = .eps from rfl]
      refine PC.walk tok mixed cfg0 Try.func24 rfl Try.call24 (by simp [belN, bel_Ns, bel_slN, bel_clA, bel_encA]) (by first | rfl | simp [belN, bel_Ns, bel_slN, bel_clA, bel_encA]) ?_; simp (maxSteps := 2000000) -implicitDefEqProofs +contextual (disch := first | assumption | omega | decide +kernel) only [push_cast, ↓capI, br2_true, br2_false, frk_tt, frk_tf, frk_f, frkD_tt, frkD_tf, frkD_f, pk2_true, pk2_false, imp_true, seval, Nat.reduceLeDiff, Nat.reduceEqDiff, reduceCtorEq, ↓reduceIte, fmN, fm0, take_N, toN1, slN_nil, encN, slN, cfg0, get_flat_part lenN, get_flat_drop lenN, len_flat lenN, encA, st_encA, os_encA, Try.ntmps24]
      refine endK.ret ?_ (by first | rfl | simp [belN, bel_Ns, bel_slN, bel_clA, bel_encA]); simp [evRes, getT, retV, Try.f24,  encA, tgA, clA]
    · rw [show nxP (.leaf ⟨2, n⟩) = .any from rfl]
      refine PC.walk tok mixed cfg0 Try.func24 rfl Try.call24 (by simp [belN, bel_Ns, bel_slN, bel_clA, bel_encA]) (by first | rfl | simp [belN, bel_Ns, bel_slN, bel_clA, bel_encA]) ?_; simp (maxSteps := 2000000) -implicitDefEqProofs +contextual (disch := first | assumption | omega | decide +kernel) only [push_cast, ↓capI, br2_true, br2_false, frk_tt, frk_tf, frk_f, frkD_tt, frkD_tf, frkD_f, pk2_true, pk2_false, imp_true, seval, Nat.reduceLeDiff, Nat.reduceEqDiff, reduceCtorEq, ↓reduceIte, fmN, fm0, take_N, toN1, slN_nil, encN, slN, cfg0, get_flat_part lenN, get_flat_drop lenN, len_flat lenN, encA, st_encA, os_encA, Try.ntmps24]
      refine endK.ret ?_ (by first | rfl | simp [belN, bel_Ns, bel_slN, bel_clA, bel_encA]); simp [evRes, getT, retV, Try.f24,  encA, tgA, clA]
    · rw [show nxP (.leaf ⟨3, n⟩) = .one n from rfl]
      refine PC.walk tok mixed cfg0 Try.func24 rfl Try.call24 (by simp [belN, bel_Ns, bel_slN, bel_clA, bel_encA]) (by first | rfl | simp [belN, bel_Ns, bel_slN, bel_clA, bel_encA]) ?_; simp (maxSteps := 2000000) -implicitDefEqProofs +contextual (disch := first | assumption | omega | decide +kernel) only [push_cast, ↓capI, br2_true, br2_false, frk_tt, frk_tf, frk_f, frkD_tt, frkD_tf, frkD_f, pk2_true, pk2_false, imp_true, seval, Nat.reduceLeDiff, Nat.reduceEqDiff, reduceCtorEq, ↓reduceIte, fmN, fm0, take_N, toN1, slN_nil, encN, slN, cfg0, get_flat_part lenN, get_flat_drop lenN, len_flat lenN, encA, st_encA, os_encA, Try.ntmps24]
      refine endK.ret ?_ (by first | rfl | simp [belN, bel_Ns, bel_slN, bel_clA, bel_encA]); simp [evRes, getT, retV, Try.f24,  encA, tgA, clA]
  | un x p ih =>
    intro r hp hl
    obtain ⟨o, n⟩ := x
    have h : o = 6 := hp.1
    subst h
    simp only [flat, List.cons_append, List.length_cons] at hl ⊢
    have i1 := ih r hp.2 (by simp only [List.length_append] at hl ⊢; omega)
    rw [show nxP (.un ⟨6, n⟩ p) = .star (nxP p) from rfl]
    generalize flat p ++ r = l at hl i1 ⊢
    refine PC.walk tok mixed cfg0 Try.func24 rfl Try.call24 (by simp [belN, bel_Ns, bel_slN, bel_clA, bel_encA]) (by first | rfl | simp [belN, bel_Ns, bel_slN, bel_clA, bel_encA]) ?_; simp (maxSteps := 2000000) -implicitDefEqProofs +contextual (disch := first | assumption | omega | decide +kernel) only [push_cast, ↓capI, br2_true, br2_false, frk_tt, frk_tf, frk_f, frkD_tt, frkD_tf, frkD_f, pk2_true, pk2_false, imp_true, seval, Nat.reduceLeDiff, Nat.reduceEqDiff, reduceCtorEq, ↓reduceIte, fmN, fm0, take_N, toN1, slN_nil, encN, slN, cfg0, get_flat_part lenN, get_flat_drop lenN, len_flat lenN, encA, st_encA, os_encA, Try.ntmps24]
    refine callO.pc i1 ?_
    simp (maxSteps := 2000000) -implicitDefEqProofs +contextual (disch := first | assumption | omega | decide +kernel) only [push_cast, ↓capI, br2_true, br2_false, frk_tt, frk_tf, frk_f, frkD_tt, frkD_tf, frkD_f, pk2_true, pk2_false, imp_true, seval, Nat.reduceLeDiff, Nat.reduceEqDiff, reduceCtorEq, ↓reduceIte, fmN, fm0, take_N, toN1, slN_nil, encN, slN, cfg0, get_flat_part lenN, get_flat_drop lenN, len_flat lenN, encA, st_encA, os_encA]
    refine endK.ret ?_ (by first | rfl | simp [belN, bel_Ns, bel_slN, bel_clA, bel_encA]); simp [evRes, getT, retV, Try.f24,  encA, tgA, clA, slN]
  | bin x p q i1 i2 =>
    intro r hp hl
    obtain ⟨o, n⟩ := x
    have h : o = 4 ∨ o = 5 := hp.1
    simp only [flat, List.cons_append, List.length_cons, List.append_assoc] at hl ⊢
    have j1 := i1 (flat q ++ r) hp.2.1 (by simp only [List.length_append] at hl ⊢; omega)
    have j2 := i2 r hp.2.2 (by simp only [List.length_append] at hl ⊢; omega)
    generalize flat p ++ (flat q ++ r) = l at hl j1 ⊢
    generalize flat q ++ r = l2 at j1 j2 ⊢
    rcases h with h | h <;> subst h
    · rw [show nxP (.bin ⟨4, n⟩ p q) = .cat (nxP p) (nxP q) from rfl]
      refine PC.walk tok mixed cfg0 Try.func24 rfl Try.call24 (by simp [belN, bel_Ns, bel_slN, bel_clA, bel_encA]) (by first | rfl | simp [belN, bel_Ns, bel_slN, bel_clA, bel_encA]) ?_; simp (maxSteps := 2000000) -implicitDefEqProofs +contextual (disch := first | assumption | omega | decide +kernel) only [push_cast, ↓capI, br2_true, br2_false, frk_tt, frk_tf, frk_f, frkD_tt, frkD_tf, frkD_f, pk2_true, pk2_false, imp_true, seval, Nat.reduceLeDiff, Nat.reduceEqDiff, reduceCtorEq, ↓reduceIte, fmN, fm0, take_N, toN1, slN_nil, encN, slN, cfg0, get_flat_part lenN, get_flat_drop lenN, len_flat lenN, encA, st_encA, os_encA, Try.ntmps24]
      refine callO.pc j1 ?_
      simp (maxSteps := 2000000) -implicitDefEqProofs +contextual (disch := first | assumption | omega | decide +kernel) only [push_cast, ↓capI, br2_true, br2_false, frk_tt, frk_tf, frk_f, frkD_tt, frkD_tf, frkD_f, pk2_true, pk2_false, imp_true, seval, Nat.reduceLeDiff, Nat.reduceEqDiff, reduceCtorEq, ↓reduceIte, fmN, fm0, take_N, toN1, slN_nil, encN, slN, cfg0, get_flat_part lenN, get_flat_drop lenN, len_flat lenN, encA, st_encA, os_encA]
      refine callO.pc j2 ?_
      simp (maxSteps := 2000000) -implicitDefEqProofs +contextual (disch := first | assumption | omega | decide +kernel) only [push_cast, ↓capI, br2_true, br2_false, frk_tt, frk_tf, frk_f, frkD_tt, frkD_tf, frkD_f, pk2_true, pk2_false, imp_true, seval, Nat.reduceLeDiff, Nat.reduceEqDiff, reduceCtorEq, ↓reduceIte, fmN, fm0, take_N, toN1, slN_nil, encN, slN, cfg0, get_flat_part lenN, get_flat_drop lenN, len_flat lenN, encA, st_encA, os_encA]
      refine endK.ret ?_ (by first | rfl | simp [belN, bel_Ns, bel_slN, bel_clA, bel_encA]); simp [evRes, getT, retV, Try.f24,  encA, tgA, clA, slN]
    · rw [show nxP (.bin ⟨5, n⟩ p q) = .alt (nxP p) (nxP q) from rfl]
      refine PC.walk tok mixed cfg0 Try.func24 rfl Try.call24 (by simp [belN, bel_Ns, bel_slN, bel_clA, bel_encA]) (by first | rfl | simp [belN, bel_Ns, bel_slN, bel_clA, bel_encA]) ?_; simp (maxSteps := 2000000) -implicitDefEqProofs +contextual (disch := first | assumption | omega | decide +kernel) only [push_cast, ↓capI, br2_true, br2_false, frk_tt, frk_tf, frk_f, frkD_tt, frkD_tf, frkD_f, pk2_true, pk2_false, imp_true, seval, Nat.reduceLeDiff, Nat.reduceEqDiff, reduceCtorEq, ↓reduceIte, fmN, fm0, take_N, toN1, slN_nil, encN, slN, cfg0, get_flat_part lenN, get_flat_drop lenN, len_flat lenN, encA, st_encA, os_encA, Try.ntmps24]
      refine callO.pc j1 ?_
      simp (maxSteps := 2000000) -implicitDefEqProofs +contextual (disch := first | assumption | omega | decide +kernel) only [push_cast, ↓capI, br2_true, br2_false, frk_tt, frk_tf, frk_f, frkD_tt, frkD_tf, frkD_f, pk2_true, pk2_false, imp_true, seval, Nat.reduceLeDiff, Nat.reduceEqDiff, reduceCtorEq, ↓reduceIte, fmN, fm0, take_N, toN1, slN_nil, encN, slN, cfg0, get_flat_part lenN, get_flat_drop lenN, len_flat lenN, encA, st_encA, os_encA]
      refine callO.pc j2 ?_
      simp (maxSteps := 2000000) -implicitDefEqProofs +contextual (disch := first | assumption | omega | decide +kernel) only [push_cast, ↓capI, br2_true, br2_false, frk_tt, frk_tf, frk_f, frkD_tt, frkD_tf, frkD_f, pk2_true, pk2_false, imp_true, seval, Nat.reduceLeDiff, Nat.reduceEqDiff, reduceCtorEq, ↓reduceIte, fmN, fm0, take_N, toN1, slN_nil, encN, slN, cfg0, get_flat_part lenN, get_flat_drop lenN, len_flat lenN, encA, st_encA, os_encA]
      refine endK.ret ?_ (by first | rfl | simp [belN, bel_Ns, bel_slN, bel_clA, bel_encA]); simp [evRes, getT, retV, Try.f24,  encA, tgA, clA, slN]
end Go.Proofs.Ytkjffppioddnpaa

/- Chapter 41: the program's check of a list of nodes. -/
set_option maxRecDepth 100000
set_option maxHeartbeats 4000000
set_option linter.all false
namespace Go.Proofs.Ytkjffppioddnpaa
open Go.Vm
def checkP (sw : Int) (l : List Nd) : Int := if 24 < l.length then 12 else if (chk sw l.length l).2 = 0 ∧ (chk sw l.length l).1 ≠ [] then 4 else (chk sw l.length l).2
theorem checkP_big {sw : Int} {l : List Nd} (h : 24 < l.length) : checkP sw l = 12 := by rw [checkP, if_pos h]
theorem checkP_err {sw : Int} {l : List Nd} (h : ¬ 24 < l.length) (he : ¬ (chk sw l.length l).2 = 0) : checkP sw l = (chk sw l.length l).2 := by rw [checkP, if_neg h, if_neg (fun g => he g.1)]
theorem checkP_long {sw : Int} {l : List Nd} (h : ¬ 24 < l.length) (he : (chk sw l.length l).2 = 0) (hn : ¬ (chk sw l.length l).1 = []) : checkP sw l = 4 := by rw [checkP, if_neg h, if_pos ⟨he, hn⟩]
theorem checkP_ok {sw : Int} {l : List Nd} (h : ¬ 24 < l.length) (he : (chk sw l.length l).2 = 0) (hn : (chk sw l.length l).1 = []) : checkP sw l = 0 := by rw [checkP, if_neg h, if_neg (fun g => g.2 hn), he]
def treR (f : Nat) (args : List V) (sw : Int) (l : List Nd) : Prop :=
  (checkP sw l = 0 ∧ ∃ p, okP sw p ∧ l = flat p ∧ l.length ≤ 24 ∧ PC Try.prog f args (.tup [encX p, .int .i64 0])) ∨
  (checkP sw l ≠ 0 ∧ PC Try.prog f args (.tup [.nili, .int .i64 (checkP sw l)]))
theorem tree36 (sw : Int) (l : List Nd) (hl : l.length ≤ 4000000) : treR 36 [slN l, .int .i64 sw] sw l := by
  by_cases h : 24 < l.length
  · refine .inr ⟨by rw [checkP_big h]; decide, ?_⟩
    rw [checkP_big h]
    refine PC.walk tok mixed cfg0 Try.func36 rfl Try.call36 (by simp [belN, bel_Ns, bel_slN, bel_clX, bel_encX, bel_errX]) (by first | rfl | simp [belN, bel_Ns, bel_slN, bel_clX, bel_encX, bel_errX]) ?_; simp (maxSteps := 2000000) -implicitDefEqProofs +contextual (disch := first | assumption | omega | decide +kernel) only [push_cast, ↓capI, br2_true, br2_false, frk_tt, frk_tf, frk_f, frkD_tt, frkD_tf, frkD_f, pk2_true, pk2_false, imp_true, seval, Nat.reduceLeDiff, Nat.reduceEqDiff, reduceCtorEq, ↓reduceIte, fmN, fm0, take_N, toN1, slN_nil, encN, slN, cfg0, get_flat_part lenN, get_flat_drop lenN, len_flat lenN, encX, st_errX, os_errX, Try.ntmps36]
    refine endK.ret ?_ (by first | rfl | simp [belN, bel_Ns, bel_slN, bel_clX, bel_encX, bel_errX]); simp [evRes, getT, retV, Try.f36]
  have hb := pc49 sw l.length l (Nat.le_refl _) hl
  rw [bldR] at hb
  by_cases he : (chk sw l.length l).2 = 0
  · rw [if_pos he] at hb
    obtain ⟨p, hp, hf, hpc⟩ := hb
    by_cases hn : (chk sw l.length l).1 = []
    · refine .inl ⟨checkP_ok h he hn, p, hp, by rw [hn, List.append_nil] at hf; exact hf, by omega, ?_⟩
      rw [hn] at hpc
      refine PC.walk tok mixed cfg0 Try.func36 rfl Try.call36 (by simp [belN, bel_Ns, bel_slN, bel_clX, bel_encX, bel_errX]) (by first | rfl | simp [belN, bel_Ns, bel_slN, bel_clX, bel_encX, bel_errX]) ?_; simp (maxSteps := 2000000) -implicitDefEqProofs +contextual (disch := first | assumption | omega | decide +kernel) only [push_cast, ↓capI, br2_true, br2_false, frk_tt, frk_tf, frk_f, frkD_tt, frkD_tf, frkD_f, pk2_true, pk2_false, imp_true, seval, Nat.reduceLeDiff, Nat.reduceEqDiff, reduceCtorEq, ↓reduceIte, fmN, fm0, take_N, toN1, slN_nil, encN, slN, cfg0, get_flat_part lenN, get_flat_drop lenN, len_flat lenN, encX, st_errX, os_errX, Try.ntmps36]
      refine callO.pc hpc ?_
      simp (maxSteps := 2000000) -implicitDefEqProofs +contextual (disch := first | assumption | omega | decide +kernel) only [push_cast, ↓capI, br2_true, br2_false, frk_tt, frk_tf, frk_f, frkD_tt, frkD_tf, frkD_f, pk2_true, pk2_false, imp_true, seval, Nat.reduceLeDiff, Nat.reduceEqDiff, reduceCtorEq, ↓reduceIte, fmN, fm0, take_N, toN1, slN_nil, encN, slN, cfg0, get_flat_part lenN, get_flat_drop lenN, len_flat lenN, encX, st_errX, os_errX]
      refine endK.ret ?_ (by first | rfl | simp [belN, bel_Ns, bel_slN, bel_clX, bel_encX, bel_errX]); simp [evRes, getT, retV, Try.f36,  encX]
    · have hp0 : 0 < (chk sw l.length l).1.length := List.length_pos_iff.2 hn
      have hle := chk_len sw l.length l
      refine .inr ⟨by rw [checkP_long h he hn]; decide, ?_⟩
      rw [checkP_long h he hn]
      refine PC.walk tok mixed cfg0 Try.func36 rfl Try.call36 (by simp [belN, bel_Ns, bel_slN, bel_clX, bel_encX, bel_errX]) (by first | rfl | simp [belN, bel_Ns, bel_slN, bel_clX, bel_encX, bel_errX]) ?_; simp (maxSteps := 2000000) -implicitDefEqProofs +contextual (disch := first | assumption | omega | decide +kernel) only [push_cast, ↓capI, br2_true, br2_false, frk_tt, frk_tf, frk_f, frkD_tt, frkD_tf, frkD_f, pk2_true, pk2_false, imp_true, seval, Nat.reduceLeDiff, Nat.reduceEqDiff, reduceCtorEq, ↓reduceIte, fmN, fm0, take_N, toN1, slN_nil, encN, slN, cfg0, get_flat_part lenN, get_flat_drop lenN, len_flat lenN, encX, st_errX, os_errX, Try.ntmps36]
      refine callO.pc hpc ?_
      simp (maxSteps := 2000000) -implicitDefEqProofs +contextual (disch := first | assumption | omega | decide +kernel) only [push_cast, ↓capI, br2_true, br2_false, frk_tt, frk_tf, frk_f, frkD_tt, frkD_tf, frkD_f, pk2_true, pk2_false, imp_true, seval, Nat.reduceLeDiff, Nat.reduceEqDiff, reduceCtorEq, ↓reduceIte, fmN, fm0, take_N, toN1, slN_nil, encN, slN, cfg0, get_flat_part lenN, get_flat_drop lenN, len_flat lenN, encX, st_errX, os_errX, hp0]
      refine endK.ret ?_ (by first | rfl | simp [belN, bel_Ns, bel_slN, bel_clX, bel_encX, bel_errX]); simp [evRes, getT, retV, Try.f36]
  · rw [if_neg he] at hb
    obtain ⟨m, hpc⟩ := hb
    refine .inr ⟨by rw [checkP_err h he]; exact he, ?_⟩
    rw [checkP_err h he]
    refine PC.walk tok mixed cfg0 Try.func36 rfl Try.call36 (by simp [belN, bel_Ns, bel_slN, bel_clX, bel_encX, bel_errX]) (by first | rfl | simp [belN, bel_Ns, bel_slN, bel_clX, bel_encX, bel_errX]) ?_; simp (maxSteps := 2000000) -implicitDefEqProofs +contextual (disch := first | assumption | omega | decide +kernel) only [push_cast, ↓capI, br2_true, br2_false, frk_tt, frk_tf, frk_f, frkD_tt, frkD_tf, frkD_f, pk2_true, pk2_false, imp_true, seval, Nat.reduceLeDiff, Nat.reduceEqDiff, reduceCtorEq, ↓reduceIte, fmN, fm0, take_N, toN1, slN_nil, encN, slN, cfg0, get_flat_part lenN, get_flat_drop lenN, len_flat lenN, encX, st_errX, os_errX, Try.ntmps36]
    refine callO.pc hpc ?_
    simp (maxSteps := 2000000) -implicitDefEqProofs +contextual (disch := first | assumption | omega | decide +kernel) only [push_cast, ↓capI, br2_true, br2_false, frk_tt, frk_tf, frk_f, frkD_tt, frkD_tf, frkD_f, pk2_true, pk2_false, imp_true, seval, Nat.reduceLeDiff, Nat.reduceEqDiff, reduceCtorEq, ↓reduceIte, fmN, fm0, take_N, toN1, slN_nil, encN, slN, cfg0, get_flat_part lenN, get_flat_drop lenN, len_flat lenN, encX, st_errX, os_errX, he]
    refine endK.ret ?_ (by first | rfl | simp [belN, bel_Ns, bel_slN, bel_clX, bel_encX, bel_errX]); simp [evRes, getT, retV, Try.f36]
theorem pc23 (sw : Int) (l : List Nd) (hl : l.length ≤ 4000000) : PC Try.prog 23 [slN l, .int .i64 sw] (.int .i64 (checkP sw l)) := by
  rcases tree36 sw l hl with ⟨hc, p, hp, hf, h24, hpc⟩ | ⟨hc, hpc⟩
  · rw [hc]
    refine PC.walk tok mixed cfg0 Try.func23 rfl Try.call23 (by simp [belN, bel_Ns, bel_slN, bel_clX, bel_encX, bel_errX]) (by first | rfl | simp [belN, bel_Ns, bel_slN, bel_clX, bel_encX, bel_errX]) ?_; simp (maxSteps := 2000000) -implicitDefEqProofs +contextual (disch := first | assumption | omega | decide +kernel) only [push_cast, ↓capI, br2_true, br2_false, frk_tt, frk_tf, frk_f, frkD_tt, frkD_tf, frkD_f, pk2_true, pk2_false, imp_true, seval, Nat.reduceLeDiff, Nat.reduceEqDiff, reduceCtorEq, ↓reduceIte, fmN, fm0, take_N, toN1, slN_nil, encN, slN, cfg0, get_flat_part lenN, get_flat_drop lenN, len_flat lenN, encX, st_errX, os_errX, Try.ntmps23]
    refine callO.pc hpc ?_
    simp (maxSteps := 2000000) -implicitDefEqProofs +contextual (disch := first | assumption | omega | decide +kernel) only [push_cast, ↓capI, br2_true, br2_false, frk_tt, frk_tf, frk_f, frkD_tt, frkD_tf, frkD_f, pk2_true, pk2_false, imp_true, seval, Nat.reduceLeDiff, Nat.reduceEqDiff, reduceCtorEq, ↓reduceIte, fmN, fm0, take_N, toN1, slN_nil, encN, slN, cfg0, get_flat_part lenN, get_flat_drop lenN, len_flat lenN, encX, st_errX, os_errX]
    refine endK.ret ?_ (by first | rfl | simp [belN, bel_Ns, bel_slN, bel_clX, bel_encX, bel_errX]); simp [evRes, getT, retV, Try.f23]
  · refine PC.walk tok mixed cfg0 Try.func23 rfl Try.call23 (by simp [belN, bel_Ns, bel_slN, bel_clX, bel_encX, bel_errX]) (by first | rfl | simp [belN, bel_Ns, bel_slN, bel_clX, bel_encX, bel_errX]) ?_; simp (maxSteps := 2000000) -implicitDefEqProofs +contextual (disch := first | assumption | omega | decide +kernel) only [push_cast, ↓capI, br2_true, br2_false, frk_tt, frk_tf, frk_f, frkD_tt, frkD_tf, frkD_f, pk2_true, pk2_false, imp_true, seval, Nat.reduceLeDiff, Nat.reduceEqDiff, reduceCtorEq, ↓reduceIte, fmN, fm0, take_N, toN1, slN_nil, encN, slN, cfg0, get_flat_part lenN, get_flat_drop lenN, len_flat lenN, encX, st_errX, os_errX, Try.ntmps23]
    refine callO.pc hpc ?_
    simp (maxSteps := 2000000) -implicitDefEqProofs +contextual (disch := first | assumption | omega | decide +kernel) only [push_cast, ↓capI, br2_true, br2_false, frk_tt, frk_tf, frk_f, frkD_tt, frkD_tf, frkD_f, pk2_true, pk2_false, imp_true, seval, Nat.reduceLeDiff, Nat.reduceEqDiff, reduceCtorEq, ↓reduceIte, fmN, fm0, take_N, toN1, slN_nil, encN, slN, cfg0, get_flat_part lenN, get_flat_drop lenN, len_flat lenN, encX, st_errX, os_errX]
    refine endK.ret ?_ (by first | rfl | simp [belN, bel_Ns, bel_slN, bel_clX, bel_encX, bel_errX]); simp [evRes, getT, retV, Try.f23]
end Go.Proofs.Ytkjffppioddnpaa

/- Chapter 41: the reference's check of a list of nodes. -/
set_option maxRecDepth 100000
set_option maxHeartbeats 4000000
set_option linter.all false
namespace Go.Proofs.Ytkjffppioddnpaa
open Go.Vm
theorem pc53 (o : Int) : PC Try.prog 53 [.int .i64 o] (.int .i64 (arity o)) := by
  refine PC.walk tok mixed cfg0 Try.func53 rfl Try.call53 (by simp [belN, bel_Ns, bel_slN]) (by first | rfl | simp [belN, bel_Ns, bel_slN]) ?_; simp (maxSteps := 2000000) -implicitDefEqProofs +contextual (disch := first | assumption | omega | decide +kernel) only [push_cast, ↓capI, br2_true, br2_false, frk_tt, frk_tf, frk_f, frkD_tt, frkD_tf, frkD_f, pk2_true, pk2_false, imp_true, seval, Nat.reduceLeDiff, Nat.reduceEqDiff, reduceCtorEq, ↓reduceIte, fmN, fm0, take_N, toN1, slN_nil, encN, slN, cfg0, get_flat_part lenN, get_flat_drop lenN, len_flat lenN, Try.ntmps53]
  refine ⟨fun h => ?_, fun h1 => ⟨fun h => ?_, fun h2 => ⟨fun h => ?_, fun h3 => ⟨fun h => ?_, fun h4 => ⟨fun h => ?_, fun h5 => ⟨fun h => ?_, fun h6 => ?_⟩⟩⟩⟩⟩⟩
  · refine endK.ret ?_ (by first | rfl | simp [belN, bel_Ns, bel_slN]); simp [evRes, getT, retV, Try.f53]
    rfl
  · refine endK.ret ?_ (by first | rfl | simp [belN, bel_Ns, bel_slN]); simp [evRes, getT, retV, Try.f53]
    rfl
  · refine endK.ret ?_ (by first | rfl | simp [belN, bel_Ns, bel_slN]); simp [evRes, getT, retV, Try.f53]
    rfl
  · refine endK.ret ?_ (by first | rfl | simp [belN, bel_Ns, bel_slN]); simp [evRes, getT, retV, Try.f53]
    rfl
  · refine endK.ret ?_ (by first | rfl | simp [belN, bel_Ns, bel_slN]); simp [evRes, getT, retV, Try.f53]
    rfl
  · refine endK.ret ?_ (by first | rfl | simp [belN, bel_Ns, bel_slN]); simp [evRes, getT, retV, Try.f53]
    rfl
  · refine endK.ret ?_ (by first | rfl | simp [belN, bel_Ns, bel_slN]); simp [evRes, getT, retV, Try.f53,  arity, h1, h2, h3, h4, h5, h6, or_self, if_false]
def repS (f : Nat → Nat × Int) : Nat → Nat → Nat × Int
  | 0, a => (a, 0)
  | n + 1, a => if (f a).2 ≠ 0 then f a else repS f n (f a).1
def scan (sw : Int) : Nat → List Nd → Nat → Nat × Int
  | 0, _, a => (a, 3)
  | k + 1, l, a => match l[a]? with
    | none => (a, 3)
    | some x => if chk1 sw x ≠ 0 then (a, chk1 sw x) else repS (scan sw k l) (arity x.op).toNat (a + 1)
theorem repS_le {f : Nat → Nat × Int} {m : Nat} (h : ∀ a, a ≤ m → (f a).1 ≤ m) : ∀ n a, a ≤ m → (repS f n a).1 ≤ m
  | 0, a, ha => ha
  | n + 1, a, ha => by
    rw [repS]
    split
    · exact h a ha
    · exact repS_le h n _ (h a ha)
theorem scan_le (sw : Int) : ∀ k l a, a ≤ l.length → (scan sw k l a).1 ≤ l.length
  | 0, l, a, h => h
  | k + 1, l, a, h => by
    rw [scan]
    split
    · exact h
    · rename_i x hx
      split
      · exact h
      · exact repS_le (scan_le sw k l) _ _ (List.getElem?_eq_some_iff.1 hx).1
theorem repS_ge {f : Nat → Nat × Int} (h : ∀ a, a ≤ (f a).1) : ∀ n a, a ≤ (repS f n a).1
  | 0, a => Nat.le_refl _
  | n + 1, a => by
    rw [repS]
    split
    · exact h a
    · exact Nat.le_trans (h a) (repS_ge h n _)
theorem scan_ge (sw : Int) : ∀ k l a, a ≤ (scan sw k l a).1
  | 0, l, a => Nat.le_refl _
  | k + 1, l, a => by
    rw [scan]
    split
    · exact Nat.le_refl _
    · split
      · exact Nat.le_refl _
      · exact Nat.le_trans (Nat.le_succ _) (repS_ge (scan_ge sw k l) _ _)
theorem repS_rep {l : List Nd} {f : Nat → Nat × Int} {g : List Nd → List Nd × Int} (h : ∀ a, a ≤ l.length → (f a).1 ≤ l.length ∧ (f a).2 = (g (l.drop a)).2 ∧ ((f a).2 = 0 → l.drop (f a).1 = (g (l.drop a)).1)) :
    ∀ n a, a ≤ l.length → (repS f n a).2 = (rep g n (l.drop a)).2 ∧ ((repS f n a).2 = 0 → l.drop (repS f n a).1 = (rep g n (l.drop a)).1)
  | 0, a, ha => ⟨rfl, fun _ => rfl⟩
  | n + 1, a, ha => by
    obtain ⟨h1, h2, h3⟩ := h a ha
    rw [repS, rep, ← h2]
    by_cases he : (f a).2 = 0
    · rw [if_neg (fun h => h he), if_neg (fun h => h he), ← h3 he]
      exact repS_rep h n _ h1
    · rw [if_pos he, if_pos he]
      exact ⟨rfl, fun h => absurd h he⟩
theorem scan_chk (sw : Int) : ∀ k l a, a ≤ l.length → (scan sw k l a).2 = (chk sw k (l.drop a)).2 ∧ ((scan sw k l a).2 = 0 → l.drop (scan sw k l a).1 = (chk sw k (l.drop a)).1)
  | 0, l, a, ha => by
    have : (chk sw 0 (l.drop a)).2 = 3 := by cases l.drop a <;> rfl
    rw [this]
    exact ⟨rfl, fun h => by simp [scan] at h⟩
  | k + 1, l, a, ha => by
    by_cases h : a < l.length
    · rw [List.drop_eq_getElem_cons h, scan, List.getElem?_eq_getElem h, chk]
      simp only
      by_cases hc : chk1 sw l[a] = 0
      · rw [if_neg (fun h => h hc), if_neg (fun h => h hc)]
        exact repS_rep (fun b hb => ⟨scan_le sw k l b hb, scan_chk sw k l b hb⟩) _ _ h
      · rw [if_pos hc, if_pos hc]
        exact ⟨rfl, fun h => absurd h hc⟩
    · rw [List.drop_of_length_le (by omega), scan, List.getElem?_eq_none (by omega)]
      exact ⟨rfl, fun h => by simp at h⟩
def encIE (r : Nat × Int) : V := .tup [.int .i64 r.1, .int .i64 r.2]
theorem encIE_d (r : Nat × Int) : encIE r = .tup [.int .i64 r.1, .int .i64 r.2] := rfl
theorem encIE_ok {r : Nat × Int} (h : r.2 = 0) : encIE r = .tup [.int .i64 r.1, .int .i64 0] := by
  rw [encIE, h]
theorem arity_le (o : Int) : arity o ≤ 2 := by
  unfold arity
  split
  · decide
  split
  · decide
  split <;> decide
theorem pc41 (sw : Int) : ∀ (k : Nat) (l : List Nd) (a : Nat), a ≤ l.length → l.length - a ≤ k → l.length ≤ 4000000 → PC Try.prog 41 [slN l, .int .i64 a, .int .i64 sw] (encIE (scan sw k l a)) := by
  intro k
  induction k with
  | zero =>
    intro l a ha hl _
    have hla : (l.length : Int) ≤ a := by omega
    refine PC.walk tok mixed cfg0 Try.func41 rfl Try.call41 (by simp [belN, bel_Ns, bel_slN]) (by first | rfl | simp [belN, bel_Ns, bel_slN]) ?_; simp (maxSteps := 2000000) -implicitDefEqProofs +contextual (disch := first | assumption | omega | decide +kernel) only [push_cast, ↓capI, br2_true, br2_false, frk_tt, frk_tf, frk_f, frkD_tt, frkD_tf, frkD_f, pk2_true, pk2_false, imp_true, seval, Nat.reduceLeDiff, Nat.reduceEqDiff, reduceCtorEq, ↓reduceIte, fmN, fm0, take_N, toN1, slN_nil, encN, slN, cfg0, get_flat_part lenN, get_flat_drop lenN, len_flat lenN, Try.ntmps41]
    refine endK.ret ?_ (by first | rfl | simp [belN, bel_Ns, bel_slN]); simp [evRes, getT, retV, Try.f41,  scan, encIE]
  | succ k ih =>
    intro l a ha hl hm
    by_cases hlt : a < l.length
    case neg =>
      have hla : (l.length : Int) ≤ a := by omega
      have hn : l[a]? = none := List.getElem?_eq_none (by omega)
      refine PC.walk tok mixed cfg0 Try.func41 rfl Try.call41 (by simp [belN, bel_Ns, bel_slN]) (by first | rfl | simp [belN, bel_Ns, bel_slN]) ?_; simp (maxSteps := 2000000) -implicitDefEqProofs +contextual (disch := first | assumption | omega | decide +kernel) only [push_cast, ↓capI, br2_true, br2_false, frk_tt, frk_tf, frk_f, frkD_tt, frkD_tf, frkD_f, pk2_true, pk2_false, imp_true, seval, Nat.reduceLeDiff, Nat.reduceEqDiff, reduceCtorEq, ↓reduceIte, fmN, fm0, take_N, toN1, slN_nil, encN, slN, cfg0, get_flat_part lenN, get_flat_drop lenN, len_flat lenN, Try.ntmps41]
      refine endK.ret ?_ (by first | rfl | simp [belN, bel_Ns, bel_slN]); simp [evRes, getT, retV, Try.f41,  scan, encIE, hn]
    have hx : l[a]? = some l[a] := List.getElem?_eq_getElem hlt
    have hs : scan sw (k + 1) l a = if chk1 sw l[a] ≠ 0 then (a, chk1 sw l[a]) else repS (scan sw k l) (arity l[a].op).toNat (a + 1) := by
      rw [scan, hx]
    rw [hs]
    generalize hX : l[a] = x at hs hx ⊢
    obtain ⟨op, n⟩ := x
    simp only at hs hx
    have h39 := pc53 op
    by_cases ha1 : arity op < 0
    · have hc : chk1 sw ⟨op, n⟩ = 11 := by rw [chk1, if_pos ha1]
      rw [hc, if_pos (by decide)]
      refine PC.walk tok mixed cfg0 Try.func41 rfl Try.call41 (by simp [belN, bel_Ns, bel_slN]) (by first | rfl | simp [belN, bel_Ns, bel_slN]) ?_; simp (maxSteps := 2000000) -implicitDefEqProofs +contextual (disch := first | assumption | omega | decide +kernel) only [push_cast, ↓capI, br2_true, br2_false, frk_tt, frk_tf, frk_f, frkD_tt, frkD_tf, frkD_f, pk2_true, pk2_false, imp_true, seval, Nat.reduceLeDiff, Nat.reduceEqDiff, reduceCtorEq, ↓reduceIte, fmN, fm0, take_N, toN1, slN_nil, encN, slN, cfg0, get_flat_part lenN, get_flat_drop lenN, len_flat lenN, Try.ntmps41]
      simp (maxSteps := 2000000) -implicitDefEqProofs +contextual (disch := first | assumption | omega | decide +kernel) only [push_cast, ↓capI, br2_true, br2_false, frk_tt, frk_tf, frk_f, frkD_tt, frkD_tf, frkD_f, pk2_true, pk2_false, imp_true, seval, Nat.reduceLeDiff, Nat.reduceEqDiff, reduceCtorEq, ↓reduceIte, fmN, fm0, take_N, toN1, slN_nil, encN, slN, cfg0, get_flat_part lenN, get_flat_drop lenN, len_flat lenN, hX]
      refine callO.pc h39 ?_
      simp (maxSteps := 2000000) -implicitDefEqProofs +contextual (disch := first | assumption | omega | decide +kernel) only [push_cast, ↓capI, br2_true, br2_false, frk_tt, frk_tf, frk_f, frkD_tt, frkD_tf, frkD_f, pk2_true, pk2_false, imp_true, seval, Nat.reduceLeDiff, Nat.reduceEqDiff, reduceCtorEq, ↓reduceIte, fmN, fm0, take_N, toN1, slN_nil, encN, slN, cfg0, get_flat_part lenN, get_flat_drop lenN, len_flat lenN, ha1]
      refine endK.ret ?_ (by first | rfl | simp [belN, bel_Ns, bel_slN]); simp [evRes, getT, retV, Try.f41,  encIE]
    obtain ⟨m, hA⟩ : ∃ m : Nat, arity op = (m : Int) := ⟨(arity op).toNat, by omega⟩
    by_cases hb : op = 3 ∧ badN sw ⟨op, n⟩
    · have hc : chk1 sw ⟨op, n⟩ = 9 := by rw [chk1, if_neg ha1, if_pos hb]
      rw [hc, if_pos (by decide)]
      obtain ⟨h3, hb⟩ := hb
      by_cases b1 : n < 0
      · refine PC.walk tok mixed cfg0 Try.func41 rfl Try.call41 (by simp [belN, bel_Ns, bel_slN]) (by first | rfl | simp [belN, bel_Ns, bel_slN]) ?_; simp (maxSteps := 2000000) -implicitDefEqProofs +contextual (disch := first | assumption | omega | decide +kernel) only [push_cast, ↓capI, br2_true, br2_false, frk_tt, frk_tf, frk_f, frkD_tt, frkD_tf, frkD_f, pk2_true, pk2_false, imp_true, seval, Nat.reduceLeDiff, Nat.reduceEqDiff, reduceCtorEq, ↓reduceIte, fmN, fm0, take_N, toN1, slN_nil, encN, slN, cfg0, get_flat_part lenN, get_flat_drop lenN, len_flat lenN, Try.ntmps41]
        simp (maxSteps := 2000000) -implicitDefEqProofs +contextual (disch := first | assumption | omega | decide +kernel) only [push_cast, ↓capI, br2_true, br2_false, frk_tt, frk_tf, frk_f, frkD_tt, frkD_tf, frkD_f, pk2_true, pk2_false, imp_true, seval, Nat.reduceLeDiff, Nat.reduceEqDiff, reduceCtorEq, ↓reduceIte, fmN, fm0, take_N, toN1, slN_nil, encN, slN, cfg0, get_flat_part lenN, get_flat_drop lenN, len_flat lenN, hX]
        refine callO.pc h39 ?_
        simp (maxSteps := 2000000) -implicitDefEqProofs +contextual (disch := first | assumption | omega | decide +kernel) only [push_cast, ↓capI, br2_true, br2_false, frk_tt, frk_tf, frk_f, frkD_tt, frkD_tf, frkD_f, pk2_true, pk2_false, imp_true, seval, Nat.reduceLeDiff, Nat.reduceEqDiff, reduceCtorEq, ↓reduceIte, fmN, fm0, take_N, toN1, slN_nil, encN, slN, cfg0, get_flat_part lenN, get_flat_drop lenN, len_flat lenN, ha1, hX, h3, b1]
        refine endK.ret ?_ (by first | rfl | simp [belN, bel_Ns, bel_slN]); simp [evRes, getT, retV, Try.f41,  encIE]
      by_cases b2 : sw ≤ n
      · refine PC.walk tok mixed cfg0 Try.func41 rfl Try.call41 (by simp [belN, bel_Ns, bel_slN]) (by first | rfl | simp [belN, bel_Ns, bel_slN]) ?_; simp (maxSteps := 2000000) -implicitDefEqProofs +contextual (disch := first | assumption | omega | decide +kernel) only [push_cast, ↓capI, br2_true, br2_false, frk_tt, frk_tf, frk_f, frkD_tt, frkD_tf, frkD_f, pk2_true, pk2_false, imp_true, seval, Nat.reduceLeDiff, Nat.reduceEqDiff, reduceCtorEq, ↓reduceIte, fmN, fm0, take_N, toN1, slN_nil, encN, slN, cfg0, get_flat_part lenN, get_flat_drop lenN, len_flat lenN, Try.ntmps41]
        simp (maxSteps := 2000000) -implicitDefEqProofs +contextual (disch := first | assumption | omega | decide +kernel) only [push_cast, ↓capI, br2_true, br2_false, frk_tt, frk_tf, frk_f, frkD_tt, frkD_tf, frkD_f, pk2_true, pk2_false, imp_true, seval, Nat.reduceLeDiff, Nat.reduceEqDiff, reduceCtorEq, ↓reduceIte, fmN, fm0, take_N, toN1, slN_nil, encN, slN, cfg0, get_flat_part lenN, get_flat_drop lenN, len_flat lenN, hX]
        refine callO.pc h39 ?_
        simp (maxSteps := 2000000) -implicitDefEqProofs +contextual (disch := first | assumption | omega | decide +kernel) only [push_cast, ↓capI, br2_true, br2_false, frk_tt, frk_tf, frk_f, frkD_tt, frkD_tf, frkD_f, pk2_true, pk2_false, imp_true, seval, Nat.reduceLeDiff, Nat.reduceEqDiff, reduceCtorEq, ↓reduceIte, fmN, fm0, take_N, toN1, slN_nil, encN, slN, cfg0, get_flat_part lenN, get_flat_drop lenN, len_flat lenN, ha1, hX, h3, b1, b2]
        refine endK.ret ?_ (by first | rfl | simp [belN, bel_Ns, bel_slN]); simp [evRes, getT, retV, Try.f41,  encIE]
      have b3 : 999999999 < n := by rcases hb with h | h | h <;> simp only at h <;> omega
      refine PC.walk tok mixed cfg0 Try.func41 rfl Try.call41 (by simp [belN, bel_Ns, bel_slN]) (by first | rfl | simp [belN, bel_Ns, bel_slN]) ?_; simp (maxSteps := 2000000) -implicitDefEqProofs +contextual (disch := first | assumption | omega | decide +kernel) only [push_cast, ↓capI, br2_true, br2_false, frk_tt, frk_tf, frk_f, frkD_tt, frkD_tf, frkD_f, pk2_true, pk2_false, imp_true, seval, Nat.reduceLeDiff, Nat.reduceEqDiff, reduceCtorEq, ↓reduceIte, fmN, fm0, take_N, toN1, slN_nil, encN, slN, cfg0, get_flat_part lenN, get_flat_drop lenN, len_flat lenN, Try.ntmps41]
      simp (maxSteps := 2000000) -implicitDefEqProofs +contextual (disch := first | assumption | omega | decide +kernel) only [push_cast, ↓capI, br2_true, br2_false, frk_tt, frk_tf, frk_f, frkD_tt, frkD_tf, frkD_f, pk2_true, pk2_false, imp_true, seval, Nat.reduceLeDiff, Nat.reduceEqDiff, reduceCtorEq, ↓reduceIte, fmN, fm0, take_N, toN1, slN_nil, encN, slN, cfg0, get_flat_part lenN, get_flat_drop lenN, len_flat lenN, hX]
      refine callO.pc h39 ?_
      simp (maxSteps := 2000000) -implicitDefEqProofs +contextual (disch := first | assumption | omega | decide +kernel) only [push_cast, ↓capI, br2_true, br2_false, frk_tt, frk_tf, frk_f, frkD_tt, frkD_tf, frkD_f, pk2_true, pk2_false, imp_true, seval, Nat.reduceLeDiff, Nat.reduceEqDiff, reduceCtorEq, ↓reduceIte, fmN, fm0, take_N, toN1, slN_nil, encN, slN, cfg0, get_flat_part lenN, get_flat_drop lenN, len_flat lenN, ha1, hX, h3, b1, b2, b3]
      refine endK.ret ?_ (by first | rfl | simp [belN, bel_Ns, bel_slN]); simp [evRes, getT, retV, Try.f41,  encIE]
    have hc : chk1 sw ⟨op, n⟩ = 0 := by rw [chk1, if_neg ha1, if_neg hb]
    rw [hc, if_neg (fun h => h rfl), hA, Int.toNat_natCast]
    have hle := arity_le op
    rw [hA] at h39
    have ha2 : ¬ (m : Int) < 0 := by omega
    by_cases h3 : op = 3
    · subst h3
      have b0 : ¬ badN sw ⟨3, n⟩ := fun h => hb ⟨rfl, h⟩
      have b1 : ¬ n < 0 := fun h => b0 (.inl h)
      have b2 : ¬ sw ≤ n := fun h => b0 (.inr (.inl h))
      have b3 : ¬ 999999999 < n := fun h => b0 (.inr (.inr h))
      refine PC.walk tok mixed cfg0 Try.func41 rfl Try.call41 (by simp [belN, bel_Ns, bel_slN]) (by first | rfl | simp [belN, bel_Ns, bel_slN]) ?_; simp (maxSteps := 2000000) -implicitDefEqProofs +contextual (disch := first | assumption | omega | decide +kernel) only [push_cast, ↓capI, br2_true, br2_false, frk_tt, frk_tf, frk_f, frkD_tt, frkD_tf, frkD_f, pk2_true, pk2_false, imp_true, seval, Nat.reduceLeDiff, Nat.reduceEqDiff, reduceCtorEq, ↓reduceIte, fmN, fm0, take_N, toN1, slN_nil, encN, slN, cfg0, get_flat_part lenN, get_flat_drop lenN, len_flat lenN, Try.ntmps41]
      simp (maxSteps := 2000000) -implicitDefEqProofs +contextual (disch := first | assumption | omega | decide +kernel) only [push_cast, ↓capI, br2_true, br2_false, frk_tt, frk_tf, frk_f, frkD_tt, frkD_tf, frkD_f, pk2_true, pk2_false, imp_true, seval, Nat.reduceLeDiff, Nat.reduceEqDiff, reduceCtorEq, ↓reduceIte, fmN, fm0, take_N, toN1, slN_nil, encN, slN, cfg0, get_flat_part lenN, get_flat_drop lenN, len_flat lenN, hX]
      refine callO.pc h39 ?_
      simp (maxSteps := 2000000) -implicitDefEqProofs +contextual (disch := first | assumption | omega | decide +kernel) only [push_cast, ↓capI, br2_true, br2_false, frk_tt, frk_tf, frk_f, frkD_tt, frkD_tf, frkD_f, pk2_true, pk2_false, imp_true, seval, Nat.reduceLeDiff, Nat.reduceEqDiff, reduceCtorEq, ↓reduceIte, fmN, fm0, take_N, toN1, slN_nil, encN, slN, cfg0, get_flat_part lenN, get_flat_drop lenN, len_flat lenN, ha2, hX, b1, b2, b3]
      refine T.lp tok mixed cfg0 (fun ((i, b) : Nat × Nat) => kp 1 (dd 1 (kp 1 (dd 5 (kp 1 (sv (.int .i64 b) (sv (.int .i64 i) (dd 68 (nl))))))))) (fun H0 ((i, b) : Nat × Nat) => []) (fun ((i, b) : Nat × Nat) => i ≤ m ∧ b ≤ l.length ∧ a < b ∧ repS (scan sw k l) (m - i) b = repS (scan sw k l) m (a + 1)) (fun ((i, b) : Nat × Nat) => m - i) ((0, a + 1)) ?_ ?_ ?_
      · exact ⟨Nat.zero_le _, hlt, Nat.lt_succ_self _, rfl⟩
      · exact Gn.canon (J := []) (by first | rfl | (simp [List.append_nil]; done) | (simp [List.append_nil]; rfl)) (by simp [wk, slN, putT, kp, dd, sv, nl]) (by simp [List.length_append]) (by simp [belN, bel_Ns, bel_slN, kp, dd, sv, nl]) (by simp [belN, bel_Ns, bel_slN])
      rintro ⟨i, b⟩ ⟨hi, hb', hab, hr⟩
      by_cases hin : i < m
      · rw [show m - i = (m - (i + 1)) + 1 by omega, repS] at hr
        have hge := scan_ge sw k l b
        have hle := scan_le sw k l b hb'
        simp (maxSteps := 2000000) -implicitDefEqProofs +contextual (disch := first | assumption | omega | decide +kernel) only [push_cast, ↓capI, br2_true, br2_false, frk_tt, frk_tf, frk_f, frkD_tt, frkD_tf, frkD_f, pk2_true, pk2_false, imp_true, seval, Nat.reduceLeDiff, Nat.reduceEqDiff, reduceCtorEq, ↓reduceIte, fmN, fm0, take_N, toN1, slN_nil, encN, slN, cfg0, get_flat_part lenN, get_flat_drop lenN, len_flat lenN]
        refine callO.pc (ih l b hb' (by omega) hm) ?_
        by_cases he : (scan sw k l b).2 = 0
        · rw [if_neg (fun h => h he)] at hr
          rw [encIE_ok he]
          simp (maxSteps := 2000000) -implicitDefEqProofs +contextual (disch := first | assumption | omega | decide +kernel) only [push_cast, ↓capI, br2_true, br2_false, frk_tt, frk_tf, frk_f, frkD_tt, frkD_tf, frkD_f, pk2_true, pk2_false, imp_true, seval, Nat.reduceLeDiff, Nat.reduceEqDiff, reduceCtorEq, ↓reduceIte, fmN, fm0, take_N, toN1, slN_nil, encN, slN, cfg0, get_flat_part lenN, get_flat_drop lenN, len_flat lenN, he]
          refine ⟨(i + 1, (scan sw k l b).1), ⟨by (try simp only); omega, by (try simp only); omega, by (try simp only); omega, hr⟩, by (try simp only); omega, ?_⟩; exact Gn.canon (by first | rfl | (simp [List.append_nil]; rfl)) (by simp [wk, slN]) (by simp [List.length_append]) (by simp [belN, bel_Ns, bel_slN]) (by simp [belN, bel_Ns, bel_slN])
        · rw [if_pos he] at hr
          rw [encIE_d (scan sw k l b)]
          simp (maxSteps := 2000000) -implicitDefEqProofs +contextual (disch := first | assumption | omega | decide +kernel) only [push_cast, ↓capI, br2_true, br2_false, frk_tt, frk_tf, frk_f, frkD_tt, frkD_tf, frkD_f, pk2_true, pk2_false, imp_true, seval, Nat.reduceLeDiff, Nat.reduceEqDiff, reduceCtorEq, ↓reduceIte, fmN, fm0, take_N, toN1, slN_nil, encN, slN, cfg0, get_flat_part lenN, get_flat_drop lenN, len_flat lenN, he]
          rw [← hr, encIE]
          refine endK.ret ?_ (by first | rfl | simp [belN, bel_Ns, bel_slN]); simp [evRes, getT, retV, Try.f41]
      · rw [show m - i = 0 by omega, repS] at hr
        simp (maxSteps := 2000000) -implicitDefEqProofs +contextual (disch := first | assumption | omega | decide +kernel) only [push_cast, ↓capI, br2_true, br2_false, frk_tt, frk_tf, frk_f, frkD_tt, frkD_tf, frkD_f, pk2_true, pk2_false, imp_true, seval, Nat.reduceLeDiff, Nat.reduceEqDiff, reduceCtorEq, ↓reduceIte, fmN, fm0, take_N, toN1, slN_nil, encN, slN, cfg0, get_flat_part lenN, get_flat_drop lenN, len_flat lenN]
        rw [← hr, encIE]
        refine endK.ret ?_ (by first | rfl | simp [belN, bel_Ns, bel_slN]); simp [evRes, getT, retV, Try.f41]
    · refine PC.walk tok mixed cfg0 Try.func41 rfl Try.call41 (by simp [belN, bel_Ns, bel_slN]) (by first | rfl | simp [belN, bel_Ns, bel_slN]) ?_; simp (maxSteps := 2000000) -implicitDefEqProofs +contextual (disch := first | assumption | omega | decide +kernel) only [push_cast, ↓capI, br2_true, br2_false, frk_tt, frk_tf, frk_f, frkD_tt, frkD_tf, frkD_f, pk2_true, pk2_false, imp_true, seval, Nat.reduceLeDiff, Nat.reduceEqDiff, reduceCtorEq, ↓reduceIte, fmN, fm0, take_N, toN1, slN_nil, encN, slN, cfg0, get_flat_part lenN, get_flat_drop lenN, len_flat lenN, Try.ntmps41]
      simp (maxSteps := 2000000) -implicitDefEqProofs +contextual (disch := first | assumption | omega | decide +kernel) only [push_cast, ↓capI, br2_true, br2_false, frk_tt, frk_tf, frk_f, frkD_tt, frkD_tf, frkD_f, pk2_true, pk2_false, imp_true, seval, Nat.reduceLeDiff, Nat.reduceEqDiff, reduceCtorEq, ↓reduceIte, fmN, fm0, take_N, toN1, slN_nil, encN, slN, cfg0, get_flat_part lenN, get_flat_drop lenN, len_flat lenN, hX]
      refine callO.pc h39 ?_
      simp (maxSteps := 2000000) -implicitDefEqProofs +contextual (disch := first | assumption | omega | decide +kernel) only [push_cast, ↓capI, br2_true, br2_false, frk_tt, frk_tf, frk_f, frkD_tt, frkD_tf, frkD_f, pk2_true, pk2_false, imp_true, seval, Nat.reduceLeDiff, Nat.reduceEqDiff, reduceCtorEq, ↓reduceIte, fmN, fm0, take_N, toN1, slN_nil, encN, slN, cfg0, get_flat_part lenN, get_flat_drop lenN, len_flat lenN, ha2, hX, h3]
      refine T.lp tok mixed cfg0 (fun ((i, b) : Nat × Nat) => kp 1 (dd 1 (kp 1 (dd 5 (kp 1 (sv (.int .i64 b) (sv (.int .i64 i) (dd 68 (nl))))))))) (fun H0 ((i, b) : Nat × Nat) => []) (fun ((i, b) : Nat × Nat) => i ≤ m ∧ b ≤ l.length ∧ a < b ∧ repS (scan sw k l) (m - i) b = repS (scan sw k l) m (a + 1)) (fun ((i, b) : Nat × Nat) => m - i) ((0, a + 1)) ?_ ?_ ?_
      · exact ⟨Nat.zero_le _, hlt, Nat.lt_succ_self _, rfl⟩
      · exact Gn.canon (J := []) (by first | rfl | (simp [List.append_nil]; done) | (simp [List.append_nil]; rfl)) (by simp [wk, slN, putT, kp, dd, sv, nl]) (by simp [List.length_append]) (by simp [belN, bel_Ns, bel_slN, kp, dd, sv, nl]) (by simp [belN, bel_Ns, bel_slN])
      rintro ⟨i, b⟩ ⟨hi, hb', hab, hr⟩
      by_cases hin : i < m
      · rw [show m - i = (m - (i + 1)) + 1 by omega, repS] at hr
        have hge := scan_ge sw k l b
        have hle := scan_le sw k l b hb'
        simp (maxSteps := 2000000) -implicitDefEqProofs +contextual (disch := first | assumption | omega | decide +kernel) only [push_cast, ↓capI, br2_true, br2_false, frk_tt, frk_tf, frk_f, frkD_tt, frkD_tf, frkD_f, pk2_true, pk2_false, imp_true, seval, Nat.reduceLeDiff, Nat.reduceEqDiff, reduceCtorEq, ↓reduceIte, fmN, fm0, take_N, toN1, slN_nil, encN, slN, cfg0, get_flat_part lenN, get_flat_drop lenN, len_flat lenN]
        refine callO.pc (ih l b hb' (by omega) hm) ?_
        by_cases he : (scan sw k l b).2 = 0
        · rw [if_neg (fun h => h he)] at hr
          rw [encIE_ok he]
          simp (maxSteps := 2000000) -implicitDefEqProofs +contextual (disch := first | assumption | omega | decide +kernel) only [push_cast, ↓capI, br2_true, br2_false, frk_tt, frk_tf, frk_f, frkD_tt, frkD_tf, frkD_f, pk2_true, pk2_false, imp_true, seval, Nat.reduceLeDiff, Nat.reduceEqDiff, reduceCtorEq, ↓reduceIte, fmN, fm0, take_N, toN1, slN_nil, encN, slN, cfg0, get_flat_part lenN, get_flat_drop lenN, len_flat lenN, he]
          refine ⟨(i + 1, (scan sw k l b).1), ⟨by (try simp only); omega, by (try simp only); omega, by (try simp only); omega, hr⟩, by (try simp only); omega, ?_⟩; exact Gn.canon (by first | rfl | (simp [List.append_nil]; rfl)) (by simp [wk, slN]) (by simp [List.length_append]) (by simp [belN, bel_Ns, bel_slN]) (by simp [belN, bel_Ns, bel_slN])
        · rw [if_pos he] at hr
          rw [encIE_d (scan sw k l b)]
          simp (maxSteps := 2000000) -implicitDefEqProofs +contextual (disch := first | assumption | omega | decide +kernel) only [push_cast, ↓capI, br2_true, br2_false, frk_tt, frk_tf, frk_f, frkD_tt, frkD_tf, frkD_f, pk2_true, pk2_false, imp_true, seval, Nat.reduceLeDiff, Nat.reduceEqDiff, reduceCtorEq, ↓reduceIte, fmN, fm0, take_N, toN1, slN_nil, encN, slN, cfg0, get_flat_part lenN, get_flat_drop lenN, len_flat lenN, he]
          rw [← hr, encIE]
          refine endK.ret ?_ (by first | rfl | simp [belN, bel_Ns, bel_slN]); simp [evRes, getT, retV, Try.f41]
      · rw [show m - i = 0 by omega, repS] at hr
        simp (maxSteps := 2000000) -implicitDefEqProofs +contextual (disch := first | assumption | omega | decide +kernel) only [push_cast, ↓capI, br2_true, br2_false, frk_tt, frk_tf, frk_f, frkD_tt, frkD_tf, frkD_f, pk2_true, pk2_false, imp_true, seval, Nat.reduceLeDiff, Nat.reduceEqDiff, reduceCtorEq, ↓reduceIte, fmN, fm0, take_N, toN1, slN_nil, encN, slN, cfg0, get_flat_part lenN, get_flat_drop lenN, len_flat lenN]
        rw [← hr, encIE]
        refine endK.ret ?_ (by first | rfl | simp [belN, bel_Ns, bel_slN]); simp [evRes, getT, retV, Try.f41]
theorem pc27 (sw : Int) (l : List Nd) (hl : l.length ≤ 4000000) : PC Try.prog 27 [slN l, .int .i64 sw] (.int .i64 (checkP sw l)) := by
  by_cases h : 24 < l.length
  · refine PC.walk tok mixed cfg0 Try.func27 rfl Try.call27 (by simp [belN, bel_Ns, bel_slN]) (by first | rfl | simp [belN, bel_Ns, bel_slN]) ?_; simp (maxSteps := 2000000) -implicitDefEqProofs +contextual (disch := first | assumption | omega | decide +kernel) only [push_cast, ↓capI, br2_true, br2_false, frk_tt, frk_tf, frk_f, frkD_tt, frkD_tf, frkD_f, pk2_true, pk2_false, imp_true, seval, Nat.reduceLeDiff, Nat.reduceEqDiff, reduceCtorEq, ↓reduceIte, fmN, fm0, take_N, toN1, slN_nil, encN, slN, cfg0, get_flat_part lenN, get_flat_drop lenN, len_flat lenN, Try.ntmps27]
    refine endK.ret ?_ (by first | rfl | simp [belN, bel_Ns, bel_slN]); simp [evRes, getT, retV, Try.f27,  checkP, h]
  refine PC.walk tok mixed cfg0 Try.func27 rfl Try.call27 (by simp [belN, bel_Ns, bel_slN]) (by first | rfl | simp [belN, bel_Ns, bel_slN]) ?_; simp (maxSteps := 2000000) -implicitDefEqProofs +contextual (disch := first | assumption | omega | decide +kernel) only [push_cast, ↓capI, br2_true, br2_false, frk_tt, frk_tf, frk_f, frkD_tt, frkD_tf, frkD_f, pk2_true, pk2_false, imp_true, seval, Nat.reduceLeDiff, Nat.reduceEqDiff, reduceCtorEq, ↓reduceIte, fmN, fm0, take_N, toN1, slN_nil, encN, slN, cfg0, get_flat_part lenN, get_flat_drop lenN, len_flat lenN, Try.ntmps27]
  have hs := scan_chk sw l.length l 0 (Nat.zero_le _)
  rw [List.drop_zero] at hs
  refine callO.pc (pc41 sw l.length l 0 (Nat.zero_le _) (Nat.sub_le _ _) hl) ?_
  have hle := scan_le sw l.length l 0 (Nat.zero_le _)
  rw [checkP, if_neg h, ← hs.1]
  by_cases he : (scan sw l.length l 0).2 = 0
  · rw [encIE_ok he]
    have h2 := hs.2 he
    by_cases hn : (scan sw l.length l 0).1 < l.length
    · rw [if_pos ⟨he, fun e => by rw [e] at h2; have := List.drop_eq_nil_iff.1 h2; omega⟩]
      simp (maxSteps := 2000000) -implicitDefEqProofs +contextual (disch := first | assumption | omega | decide +kernel) only [push_cast, ↓capI, br2_true, br2_false, frk_tt, frk_tf, frk_f, frkD_tt, frkD_tf, frkD_f, pk2_true, pk2_false, imp_true, seval, Nat.reduceLeDiff, Nat.reduceEqDiff, reduceCtorEq, ↓reduceIte, fmN, fm0, take_N, toN1, slN_nil, encN, slN, cfg0, get_flat_part lenN, get_flat_drop lenN, len_flat lenN, hn]
      refine endK.ret ?_ (by first | rfl | simp [belN, bel_Ns, bel_slN]); simp [evRes, getT, retV, Try.f27]
    · rw [if_neg (fun g => g.2 (by rw [← h2]; exact List.drop_eq_nil_iff.2 (by omega))), he]
      simp (maxSteps := 2000000) -implicitDefEqProofs +contextual (disch := first | assumption | omega | decide +kernel) only [push_cast, ↓capI, br2_true, br2_false, frk_tt, frk_tf, frk_f, frkD_tt, frkD_tf, frkD_f, pk2_true, pk2_false, imp_true, seval, Nat.reduceLeDiff, Nat.reduceEqDiff, reduceCtorEq, ↓reduceIte, fmN, fm0, take_N, toN1, slN_nil, encN, slN, cfg0, get_flat_part lenN, get_flat_drop lenN, len_flat lenN, hn]
      refine endK.ret ?_ (by first | rfl | simp [belN, bel_Ns, bel_slN]); simp [evRes, getT, retV, Try.f27]
  · rw [if_neg (fun g => he g.1), encIE]
    simp (maxSteps := 2000000) -implicitDefEqProofs +contextual (disch := first | assumption | omega | decide +kernel) only [push_cast, ↓capI, br2_true, br2_false, frk_tt, frk_tf, frk_f, frkD_tt, frkD_tf, frkD_f, pk2_true, pk2_false, imp_true, seval, Nat.reduceLeDiff, Nat.reduceEqDiff, reduceCtorEq, ↓reduceIte, fmN, fm0, take_N, toN1, slN_nil, encN, slN, cfg0, get_flat_part lenN, get_flat_drop lenN, len_flat lenN, he]
    refine endK.ret ?_ (by first | rfl | simp [belN, bel_Ns, bel_slN]); simp [evRes, getT, retV, Try.f27]
end Go.Proofs.Ytkjffppioddnpaa

/- Chapter 41: where the subexpressions of a tree end in its list. -/
set_option maxRecDepth 100000
set_option maxHeartbeats 4000000
set_option linter.all false
namespace Go.Proofs.Ytkjffppioddnpaa
open Go.Vm
theorem drop_cons {α : Type} {l r : List α} {a : Nat} {x : α} (h : l.drop a = x :: r) : ∃ ha : a < l.length, l[a] = x ∧ l.drop (a + 1) = r := by
  have ha : a < l.length := by
    have := congrArg List.length h
    rw [List.length_drop, List.length_cons] at this
    omega
  rw [List.drop_eq_getElem_cons ha] at h
  injection h with h1 h2
  exact ⟨ha, h1, h2⟩
theorem drop_app {α : Type} {l p r : List α} {a : Nat} (h : l.drop a = p ++ r) : l.drop (a + p.length) = r := by
  rw [← List.drop_drop, h, List.drop_left]
theorem drop_len {α : Type} {l p r : List α} {a : Nat} (ha : a ≤ l.length) (h : l.drop a = p ++ r) : a + p.length + r.length = l.length := by
  have := congrArg List.length h
  rw [List.length_drop, List.length_append] at this
  omega
theorem checkP_tree {sw : Int} {l : List Nd} (h : checkP sw l = 0) : l.length ≤ 24 ∧ ∃ p, okP sw p ∧ l = flat p := by
  unfold checkP at h
  split at h
  · omega
  split at h
  · omega
  rename_i h1 h2
  refine ⟨by omega, ?_⟩
  obtain ⟨p, hp, hl⟩ := chk_tree sw l.length l h
  refine ⟨p, hp, ?_⟩
  have : (chk sw l.length l).1 = [] := Decidable.not_not.1 (fun g => h2 ⟨h, g⟩)
  rw [this, List.append_nil] at hl
  exact hl
end Go.Proofs.Ytkjffppioddnpaa

/- Chapter 42: Accepts of both, Minimize and Build of the program. -/
set_option maxRecDepth 100000
set_option maxHeartbeats 4000000
set_option linter.all false
namespace Go.Proofs.Ytkjffppioddnpaa
open Go.Vm
def zTb : V := .agg [.sl true [] 0, .sl true [] 0]
theorem bel_zTb {n : Nat} : zTb.bel n = true := rfl
theorem run0 {t : Tb} {q : Int} : runA t q [] = q := rfl
theorem run_step {t : Tb} {l : List Int} {i : Nat} (h : i < l.length) : runA t 0 (l.take (i + 1)) = suc t (runA t 0 (l.take i)) l[i] := by
  rw [List.take_succ_eq_append_getElem h, runA, List.foldl_append]; rfl
theorem pc12 (t : Tb) {l : List Int} (hl : l.length ≤ 4000000) : PC Try.prog 12 [.agg (encT t), slI l] (.bool (accA t l)) := by
  have h20 := pc20 t
  rw [accA]
  by_cases hc : chkT t = 0
  · obtain ⟨ht, h64⟩ := okT_of hc
    have hrun := fun i => run_rng ht (l.take i) 0 ⟨by omega, by have := ht.pos; omega⟩
    have hsuc := fun i (h : i < l.length) => pcSuc 30 (.inl rfl) (t := t) (q := runA t 0 (l.take i)) (s := l[i]) (by have := (hrun i).2; omega)
    have hn2 := ht.accs
    have hst := fun i (h : i < l.length) => run_step (t := t) h
    rw [decide_eq_true hc, Bool.true_and]
    obtain ⟨next, acc⟩ := t
    simp only at hn2 hrun
    refine PC.walk tok mixed cfg0 Try.func12 rfl Try.call12 (by simp [bel_ints, bel_bools, bel_rows, bel_slI, bel_slR, bel_slB, bel_encT, belN, bel_Ns, bel_slN, bel_zTb]) (by first | rfl | simp [bel_ints, bel_bools, bel_rows, bel_slI, bel_slR, bel_slB, bel_encT, belN, bel_Ns, bel_slN, bel_zTb]) ?_; simp (maxSteps := 2000000) -implicitDefEqProofs +contextual (disch := first | assumption | omega | decide +kernel) only [push_cast, ↓capI, br2_true, br2_false, frk_tt, frk_tf, frk_f, frkD_tt, frkD_tf, frkD_f, pk2_true, pk2_false, imp_true, seval, Nat.reduceLeDiff, Nat.reduceEqDiff, reduceCtorEq, ↓reduceIte, cfg0, ones_ints, ones_bools, getV_map, getV_mapO, List.length_map, Nat.mul_one, slI, slR, slB, encT, zTb, Try.ntmps12]
    refine callO.pc h20 ?_
    simp (maxSteps := 2000000) -implicitDefEqProofs +contextual (disch := first | assumption | omega | decide +kernel) only [push_cast, ↓capI, br2_true, br2_false, frk_tt, frk_tf, frk_f, frkD_tt, frkD_tf, frkD_f, pk2_true, pk2_false, imp_true, seval, Nat.reduceLeDiff, Nat.reduceEqDiff, reduceCtorEq, ↓reduceIte, cfg0, ones_ints, ones_bools, getV_map, getV_mapO, List.length_map, Nat.mul_one, slI, slR, slB, encT, zTb, hc]
    refine T.lp tok mixed cfg0 (fun ((i : Nat)) => dd 2 (kp 1 (dd 2 (sv (.int .i64 (runA ⟨next, acc⟩ 0 (l.take i))) (dd 5 (kp 2 (sv (.int .i64 (i : Int)) (dd 17 (nl))))))))) (fun H0 ((i : Nat)) => H0) (fun ((i : Nat)) => i ≤ l.length) (fun ((i : Nat)) => l.length - i) (0) ?_ ?_ ?_
    · omega
    · exact Gn.canon (J := _) (by first | rfl | (simp [List.append_nil, encT, slR, slB, slI]; done) | (simp [List.append_nil, encT, slR, slB, slI]; rfl)) (by simp [wk, run0, putT, kp, dd, sv, nl]) (by simp [List.length_append]) (by simp [bel_ints, bel_bools, bel_rows, bel_slI, bel_slR, bel_slB, bel_encT, belN, bel_Ns, bel_slN, bel_zTb, kp, dd, sv, nl]) (by simp [bel_ints, bel_bools, bel_rows, bel_slI, bel_slR, bel_slB, bel_encT, belN, bel_Ns, bel_slN, bel_zTb])
    · intro i hi
      have hi0 : i ≤ l.length := hi
      by_cases hlt : i < l.length
      · have hsi := hsuc i hlt
        rw [← hst i hlt] at hsi
        simp (maxSteps := 2000000) -implicitDefEqProofs +contextual (disch := first | assumption | omega | decide +kernel) only [push_cast, ↓capI, br2_true, br2_false, frk_tt, frk_tf, frk_f, frkD_tt, frkD_tf, frkD_f, pk2_true, pk2_false, imp_true, seval, Nat.reduceLeDiff, Nat.reduceEqDiff, reduceCtorEq, ↓reduceIte, cfg0, ones_ints, ones_bools, getV_map, getV_mapO, List.length_map, Nat.mul_one, slI, slR, slB, encT, zTb, hlt]
        refine callO.pc hsi ?_
        simp (maxSteps := 2000000) -implicitDefEqProofs +contextual (disch := first | assumption | omega | decide +kernel) only [push_cast, ↓capI, br2_true, br2_false, frk_tt, frk_tf, frk_f, frkD_tt, frkD_tf, frkD_f, pk2_true, pk2_false, imp_true, seval, Nat.reduceLeDiff, Nat.reduceEqDiff, reduceCtorEq, ↓reduceIte, cfg0, ones_ints, ones_bools, getV_map, getV_mapO, List.length_map, Nat.mul_one, slI, slR, slB, encT, zTb]
        refine ⟨(i + 1), by omega, by (try simp only); omega, ?_⟩; exact Gn.canon (by first | rfl | (simp [List.append_nil, encT, slR, slB, slI]; rfl)) (by simp [wk, run0]) (by simp [List.length_append]) (by simp [bel_ints, bel_bools, bel_rows, bel_slI, bel_slR, bel_slB, bel_encT, belN, bel_Ns, bel_slN, bel_zTb]) (by simp [bel_ints, bel_bools, bel_rows, bel_slI, bel_slR, bel_slB, bel_encT, belN, bel_Ns, bel_slN, bel_zTb])
      · have hin : i = l.length := by omega
        subst hin
        have htk : l.take l.length = l := List.take_length
        have hr := hrun l.length
        rw [htk] at hr
        rw [accq]
        by_cases hq : 0 ≤ runA ⟨next, acc⟩ 0 l
        · obtain ⟨k, hk⟩ : ∃ k : Nat, runA ⟨next, acc⟩ 0 l = (k : Int) := ⟨(runA ⟨next, acc⟩ 0 l).toNat, by omega⟩
          rw [hk] at hr ⊢
          have hka : k < acc.length := by omega
          have hg : gB acc (k : Int) = acc[k] := by rw [gB, Int.toNat_natCast]; exact lgetD hka
          rw [hg, decide_eq_true (by omega)]
          simp (maxSteps := 2000000) -implicitDefEqProofs +contextual (disch := first | assumption | omega | decide +kernel) only [push_cast, ↓capI, br2_true, br2_false, frk_tt, frk_tf, frk_f, frkD_tt, frkD_tf, frkD_f, pk2_true, pk2_false, imp_true, seval, Nat.reduceLeDiff, Nat.reduceEqDiff, reduceCtorEq, ↓reduceIte, cfg0, ones_ints, ones_bools, getV_map, getV_mapO, List.length_map, Nat.mul_one, slI, slR, slB, encT, zTb, hlt, htk, hk, hka]
          refine endK.ret ?_ (by first | rfl | simp [bel_ints, bel_bools, bel_rows, bel_slI, bel_slR, bel_slB, bel_encT, belN, bel_Ns, bel_slN, bel_zTb]); simp [evRes, getT, retV, Try.f12]
        · rw [decide_eq_false hq]
          simp (maxSteps := 2000000) -implicitDefEqProofs +contextual (disch := first | assumption | omega | decide +kernel) only [push_cast, ↓capI, br2_true, br2_false, frk_tt, frk_tf, frk_f, frkD_tt, frkD_tf, frkD_f, pk2_true, pk2_false, imp_true, seval, Nat.reduceLeDiff, Nat.reduceEqDiff, reduceCtorEq, ↓reduceIte, cfg0, ones_ints, ones_bools, getV_map, getV_mapO, List.length_map, Nat.mul_one, slI, slR, slB, encT, zTb, hlt, htk, hq]
          refine endK.ret ?_ (by first | rfl | simp [bel_ints, bel_bools, bel_rows, bel_slI, bel_slR, bel_slB, bel_encT, belN, bel_Ns, bel_slN, bel_zTb]); simp [evRes, getT, retV, Try.f12]
  · rw [decide_eq_false hc, Bool.false_and]
    refine PC.walk tok mixed cfg0 Try.func12 rfl Try.call12 (by simp [bel_ints, bel_bools, bel_rows, bel_slI, bel_slR, bel_slB, bel_encT, belN, bel_Ns, bel_slN, bel_zTb]) (by first | rfl | simp [bel_ints, bel_bools, bel_rows, bel_slI, bel_slR, bel_slB, bel_encT, belN, bel_Ns, bel_slN, bel_zTb]) ?_; simp (maxSteps := 2000000) -implicitDefEqProofs +contextual (disch := first | assumption | omega | decide +kernel) only [push_cast, ↓capI, br2_true, br2_false, frk_tt, frk_tf, frk_f, frkD_tt, frkD_tf, frkD_f, pk2_true, pk2_false, imp_true, seval, Nat.reduceLeDiff, Nat.reduceEqDiff, reduceCtorEq, ↓reduceIte, cfg0, ones_ints, ones_bools, getV_map, getV_mapO, List.length_map, Nat.mul_one, slI, slR, slB, encT, zTb, Try.ntmps12]
    refine callO.pc h20 ?_
    simp (maxSteps := 2000000) -implicitDefEqProofs +contextual (disch := first | assumption | omega | decide +kernel) only [push_cast, ↓capI, br2_true, br2_false, frk_tt, frk_tf, frk_f, frkD_tt, frkD_tf, frkD_f, pk2_true, pk2_false, imp_true, seval, Nat.reduceLeDiff, Nat.reduceEqDiff, reduceCtorEq, ↓reduceIte, cfg0, ones_ints, ones_bools, getV_map, getV_mapO, List.length_map, Nat.mul_one, slI, slR, slB, encT, zTb, hc]
    refine endK.ret ?_ (by first | rfl | simp [bel_ints, bel_bools, bel_rows, bel_slI, bel_slR, bel_slB, bel_encT, belN, bel_Ns, bel_slN, bel_zTb]); simp [evRes, getT, retV, Try.f12]
end Go.Proofs.Ytkjffppioddnpaa

/- Chapter 42: an expression has few partial derivatives (plain). -/
set_option maxRecDepth 100000
set_option maxHeartbeats 4000000
set_option linter.all false
namespace Go.Proofs.Ytkjffppioddnpaa
open Go.Vm
def siz : Nx → Nat
  | .star a => siz a + 1
  | .cat a b => siz a + siz b + 1
  | .alt a b => siz a + siz b + 1
  | _ => 1
def lvs : Nx → Nat
  | .eps => 0
  | .any => 1
  | .one _ => 1
  | .star a => lvs a
  | .cat a b => lvs a + lvs b
  | .alt a b => lvs a + lvs b
def pdl : Nx → List Nx
  | .eps => []
  | .any => [.eps]
  | .one _ => [.eps]
  | .star a => (pdl a).map fun d => seqA d (.star a)
  | .cat a b => (pdl a).map (fun d => seqA d b) ++ pdl b
  | .alt a b => pdl a ++ pdl b
theorem lvs_siz : ∀ x, lvs x ≤ siz x
  | .eps => by simp [lvs]
  | .any => Nat.le_refl _
  | .one _ => Nat.le_refl _
  | .star a => by have := lvs_siz a; simp only [lvs, siz]; omega
  | .cat a b => by have := lvs_siz a; have := lvs_siz b; simp only [lvs, siz]; omega
  | .alt a b => by have := lvs_siz a; have := lvs_siz b; simp only [lvs, siz]; omega
theorem pdl_len : ∀ x, (pdl x).length = lvs x
  | .eps => rfl
  | .any => rfl
  | .one _ => rfl
  | .star a => by rw [pdl, List.length_map, pdl_len a]; rfl
  | .cat a b => by rw [pdl, List.length_append, List.length_map, pdl_len a, pdl_len b]; rfl
  | .alt a b => by rw [pdl, List.length_append, pdl_len a, pdl_len b]; rfl
theorem drv_pdl (sw : Int) : ∀ x, ∀ d ∈ drv sw x, d ∈ pdl x
  | .eps, d, h => by simp [drv] at h
  | .any, d, h => h
  | .one n, d, h => by
    rw [drv] at h
    split at h
    · exact h
    · simp at h
  | .star a, d, h => by
    rw [drv] at h
    obtain ⟨e, he, rfl⟩ := List.mem_map.1 h
    exact List.mem_map.2 ⟨e, drv_pdl sw a e he, rfl⟩
  | .cat a b, d, h => by
    rw [drv] at h
    rcases List.mem_append.1 h with h | h
    · obtain ⟨e, he, rfl⟩ := List.mem_map.1 h
      exact List.mem_append.2 (.inl (List.mem_map.2 ⟨e, drv_pdl sw a e he, rfl⟩))
    · split at h
      · exact List.mem_append.2 (.inr (drv_pdl sw b d h))
      · simp at h
  | .alt a b, d, h => by
    rw [drv] at h
    rcases List.mem_append.1 h with h | h
    · exact List.mem_append.2 (.inl (drv_pdl sw a d h))
    · exact List.mem_append.2 (.inr (drv_pdl sw b d h))
theorem drv_seq {sw : Int} {d b x : Nx} (h : x ∈ drv sw (seqA d b)) : (∃ e ∈ drv sw d, x = seqA e b) ∨ x ∈ drv sw b := by
  unfold seqA at h
  split at h
  · exact .inr h
  · rw [drv] at h
    rcases List.mem_append.1 h with h | h
    · obtain ⟨e, he, rfl⟩ := List.mem_map.1 h
      exact .inl ⟨e, he, rfl⟩
    · split at h
      · exact .inr h
      · simp at h
theorem pdl_clos (sw : Int) : ∀ x, ∀ y ∈ pdl x, ∀ d ∈ drv sw y, d ∈ pdl x
  | .eps, y, h, _, _ => by simp [pdl] at h
  | .any, y, h, d, hd => by
    simp [pdl] at h
    subst h
    simp [drv] at hd
  | .one _, y, h, d, hd => by
    simp [pdl] at h
    subst h
    simp [drv] at hd
  | .star a, y, h, d, hd => by
    rw [pdl] at h
    obtain ⟨e, he, rfl⟩ := List.mem_map.1 h
    rcases drv_seq hd with ⟨f, hf, rfl⟩ | hd
    · exact List.mem_map.2 ⟨f, pdl_clos sw a e he f hf, rfl⟩
    · exact drv_pdl sw (.star a) d hd
  | .cat a b, y, h, d, hd => by
    rw [pdl] at h
    rcases List.mem_append.1 h with h | h
    · obtain ⟨e, he, rfl⟩ := List.mem_map.1 h
      rcases drv_seq hd with ⟨f, hf, rfl⟩ | hd
      · exact List.mem_append.2 (.inl (List.mem_map.2 ⟨f, pdl_clos sw a e he f hf, rfl⟩))
      · exact List.mem_append.2 (.inr (drv_pdl sw b d hd))
    · exact List.mem_append.2 (.inr (pdl_clos sw b y h d hd))
  | .alt a b, y, h, d, hd => by
    rw [pdl] at h
    rcases List.mem_append.1 h with h | h
    · exact List.mem_append.2 (.inl (pdl_clos sw a y h d hd))
    · exact List.mem_append.2 (.inr (pdl_clos sw b y h d hd))
theorem hgt_siz : ∀ x, hgt x ≤ siz x
  | .eps => Nat.zero_le _
  | .any => Nat.zero_le _
  | .one _ => Nat.zero_le _
  | .star a => by have := hgt_siz a; simp only [hgt, siz]; omega
  | .cat a b => by have := hgt_siz a; have := hgt_siz b; simp only [hgt, siz]; omega
  | .alt a b => by have := hgt_siz a; have := hgt_siz b; simp only [hgt, siz]; omega
theorem hgt_seq (d b : Nx) : hgt (seqA d b) ≤ max (hgt d) (hgt b) + 1 := by
  unfold seqA
  split
  · omega
  · simp only [hgt]; omega
theorem lvs_seq (d b : Nx) : lvs (seqA d b) ≤ lvs d + lvs b := by
  unfold seqA
  split
  · omega
  · simp only [lvs]; omega
theorem pdl_hgt : ∀ x, ∀ y ∈ pdl x, hgt y ≤ 2 * siz x
  | .eps, y, h => by simp [pdl] at h
  | .any, y, h => by simp [pdl] at h; subst h; exact Nat.zero_le _
  | .one _, y, h => by simp [pdl] at h; subst h; exact Nat.zero_le _
  | .star a, y, h => by
    rw [pdl] at h
    obtain ⟨e, he, rfl⟩ := List.mem_map.1 h
    have h1 := pdl_hgt a e he
    have h2 := hgt_seq e (.star a)
    have h3 := hgt_siz a
    simp only [hgt] at h2
    simp only [siz]; omega
  | .cat a b, y, h => by
    rw [pdl] at h
    rcases List.mem_append.1 h with h | h
    · obtain ⟨e, he, rfl⟩ := List.mem_map.1 h
      have h1 := pdl_hgt a e he
      have h2 := hgt_seq e b
      have h3 := hgt_siz b
      simp only [siz]; omega
    · have := pdl_hgt b y h
      simp only [siz]; omega
  | .alt a b, y, h => by
    rw [pdl] at h
    rcases List.mem_append.1 h with h | h
    · have := pdl_hgt a y h
      simp only [siz]; omega
    · have := pdl_hgt b y h
      simp only [siz]; omega
theorem sq_le {a b s : Nat} (ha : a ≤ b * b) (h : b + 1 ≤ s) {c : Nat} (hc : c + b ≤ s) : a + c ≤ s * s := by
  obtain ⟨d, rfl⟩ : ∃ d, s = b + 1 + d := ⟨s - (b + 1), by omega⟩
  have e : (b + 1 + d) * (b + 1 + d) = b * b + 2 * (b * (1 + d)) + (1 + d) * (1 + d) := by
    have := Nat.mul_comm d b
    simp only [Nat.add_mul, Nat.mul_add, Nat.one_mul, Nat.mul_one]; omega
  have h1 : 1 + d ≤ (1 + d) * (1 + d) := Nat.le_mul_self _
  omega
theorem pdl_lvs : ∀ x, ∀ y ∈ pdl x, lvs y ≤ siz x * siz x
  | .eps, y, h => by simp [pdl] at h
  | .any, y, h => by simp [pdl] at h; subst h; exact Nat.zero_le _
  | .one _, y, h => by simp [pdl] at h; subst h; exact Nat.zero_le _
  | .star a, y, h => by
    rw [pdl] at h
    obtain ⟨e, he, rfl⟩ := List.mem_map.1 h
    have h1 := pdl_lvs a e he
    have h2 := lvs_seq e (.star a)
    have h3 := lvs_siz a
    simp only [lvs] at h2
    have e2 : (siz a + 1) * (siz a + 1) = siz a * siz a + 2 * siz a + 1 := by
      simp only [Nat.add_mul, Nat.mul_add, Nat.one_mul, Nat.mul_one]; omega
    simp only [siz]; omega
  | .cat a b, y, h => by
    rw [pdl] at h
    rcases List.mem_append.1 h with h | h
    · obtain ⟨e, he, rfl⟩ := List.mem_map.1 h
      have h1 := pdl_lvs a e he
      have h2 := lvs_seq e b
      have h3 := lvs_siz b
      have h4 := sq_le h1 (s := siz a + siz b + 1) (by omega) (c := siz b) (by omega)
      simp only [siz]; omega
    · have h1 := pdl_lvs b y h
      have h4 := sq_le h1 (s := siz a + siz b + 1) (by omega) (c := 0) (by omega)
      simp only [siz]; omega
  | .alt a b, y, h => by
    rw [pdl] at h
    rcases List.mem_append.1 h with h | h
    · have h1 := pdl_lvs a y h
      have h4 := sq_le h1 (s := siz a + siz b + 1) (by omega) (c := 0) (by omega)
      simp only [siz]; omega
    · have h1 := pdl_lvs b y h
      have h4 := sq_le h1 (s := siz a + siz b + 1) (by omega) (c := 0) (by omega)
      simp only [siz]; omega
theorem drv_len (sw : Int) : ∀ x, (drv sw x).length ≤ lvs x
  | .eps => Nat.le_refl _
  | .any => Nat.le_refl _
  | .one n => by rw [drv]; split <;> simp [lvs]
  | .star a => by rw [drv, List.length_map]; exact drv_len sw a
  | .cat a b => by
    have h1 := drv_len sw a
    have h2 := drv_len sw b
    rw [drv, List.length_append, List.length_map]
    simp only [lvs]
    split
    · omega
    · simp; omega
  | .alt a b => by
    have h1 := drv_len sw a
    have h2 := drv_len sw b
    rw [drv, List.length_append]
    simp only [lvs]; omega
theorem cls_of {x : Nx} (h : siz x ≤ 24) : Cls (x :: pdl x) := by
  have hq : siz x * siz x ≤ 24 * 24 := Nat.mul_le_mul h h
  refine ⟨fun y hy => ?_, fun y hy sw d hd => ?_, fun y hy sw => ?_, ?_⟩
  · rcases List.mem_cons.1 hy with rfl | hy
    · have := hgt_siz y; omega
    · have := pdl_hgt x y hy; omega
  · rcases List.mem_cons.1 hy with rfl | hy
    · exact List.mem_cons_of_mem _ (drv_pdl sw y d hd)
    · exact List.mem_cons_of_mem _ (pdl_clos sw x y hy d hd)
  · have h1 := drv_len sw y
    rcases List.mem_cons.1 hy with rfl | hy
    · have := lvs_siz y; omega
    · have := pdl_lvs x y hy; omega
  · have := pdl_len x
    have := lvs_siz x
    rw [List.length_cons]; omega
end Go.Proofs.Ytkjffppioddnpaa

/- Chapter 42: Build of the program. -/
set_option maxRecDepth 100000
set_option maxHeartbeats 4000000
set_option linter.all false
namespace Go.Proofs.Ytkjffppioddnpaa
open Go.Vm
theorem siz_nx (sw : Int) : ∀ p, okP sw p → siz (nxP p) ≤ (flat p).length
  | .leaf x, _ => by
    simp only [nxP, flat, List.length_singleton]
    split
    · exact Nat.le_refl _
    · split <;> exact Nat.le_refl _
  | .un x p, h => by
    have := siz_nx sw p h.2
    simp only [nxP, flat, siz, List.length_cons]; omega
  | .bin x p q, h => by
    have h1 := siz_nx sw p h.2.1
    have h2 := siz_nx sw q h.2.2
    simp only [nxP, flat, List.length_cons, List.length_append]
    split <;> simp only [siz] <;> omega
def detT (x : Nx) (m : Nat) : Tb := ⟨(detN m x bigN).rows, (detN m x bigN).accs⟩
theorem row_rng {D : List Nx} (hD : Cls D) {set : W64} {L : List Nx} {sets : List W64} (h : Rok D ⟨L, sets, []⟩) : ∀ n, ∀ x ∈ (rowN set L sets n).row, -1 ≤ x ∧ x < ((rowN set L sets n).sets.length : Int)
  | 0, x, hx => by simp [rowN] at hx
  | n + 1, x, hx => by
    have ih := row_rng hD (set := set) h n
    have hst := rowN_sets set L sets n
    rw [rowN, rowI] at hx ⊢
    split at hx
    · rename_i h0
      rw [if_pos h0]
      rcases List.mem_append.1 hx with hx | hx
      · exact ih x hx
      · rw [List.mem_singleton] at hx; subst hx; simp only; omega
    · rename_i h0
      rw [if_neg h0]
      split at hx
      · rename_i k hk
        simp only [hk] at hx ⊢
        rcases List.mem_append.1 hx with hx | hx
        · exact ih x hx
        · rw [List.mem_singleton] at hx
          subst hx
          have aux : ∀ (l : List W64) (y : W64) (k : Nat), idxW y l = some k → k < l.length := by
            intro l
            induction l with
            | nil => intro y k h; simp [idxW] at h
            | cons z r ih =>
              intro y k h
              simp only [idxW] at h
              split at h
              · simp at h; subst h; simp
              · rw [Option.map_eq_some_iff] at h
                obtain ⟨j, hj, rfl⟩ := h
                have := ih y j hj
                simp; omega
          have := aux _ _ _ hk
          omega
      · rename_i hk
        simp only [hk] at hx ⊢
        simp only [List.length_append, List.length_singleton]
        rcases List.mem_append.1 hx with hx | hx
        · have := ih x hx; omega
        · rw [List.mem_singleton] at hx; subst hx; omega
structure Dinv (m i : Nat) (s : Ds2) : Prop where
  rows : s.rows.length = min i s.sets.length
  accs : s.accs.length = min i s.sets.length
  row : ∀ r ∈ s.rows, r.length = m ∧ ∀ x ∈ r, -1 ≤ x ∧ x < (s.sets.length : Int)
  pos : 0 < s.sets.length
theorem detN_inv {D : List Nx} (hD : Cls D) {x : Nx} (hx : x ∈ D) {m : Nat} : ∀ i, Dinv m i (detN m x i)
  | 0 => ⟨by simp [detN], by simp [detN], fun r hr => by simp [detN] at hr, by simp [detN]⟩
  | i + 1 => by
    have ih := detN_inv hD hx (m := m) i
    have hok := detN_ok hD hx (m := m) i
    rw [detN, detI]
    split
    · rename_i set hs
      have hlt := (List.getElem?_eq_some_iff.1 hs).1
      obtain ⟨r, hr⟩ := rowN_sets set (detN m x i).L (detN m x i).sets m
      have hle : (detN m x i).sets.length ≤ (rowN set (detN m x i).L (detN m x i).sets m).sets.length := by rw [hr, List.length_append]; omega
      have h1 := ih.rows
      have h2 := ih.accs
      refine ⟨?_, ?_, fun q hq => ?_, by simp only; omega⟩
      · simp only [List.length_append, List.length_singleton]; omega
      · simp only [List.length_append, List.length_singleton]; omega
      · simp only at hq ⊢
        rcases List.mem_append.1 hq with hq | hq
        · have h3 := ih.row q hq
          exact ⟨h3.1, fun y hy => ⟨(h3.2 y hy).1, by have := (h3.2 y hy).2; omega⟩⟩
        · rw [List.mem_singleton] at hq
          subst hq
          exact ⟨rowN_len _ _ _ _, row_rng hD hok m⟩
    · rename_i hs
      have hge := List.getElem?_eq_none_iff.1 hs
      have h1 := ih.rows
      have h2 := ih.accs
      exact ⟨by omega, by omega, ih.row, ih.pos⟩
theorem detT_okN {D : List Nx} (hD : Cls D) {x : Nx} (hx : x ∈ D) {m N : Nat} (hN : 2 ^ 30 ≤ N) (hm : m ≤ 16) (hm1 : 0 < m) : okT (detN m x N).sets.length m ⟨(detN m x N).rows, (detN m x N).accs⟩ ∧ (detN m x N).sets.length ≤ N := by
  have hi := detN_inv hD hx (m := m) N
  have hl := (detN_ok hD hx (m := m) N).len hD
  simp only at hl
  have h1 := hi.rows
  have h2 := hi.accs
  exact ⟨⟨by simp only; omega, by simp only; omega, fun r hr => (hi.row r hr).1, fun r hr => (hi.row r hr).2, hi.pos, by omega, hm, hm1⟩, by omega⟩
theorem detT_ok {D : List Nx} (hD : Cls D) {x : Nx} (hx : x ∈ D) {m : Nat} (hm : m ≤ 16) (hm1 : 0 < m) : okT (detN m x bigN).sets.length m (detT x m) ∧ (detN m x bigN).sets.length ≤ bigN :=
  detT_okN hD hx (Nat.le_refl _) hm hm1
def bldV (t : Tb) : V := if 64 < t.next.length then .tup [zTb, .int .i64 12] else .tup [.agg (encT t), .int .i64 0]
def BldR (f : Nat) (r : List Nd) (sw : Int) : Prop :=
  ((sw < 1 ∨ 16 < sw) ∧ PC Try.prog f [slN r, .int .i64 sw] (.tup [zTb, .int .i64 9])) ∨
  (¬ (sw < 1 ∨ 16 < sw) ∧ checkP sw r ≠ 0 ∧ PC Try.prog f [slN r, .int .i64 sw] (.tup [zTb, .int .i64 (checkP sw r)])) ∨
  (¬ (sw < 1 ∨ 16 < sw) ∧ checkP sw r = 0 ∧ ∃ p, okP sw p ∧ r = flat p ∧ r.length ≤ 24 ∧ PC Try.prog f [slN r, .int .i64 sw] (bldV (minS (detT (nxP p) sw.toNat))))
theorem bld9 {r : List Nd} {sw : Int} (hr : r.length ≤ 4000000) : BldR 9 r sw := by
  by_cases hs : sw < 1 ∨ 16 < sw
  · refine .inl ⟨hs, ?_⟩
    rcases hs with h | h
    · refine PC.walk tok mixed cfg0 Try.func9 rfl Try.call9 (by simp [bel_ints, bel_bools, bel_rows, bel_slI, bel_slR, bel_slB, bel_encT, belN, bel_Ns, bel_slN, bel_zTb, bel_clA, bel_encA]) (by first | rfl | simp [bel_ints, bel_bools, bel_rows, bel_slI, bel_slR, bel_slB, bel_encT, belN, bel_Ns, bel_slN, bel_zTb, bel_clA, bel_encA]) ?_; simp (maxSteps := 2000000) -implicitDefEqProofs +contextual (disch := first | assumption | omega | decide +kernel) only [push_cast, ↓capI, br2_true, br2_false, frk_tt, frk_tf, frk_f, frkD_tt, frkD_tf, frkD_f, pk2_true, pk2_false, imp_true, seval, Nat.reduceLeDiff, Nat.reduceEqDiff, reduceCtorEq, ↓reduceIte, cfg0, fmN, fm0, take_N, toN1, slN_nil, encN, slN, get_flat_part lenN, get_flat_drop lenN, len_flat lenN, getV_map, getV_mapO, List.length_map, Nat.mul_one, slI, slR, slB, encT, zTb, encA, Try.ntmps9]
      refine endK.ret ?_ (by first | rfl | simp [bel_ints, bel_bools, bel_rows, bel_slI, bel_slR, bel_slB, bel_encT, belN, bel_Ns, bel_slN, bel_zTb, bel_clA, bel_encA]); simp [evRes, getT, retV, Try.f9,  zTb, tt_27, Res.then, ldT, ldR, getO, mkV, getV, imp, lenOK_iff]
    · refine PC.walk tok mixed cfg0 Try.func9 rfl Try.call9 (by simp [bel_ints, bel_bools, bel_rows, bel_slI, bel_slR, bel_slB, bel_encT, belN, bel_Ns, bel_slN, bel_zTb, bel_clA, bel_encA]) (by first | rfl | simp [bel_ints, bel_bools, bel_rows, bel_slI, bel_slR, bel_slB, bel_encT, belN, bel_Ns, bel_slN, bel_zTb, bel_clA, bel_encA]) ?_; simp (maxSteps := 2000000) -implicitDefEqProofs +contextual (disch := first | assumption | omega | decide +kernel) only [push_cast, ↓capI, br2_true, br2_false, frk_tt, frk_tf, frk_f, frkD_tt, frkD_tf, frkD_f, pk2_true, pk2_false, imp_true, seval, Nat.reduceLeDiff, Nat.reduceEqDiff, reduceCtorEq, ↓reduceIte, cfg0, fmN, fm0, take_N, toN1, slN_nil, encN, slN, get_flat_part lenN, get_flat_drop lenN, len_flat lenN, getV_map, getV_mapO, List.length_map, Nat.mul_one, slI, slR, slB, encT, zTb, encA, Try.ntmps9]
      (try simp (maxSteps := 2000000) -implicitDefEqProofs +contextual (disch := first | assumption | omega | decide +kernel) only [push_cast, ↓capI, br2_true, br2_false, frk_tt, frk_tf, frk_f, frkD_tt, frkD_tf, frkD_f, pk2_true, pk2_false, imp_true, seval, Nat.reduceLeDiff, Nat.reduceEqDiff, reduceCtorEq, ↓reduceIte, cfg0, fmN, fm0, take_N, toN1, slN_nil, encN, slN, get_flat_part lenN, get_flat_drop lenN, len_flat lenN, getV_map, getV_mapO, List.length_map, Nat.mul_one, slI, slR, slB, encT, zTb, encA, h])
      refine endK.ret ?_ (by first | rfl | simp [bel_ints, bel_bools, bel_rows, bel_slI, bel_slR, bel_slB, bel_encT, belN, bel_Ns, bel_slN, bel_zTb, bel_clA, bel_encA]); simp [evRes, getT, retV, Try.f9,  zTb, tt_27, Res.then, ldT, ldR, getO, mkV, getV, imp, lenOK_iff]
  have hs1 : ¬ sw < 1 := fun h => hs (.inl h)
  have hs2 : ¬ 16 < sw := fun h => hs (.inr h)
  have h23 := pc23 sw r hr
  by_cases hc : checkP sw r = 0
  · rcases tree36 sw r hr with ⟨_, p, hp, hf, h24, _⟩ | ⟨h, _⟩
    case inr => exact absurd hc h
    refine .inr (.inr ⟨hs, hc, p, hp, hf, h24, ?_⟩)
    have hsz := siz_nx sw p hp
    rw [← hf] at hsz
    have hD := cls_of (x := nxP p) (by omega)
    have h24' := pc24 sw p [] hp (by rw [List.append_nil, ← hf]; exact hr)
    rw [List.append_nil, ← hf] at h24'
    obtain ⟨m, rfl⟩ : ∃ m : Nat, sw = (m : Int) := ⟨sw.toNat, by omega⟩
    have h25 := pc25 hD (x := nxP p) (by simp) (m := m) (by omega) (by omega)
    have hT := (detT_ok hD (x := nxP p) (by simp) (m := m) (by omega) (by omega)).1
    have h26 := pc26 hT
    rw [show (⟨(detN m (nxP p) bigN).rows, (detN m (nxP p) bigN).accs⟩ : Tb) = detT (nxP p) m from rfl] at h25
    rw [Int.toNat_natCast, bldV]
    clear hT
    generalize detT (nxP p) m = u at h25 h26 ⊢
    generalize minS u = w at h26 ⊢
    obtain ⟨n1, a1⟩ := u
    obtain ⟨n2, a2⟩ := w
    by_cases h64 : 64 < n2.length
    · rw [if_pos h64]
      refine PC.walk tok mixed cfg0 Try.func9 rfl Try.call9 (by simp [bel_ints, bel_bools, bel_rows, bel_slI, bel_slR, bel_slB, bel_encT, belN, bel_Ns, bel_slN, bel_zTb, bel_clA, bel_encA]) (by first | rfl | simp [bel_ints, bel_bools, bel_rows, bel_slI, bel_slR, bel_slB, bel_encT, belN, bel_Ns, bel_slN, bel_zTb, bel_clA, bel_encA]) ?_; simp (maxSteps := 2000000) -implicitDefEqProofs +contextual (disch := first | assumption | omega | decide +kernel) only [push_cast, ↓capI, br2_true, br2_false, frk_tt, frk_tf, frk_f, frkD_tt, frkD_tf, frkD_f, pk2_true, pk2_false, imp_true, seval, Nat.reduceLeDiff, Nat.reduceEqDiff, reduceCtorEq, ↓reduceIte, cfg0, fmN, fm0, take_N, toN1, slN_nil, encN, slN, get_flat_part lenN, get_flat_drop lenN, len_flat lenN, getV_map, getV_mapO, List.length_map, Nat.mul_one, slI, slR, slB, encT, zTb, encA, Try.ntmps9]
      (try simp (maxSteps := 2000000) -implicitDefEqProofs +contextual (disch := first | assumption | omega | decide +kernel) only [push_cast, ↓capI, br2_true, br2_false, frk_tt, frk_tf, frk_f, frkD_tt, frkD_tf, frkD_f, pk2_true, pk2_false, imp_true, seval, Nat.reduceLeDiff, Nat.reduceEqDiff, reduceCtorEq, ↓reduceIte, cfg0, fmN, fm0, take_N, toN1, slN_nil, encN, slN, get_flat_part lenN, get_flat_drop lenN, len_flat lenN, getV_map, getV_mapO, List.length_map, Nat.mul_one, slI, slR, slB, encT, zTb, encA, hs1, hs2])
      refine callO.pc h23 ?_
      simp (maxSteps := 2000000) -implicitDefEqProofs +contextual (disch := first | assumption | omega | decide +kernel) only [push_cast, ↓capI, br2_true, br2_false, frk_tt, frk_tf, frk_f, frkD_tt, frkD_tf, frkD_f, pk2_true, pk2_false, imp_true, seval, Nat.reduceLeDiff, Nat.reduceEqDiff, reduceCtorEq, ↓reduceIte, cfg0, fmN, fm0, take_N, toN1, slN_nil, encN, slN, get_flat_part lenN, get_flat_drop lenN, len_flat lenN, getV_map, getV_mapO, List.length_map, Nat.mul_one, slI, slR, slB, encT, zTb, encA, hc]
      refine callO.pc h24' ?_
      simp (maxSteps := 2000000) -implicitDefEqProofs +contextual (disch := first | assumption | omega | decide +kernel) only [push_cast, ↓capI, br2_true, br2_false, frk_tt, frk_tf, frk_f, frkD_tt, frkD_tf, frkD_f, pk2_true, pk2_false, imp_true, seval, Nat.reduceLeDiff, Nat.reduceEqDiff, reduceCtorEq, ↓reduceIte, cfg0, fmN, fm0, take_N, toN1, slN_nil, encN, slN, get_flat_part lenN, get_flat_drop lenN, len_flat lenN, getV_map, getV_mapO, List.length_map, Nat.mul_one, slI, slR, slB, encT, zTb, encA]
      refine callO.pc h25 ?_
      simp (maxSteps := 2000000) -implicitDefEqProofs +contextual (disch := first | assumption | omega | decide +kernel) only [push_cast, ↓capI, br2_true, br2_false, frk_tt, frk_tf, frk_f, frkD_tt, frkD_tf, frkD_f, pk2_true, pk2_false, imp_true, seval, Nat.reduceLeDiff, Nat.reduceEqDiff, reduceCtorEq, ↓reduceIte, cfg0, fmN, fm0, take_N, toN1, slN_nil, encN, slN, get_flat_part lenN, get_flat_drop lenN, len_flat lenN, getV_map, getV_mapO, List.length_map, Nat.mul_one, slI, slR, slB, encT, zTb, encA]
      refine callO.pc h26 ?_
      simp (maxSteps := 2000000) -implicitDefEqProofs +contextual (disch := first | assumption | omega | decide +kernel) only [push_cast, ↓capI, br2_true, br2_false, frk_tt, frk_tf, frk_f, frkD_tt, frkD_tf, frkD_f, pk2_true, pk2_false, imp_true, seval, Nat.reduceLeDiff, Nat.reduceEqDiff, reduceCtorEq, ↓reduceIte, cfg0, fmN, fm0, take_N, toN1, slN_nil, encN, slN, get_flat_part lenN, get_flat_drop lenN, len_flat lenN, getV_map, getV_mapO, List.length_map, Nat.mul_one, slI, slR, slB, encT, zTb, encA, h64]
      refine endK.ret ?_ (by first | rfl | simp [bel_ints, bel_bools, bel_rows, bel_slI, bel_slR, bel_slB, bel_encT, belN, bel_Ns, bel_slN, bel_zTb, bel_clA, bel_encA]); simp [evRes, getT, retV, Try.f9,  zTb, tt_27, Res.then, ldT, ldR, getO, mkV, getV, imp, lenOK_iff]
    · rw [if_neg h64]
      refine PC.walk tok mixed cfg0 Try.func9 rfl Try.call9 (by simp [bel_ints, bel_bools, bel_rows, bel_slI, bel_slR, bel_slB, bel_encT, belN, bel_Ns, bel_slN, bel_zTb, bel_clA, bel_encA]) (by first | rfl | simp [bel_ints, bel_bools, bel_rows, bel_slI, bel_slR, bel_slB, bel_encT, belN, bel_Ns, bel_slN, bel_zTb, bel_clA, bel_encA]) ?_; simp (maxSteps := 2000000) -implicitDefEqProofs +contextual (disch := first | assumption | omega | decide +kernel) only [push_cast, ↓capI, br2_true, br2_false, frk_tt, frk_tf, frk_f, frkD_tt, frkD_tf, frkD_f, pk2_true, pk2_false, imp_true, seval, Nat.reduceLeDiff, Nat.reduceEqDiff, reduceCtorEq, ↓reduceIte, cfg0, fmN, fm0, take_N, toN1, slN_nil, encN, slN, get_flat_part lenN, get_flat_drop lenN, len_flat lenN, getV_map, getV_mapO, List.length_map, Nat.mul_one, slI, slR, slB, encT, zTb, encA, Try.ntmps9]
      (try simp (maxSteps := 2000000) -implicitDefEqProofs +contextual (disch := first | assumption | omega | decide +kernel) only [push_cast, ↓capI, br2_true, br2_false, frk_tt, frk_tf, frk_f, frkD_tt, frkD_tf, frkD_f, pk2_true, pk2_false, imp_true, seval, Nat.reduceLeDiff, Nat.reduceEqDiff, reduceCtorEq, ↓reduceIte, cfg0, fmN, fm0, take_N, toN1, slN_nil, encN, slN, get_flat_part lenN, get_flat_drop lenN, len_flat lenN, getV_map, getV_mapO, List.length_map, Nat.mul_one, slI, slR, slB, encT, zTb, encA, hs1, hs2])
      refine callO.pc h23 ?_
      simp (maxSteps := 2000000) -implicitDefEqProofs +contextual (disch := first | assumption | omega | decide +kernel) only [push_cast, ↓capI, br2_true, br2_false, frk_tt, frk_tf, frk_f, frkD_tt, frkD_tf, frkD_f, pk2_true, pk2_false, imp_true, seval, Nat.reduceLeDiff, Nat.reduceEqDiff, reduceCtorEq, ↓reduceIte, cfg0, fmN, fm0, take_N, toN1, slN_nil, encN, slN, get_flat_part lenN, get_flat_drop lenN, len_flat lenN, getV_map, getV_mapO, List.length_map, Nat.mul_one, slI, slR, slB, encT, zTb, encA, hc]
      refine callO.pc h24' ?_
      simp (maxSteps := 2000000) -implicitDefEqProofs +contextual (disch := first | assumption | omega | decide +kernel) only [push_cast, ↓capI, br2_true, br2_false, frk_tt, frk_tf, frk_f, frkD_tt, frkD_tf, frkD_f, pk2_true, pk2_false, imp_true, seval, Nat.reduceLeDiff, Nat.reduceEqDiff, reduceCtorEq, ↓reduceIte, cfg0, fmN, fm0, take_N, toN1, slN_nil, encN, slN, get_flat_part lenN, get_flat_drop lenN, len_flat lenN, getV_map, getV_mapO, List.length_map, Nat.mul_one, slI, slR, slB, encT, zTb, encA]
      refine callO.pc h25 ?_
      simp (maxSteps := 2000000) -implicitDefEqProofs +contextual (disch := first | assumption | omega | decide +kernel) only [push_cast, ↓capI, br2_true, br2_false, frk_tt, frk_tf, frk_f, frkD_tt, frkD_tf, frkD_f, pk2_true, pk2_false, imp_true, seval, Nat.reduceLeDiff, Nat.reduceEqDiff, reduceCtorEq, ↓reduceIte, cfg0, fmN, fm0, take_N, toN1, slN_nil, encN, slN, get_flat_part lenN, get_flat_drop lenN, len_flat lenN, getV_map, getV_mapO, List.length_map, Nat.mul_one, slI, slR, slB, encT, zTb, encA]
      refine callO.pc h26 ?_
      simp (maxSteps := 2000000) -implicitDefEqProofs +contextual (disch := first | assumption | omega | decide +kernel) only [push_cast, ↓capI, br2_true, br2_false, frk_tt, frk_tf, frk_f, frkD_tt, frkD_tf, frkD_f, pk2_true, pk2_false, imp_true, seval, Nat.reduceLeDiff, Nat.reduceEqDiff, reduceCtorEq, ↓reduceIte, cfg0, fmN, fm0, take_N, toN1, slN_nil, encN, slN, get_flat_part lenN, get_flat_drop lenN, len_flat lenN, getV_map, getV_mapO, List.length_map, Nat.mul_one, slI, slR, slB, encT, zTb, encA, h64]
      refine endK.ret ?_ (by first | rfl | simp [bel_ints, bel_bools, bel_rows, bel_slI, bel_slR, bel_slB, bel_encT, belN, bel_Ns, bel_slN, bel_zTb, bel_clA, bel_encA]); simp [evRes, getT, retV, Try.f9,  zTb, tt_27, Res.then, ldT, ldR, getO, mkV, getV, imp, lenOK_iff, encT, slR, slB]
  · refine .inr (.inl ⟨hs, hc, ?_⟩)
    refine PC.walk tok mixed cfg0 Try.func9 rfl Try.call9 (by simp [bel_ints, bel_bools, bel_rows, bel_slI, bel_slR, bel_slB, bel_encT, belN, bel_Ns, bel_slN, bel_zTb, bel_clA, bel_encA]) (by first | rfl | simp [bel_ints, bel_bools, bel_rows, bel_slI, bel_slR, bel_slB, bel_encT, belN, bel_Ns, bel_slN, bel_zTb, bel_clA, bel_encA]) ?_; simp (maxSteps := 2000000) -implicitDefEqProofs +contextual (disch := first | assumption | omega | decide +kernel) only [push_cast, ↓capI, br2_true, br2_false, frk_tt, frk_tf, frk_f, frkD_tt, frkD_tf, frkD_f, pk2_true, pk2_false, imp_true, seval, Nat.reduceLeDiff, Nat.reduceEqDiff, reduceCtorEq, ↓reduceIte, cfg0, fmN, fm0, take_N, toN1, slN_nil, encN, slN, get_flat_part lenN, get_flat_drop lenN, len_flat lenN, getV_map, getV_mapO, List.length_map, Nat.mul_one, slI, slR, slB, encT, zTb, encA, Try.ntmps9]
    (try simp (maxSteps := 2000000) -implicitDefEqProofs +contextual (disch := first | assumption | omega | decide +kernel) only [push_cast, ↓capI, br2_true, br2_false, frk_tt, frk_tf, frk_f, frkD_tt, frkD_tf, frkD_f, pk2_true, pk2_false, imp_true, seval, Nat.reduceLeDiff, Nat.reduceEqDiff, reduceCtorEq, ↓reduceIte, cfg0, fmN, fm0, take_N, toN1, slN_nil, encN, slN, get_flat_part lenN, get_flat_drop lenN, len_flat lenN, getV_map, getV_mapO, List.length_map, Nat.mul_one, slI, slR, slB, encT, zTb, encA, hs1, hs2])
    refine callO.pc h23 ?_
    simp (maxSteps := 2000000) -implicitDefEqProofs +contextual (disch := first | assumption | omega | decide +kernel) only [push_cast, ↓capI, br2_true, br2_false, frk_tt, frk_tf, frk_f, frkD_tt, frkD_tf, frkD_f, pk2_true, pk2_false, imp_true, seval, Nat.reduceLeDiff, Nat.reduceEqDiff, reduceCtorEq, ↓reduceIte, cfg0, fmN, fm0, take_N, toN1, slN_nil, encN, slN, get_flat_part lenN, get_flat_drop lenN, len_flat lenN, getV_map, getV_mapO, List.length_map, Nat.mul_one, slI, slR, slB, encT, zTb, encA, hc]
    refine endK.ret ?_ (by first | rfl | simp [bel_ints, bel_bools, bel_rows, bel_slI, bel_slR, bel_slB, bel_encT, belN, bel_Ns, bel_slN, bel_zTb, bel_clA, bel_encA]); simp [evRes, getT, retV, Try.f9,  zTb, tt_27, Res.then, ldT, ldR, getO, mkV, getV, imp, lenOK_iff]
end Go.Proofs.Ytkjffppioddnpaa


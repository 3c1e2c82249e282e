/-
  Joined by a program from the texts Sp Sp2 Sp3 Wk Law Lift.
-/
import Derived.Test.YtllfdnbnkncnhaaGreatDoorMc
import Derived.Test.YtllfdnbnkncnhaaGreatDoorMa
import Derived.Test.YtllfdnbnkncnhaaGreatDoorMb
import Derived.Test.YtllfdnbnkncnhaaGreatDoorMd
import Derived.Test.YtllfdnbnkncnhaaGreatDoorRows
import Derived.Test.YtllfdnbnkncnhaaGreatDoorVm7
import Derived.Lib.LaidTab
import Derived.Lib.LaidU8
import Derived.LaidMore
import Derived.Stop.Joined
/- Chapter 44: the space of a predicate, by the program. -/
set_option maxRecDepth 100000
set_option maxHeartbeats 4000000
set_option linter.all false
namespace Go.Proofs.YtllfdnbnkncnhaaGreatDoor
open Go.Vm

def enM (M : List (Nat × List Cu)) : List (V × V) := M.map fun p => (.int .i64 p.1, slC p.2)
def getM (a : Nat) : List (Nat × List Cu) → Option (List Cu)
  | [] => none
  | p :: r => if a = p.1 then some p.2 else getM a r
def delM (a : Nat) : List (Nat × List Cu) → List (Nat × List Cu)
  | [] => []
  | p :: r => if a = p.1 then r else p :: delM a r
def slZ : Option (List Cu) → V
  | none => .sl true [] 0
  | some l => slC l
theorem bel_slZ {n : Nat} {o : Option (List Cu)} : (slZ o).bel n = true := by
  cases o
  · rfl
  · exact bel_slC _
theorem bel_M {n : Nat} (M : List (Nat × List Cu)) : (Ob.map (enM M)).bel n = true := by
  simp only [Ob.bel, Bool.and_eq_true]
  induction M with
  | nil => exact ⟨rfl, rfl⟩
  | cons p r ih =>
    simp only [enM, List.map_cons, belAll_cons, Bool.and_eq_true] at ih ⊢
    exact ⟨⟨rfl, ih.1⟩, bel_slC _, ih.2⟩
theorem os_slZ {g : Bool} {o : Option (List Cu)} {xs : List V} {p : Prop} : optSide g (slZ o :: xs) p = optSide g xs p := by cases o <;> rfl
theorem st_slZ {o : Option (List Cu)} : (slZ o).st = slZ o := by cases o <;> rfl
theorem rn_flat {α : Type} {f : α → List V} {q : Nat → Nat} (h : ∀ x, rns q (f x) = f x) : ∀ l : List α, rns q (l.flatMap f) = l.flatMap f
  | [] => rfl
  | x :: l => by rw [List.flatMap_cons, rns_map, List.map_append, ← rns_map, ← rns_map, h, rn_flat h l]
theorem rn_C {q : Nat → Nat} (l : List Cu) : rns q (l.flatMap encC) = l.flatMap encC := rn_flat (fun _ => rfl) l
theorem rn_N {q : Nat → Nat} (l : List Nd) : rns q (l.flatMap encN) = l.flatMap encN := rn_flat (fun _ => rfl) l
theorem rn_slZ {q : Nat → Nat} {o : Option (List Cu)} : (slZ o).rn q = slZ o := by
  cases o
  · rfl
  · rw [slZ, slC, V.rn, rn_C]
theorem rn_M {q : Nat → Nat} (M : List (Nat × List Cu)) : (enM M).map (fun e => (e.1.rn q, e.2.rn q)) = enM M := by
  rw [enM, List.map_map]
  apply List.map_congr_left
  intro p _
  simp only [Function.comp, V.rn, slC, rn_C]
theorem keys_M : ∀ M : List (Nat × List Cu), mKeys .i64 (enM M) = true
  | [] => rfl
  | p :: r => keys_M r
theorem get_M (a : Nat) : ∀ M : List (Nat × List Cu), mGet (.sl true [] 0) (a : Int) (enM M) = slZ (getM a M)
  | [] => rfl
  | p :: r => by
    show (if (a : Int) = p.1 then slC p.2 else mGet (.sl true [] 0) (a : Int) (enM r)) = _
    rw [getM]
    by_cases h : a = p.1
    · rw [if_pos (by omega), if_pos h]; rfl
    · rw [if_neg (by omega), if_neg h, get_M a r]
theorem del_M (a : Nat) : ∀ M : List (Nat × List Cu), mDel (a : Int) (enM M) = enM (delM a M)
  | [] => rfl
  | p :: r => by
    show (if (a : Int) = p.1 then enM r else (.int .i64 p.1, slC p.2) :: mDel (a : Int) (enM r)) = _
    rw [delM]
    by_cases h : a = p.1
    · rw [if_pos (by omega), if_pos h]
    · rw [if_neg (by omega), if_neg h, del_M a r]; rfl
theorem put_M (a : Nat) (l : List Cu) : ∀ {M : List (Nat × List Cu)}, getM a M = none → mPut .i64 (a : Int) (slC l) (enM M) = enM (M ++ [(a, l)])
  | [], _ => rfl
  | p :: r, h => by
    rw [getM] at h
    by_cases e : a = p.1
    · rw [if_pos e] at h; cases h
    · rw [if_neg e] at h
      show (if (a : Int) = p.1 then _ else (V.int .i64 p.1, slC p.2) :: mPut .i64 (a : Int) (slC l) (enM r)) = _
      rw [if_neg (by omega), put_M a l h]
      rfl
theorem getM_lt {a : Nat} {N : List (Nat × List Cu)} : ∀ {M : List (Nat × List Cu)}, (∀ q, q ∈ M → q.1 < a) → getM a (M ++ N) = getM a N ∧ delM a (M ++ N) = M ++ delM a N
  | [], _ => ⟨rfl, rfl⟩
  | p :: r, h => by
    have h1 := h p (List.mem_cons_self ..)
    obtain ⟨g1, g2⟩ := getM_lt (M := r) (N := N) fun q hq => h q (List.mem_cons_of_mem _ hq)
    rw [List.cons_append, getM, delM, if_neg (by omega), if_neg (by omega), g1, g2]
    exact ⟨rfl, rfl⟩
def ent (a : Nat) : Option (List Cu) → List (Nat × List Cu)
  | none => []
  | some l => [(a, l)]
theorem getM_ent (a : Nat) (A : Option (List Cu)) : getM a (ent a A) = A ∧ delM a (ent a A) = [] := by
  cases A
  · exact ⟨rfl, rfl⟩
  · simp [ent, getM, delM]
theorem getM_ent2 {a s : Nat} (h : a ≠ s) (A B : Option (List Cu)) : getM a (ent a A ++ ent s B) = A ∧ delM a (ent a A ++ ent s B) = ent s B := by
  cases A <;> cases B <;> simp [ent, getM, delM, h]
theorem keeps_cells {H H' : List Ob} {v : Nat} {l : List V} : Keeps (.cells v l :: H) (.cells v l :: H') = Keeps H H' := by
  apply propext
  constructor
  · intro h i
    exact h (i + 1)
  · intro h i
    cases i with
    | zero => exact fun _ _ h => h
    | succ i => exact h i
theorem keeps_map {H H' : List Ob} {e e' : List (V × V)} : Keeps (.map e :: H) (.map e' :: H') = Keeps H H' := by
  apply propext
  constructor
  · intro h i
    exact h (i + 1)
  · intro h i
    cases i with
    | zero => intro _ _ h; cases h
    | succ i => exact h i
theorem keeps_nil : Keeps [] [] = True := propext ⟨fun _ => trivial, fun _ => Keeps.refl _⟩
theorem lax_C (l : List Cu) : lax (slC l) = slC l := by
  rw [slC, Go.Vm.lax]
  congr 1
  induction l with
  | nil => rfl
  | cons x l ih => rw [List.flatMap_cons, laxs_append, ih]; rfl
theorem lax_Z (o : Option (List Cu)) : lax (slZ o) = slC (o.getD []) := by
  cases o
  · rfl
  · exact lax_C _
theorem pc45z (o : Option (List Cu)) (h : (o.getD []).length ≤ 1000000) : PC Tryz.prog 32 [slZ o, .int .i64 24] (encLE (compl8 (o.getD []) 24)) := by
  refine PC.lax ?_
  rw [laxs, lax_Z]
  exact pc32 _ 24 h
theorem pc46z (o u : Option (List Cu)) (h : (o.getD []).length ≤ 1000000) (h2 : (u.getD []).length ≤ 1000000) : PC Tryz.prog 33 [slZ o, slZ u] (encLE (inter8 (o.getD []) (u.getD []))) := by
  refine PC.lax ?_
  rw [laxs, laxs, lax_Z, lax_Z]
  exact pc33 _ _ h h2
theorem pc47z (o u : Option (List Cu)) (h : (o.getD []).length ≤ 1000000) (h2 : (u.getD []).length ≤ 1000000) : PC Tryz.prog 34 [slZ o, slZ u] (encLE (fin8 (o.getD [] ++ u.getD []))) := by
  refine PC.lax ?_
  rw [laxs, laxs, lax_Z, lax_Z]
  exact pc34 _ _ h h2
def cfg31 : Cfg := ⟨[], [84], [], [84]⟩
def hpS (l : List Nd) (M : List (Nat × List Cu)) : List Ob := [.cells 0 [slN l, .mp 1], .map (enM M)]
theorem pg32 (l : List Nd) (M : List (Nat × List Cu)) (a : Nat) : GCall Tryz.prog 21 [.ptr 0 0 0, .int .i64 a] (hpS l M) (slZ (getM a M)) (hpS l (delM a M)) := by
  unfold hpS
  refine GC.walk tok mixed cfg0 Tryz.func21 rfl Tryz.call21 ?_; simp (config := { maxSteps := 2000000 }) -implicitDefEqProofs +contextual (disch := first | assumption | omega | decide +kernel) only [push_cast, ↓capI, br2_true, br2_false, frk_tt, frk_tf, frk_f, frkD_tt, frkD_tf, frkD_f, pk2_true, pk2_false, imp_true, seval, Nat.reduceLeDiff, Nat.reduceEqDiff, reduceCtorEq, ↓reduceIte, reduceCtorEq, fmN, fm0, take_N, toN1, slN_nil, encN, encC, slN, slC, cfg0, cfg31, get_flat_part lenN, get_flat_drop lenN, len_flat lenN, keys_M, get_M, del_M, os_slZ, st_slZ, rn_slZ, rn_N, rn_M, rn_C, keeps_cells, keeps_map, keeps_nil, V.rn, rns, qn, setPs, rnOs, Ob.rn, List.set_cons_zero, List.set_cons_succ, encLE, Tryz.ntmps21]
  refine endG.ret ([]) (by first | rfl | simp [bel_slZ, bel_M, fmN, fm0, belN, bel_Ns, bel_slN, belC, bel_Cs, bel_slC, bel_encLE, fzs_ok, getO, setO, fzs, fz, fzH, Nat.beq, fmN, fm0, take_N, toN1, slN_nil, tt_3, tt_4, tt_5, tt_9, tt_22, tt_42, tt_26, tt_43, tt_25, tt_56, tt_36, tt_47, tt_48, tt_50, tt_63, encN, encC, slN, slC, cfg0, cfg31, get_flat_part lenN, get_flat_drop lenN, len_flat lenN, keys_M, get_M, del_M, os_slZ, st_slZ, rn_slZ, rn_N, rn_M, rn_C, keeps_cells, keeps_map, keeps_nil, V.rn, rns, qn, setPs, rnOs, Ob.rn, List.set_cons_zero, List.set_cons_succ, encLE]) (by simp) (by simp [bel_slZ, bel_M, fmN, fm0, belN, bel_Ns, bel_slN, belC, bel_Cs, bel_slC, bel_encLE, fzs_ok, imp, lenOK_iff, List.take_of_length_le, evRes, getT, getO, setO, fzs, fz, fzH, Nat.beq, retV, Res.then, ldT, ldR, mkV, getV, fmN, fm0, take_N, toN1, slN_nil, tt_3, tt_4, tt_5, tt_9, tt_22, tt_42, tt_26, tt_43, tt_25, tt_56, tt_36, tt_47, tt_48, tt_50, tt_63, encN, encC, slN, slC, cfg0, cfg31, get_flat_part lenN, get_flat_drop lenN, len_flat lenN, keys_M, get_M, del_M, os_slZ, st_slZ, rn_slZ, rn_N, rn_M, rn_C, keeps_cells, keeps_map, keeps_nil, V.rn, rns, qn, setPs, rnOs, Ob.rn, List.set_cons_zero, List.set_cons_succ, encLE, Tryz.f21]) (by first | rfl | simp [bel_slZ, bel_M, fmN, fm0, belN, bel_Ns, bel_slN, belC, bel_Cs, bel_slC, bel_encLE]) (by first | rfl | simp [bel_slZ, bel_M, fmN, fm0, belN, bel_Ns, bel_slN, belC, bel_Cs, bel_slC, bel_encLE])
def place8 (v : UInt8) (i : Int) : W64 := BitVec.ofNat 64 v.toNat <<< (8 * (2 - i)).toNat
theorem shl_place (v : UInt8) (i : Int) (h : 0 ≤ i ∧ i ≤ 2) : ishl .u64 (v.toNat : Int) (8 * (2 - i)) = ((place8 v i).toNat : Int) := by
  have hv := v.toNat_lt
  have h2 : 8 * (2 - i) = ((8 * (2 - i)).toNat : Int) := by omega
  rw [place8, wN (n := v.toNat) (by omega), h2, w_shl]
  rfl
def cubeN (x : Nd) : Cu := ⟨place8 x.v x.fd, place8 x.m x.fd⟩
/-- the space of a predicate, none where the program stores none; the error -/
def spc : Pr → Option (List Cu) × Int
  | .leaf x => (if x.op = 1 then some [⟨0#64, 0#64⟩] else if x.op = 2 then none else some [cubeN x], 0)
  | .un _ p => if (spc p).2 ≠ 0 then (none, (spc p).2) else
      if (compl8 ((spc p).1.getD []) 24).2 ≠ 0 then (none, (compl8 ((spc p).1.getD []) 24).2) else (some (compl8 ((spc p).1.getD []) 24).1, 0)
  | .bin x p q => if (spc p).2 ≠ 0 then (none, (spc p).2) else if (spc q).2 ≠ 0 then (none, (spc q).2) else
      if x.op = 5 then (if (inter8 ((spc p).1.getD []) ((spc q).1.getD [])).2 ≠ 0 then (none, (inter8 ((spc p).1.getD []) ((spc q).1.getD [])).2) else (some (inter8 ((spc p).1.getD []) ((spc q).1.getD [])).1, 0))
      else (if (fin8 ((spc p).1.getD [] ++ (spc q).1.getD [])).2 ≠ 0 then (none, (fin8 ((spc p).1.getD [] ++ (spc q).1.getD [])).2) else (some (fin8 ((spc p).1.getD [] ++ (spc q).1.getD [])).1, 0))
theorem fin8_len (l : List Cu) : (fin8 l).1.length ≤ 1024 := by
  unfold fin8
  split
  · exact Nat.zero_le _
  · simp only
    omega
theorem interGo_len (b : List Cu) : ∀ (xs out : List Cu), out.length ≤ 1024 → (interGo b xs out).1.length ≤ 1024
  | [], out, h => h
  | x :: xs, out, h => by
    rw [interGo]
    split
    · exact Nat.zero_le _
    · exact interGo_len b xs _ (by omega)
theorem inter8_len (a b : List Cu) : (inter8 a b).1.length ≤ 1024 := interGo_len b a [] (Nat.zero_le _)
theorem subt8Go_len (k : Nat) : ∀ (ys l : List Cu), l.length ≤ 1024 → (subt8Go k ys l).1.length ≤ 1024
  | [], l, h => h
  | y :: ys, l, h => by
    rw [subt8Go]
    split
    · exact Nat.zero_le _
    · exact subt8Go_len k ys _ (by omega)
theorem compl8_len (b : List Cu) : (compl8 b 24).1.length ≤ 1024 := by
  unfold compl8 subt8
  split
  · split
    · exact Nat.zero_le _
    · exact subt8Go_len _ _ _ (by omega)
  · exact Nat.zero_le _
theorem spc_len : ∀ p, ((spc p).1.getD []).length ≤ 1024
  | .leaf x => by
    rw [spc]
    simp only
    split
    · decide
    split <;> exact Nat.le_trans (by simp) (by decide : 1 ≤ 1024)
  | .un x p => by
    rw [spc]
    split
    · exact Nat.zero_le _
    split
    · exact Nat.zero_le _
    · exact compl8_len _
  | .bin x p q => by
    rw [spc]
    split
    · exact Nat.zero_le _
    split
    · exact Nat.zero_le _
    split
    · split
      · exact Nat.zero_le _
      · exact inter8_len _ _
    · split
      · exact Nat.zero_le _
      · exact fin8_len _
theorem lt_app {M : List (Nat × List Cu)} {a : Nat} {A : Option (List Cu)} (h : ∀ q, q ∈ M → q.1 < a) : ∀ q, q ∈ M ++ ent (a + 1) A → q.1 ≠ a := by
  intro q hq
  rw [List.mem_append] at hq
  rcases hq with hq | hq
  · have := h q hq; omega
  · cases A with
    | none => simp [ent] at hq
    | some l =>
      simp [ent] at hq
      rw [hq]
      simp
theorem getM_none {a : Nat} : ∀ {M : List (Nat × List Cu)}, (∀ q, q ∈ M → q.1 < a) → getM a M = none
  | [], _ => rfl
  | p :: r, h => by
    have := h p (List.mem_cons_self ..)
    rw [getM, if_neg (by omega)]
    exact getM_none fun q hq => h q (List.mem_cons_of_mem _ hq)
def Done31 (p : Pr) (l : List Nd) (a : Nat) (M : List (Nat × List Cu)) : Prop :=
  ∃ (n : Int) (M' : List (Nat × List Cu)), GCall Tryz.prog 20 [.ptr 0 0 0, .int .i64 a] (hpS l M) (.tup [.int .i64 n, .int .i64 (spc p).2]) (hpS l M') ∧
    ((spc p).2 = 0 → n = a + (flat p).length ∧ M' = M ++ ent a (spc p).1)
theorem pg31l (l : List Nd) (hm : l.length ≤ 4000000) (x : Nd) (a : Nat) (r : List Nd) (M : List (Nat × List Cu)) (hp : okP (.leaf x)) (hl : l.drop a = flat (.leaf x) ++ r) (hM : ∀ q, q ∈ M → q.1 < a) : Done31 (.leaf x) l a M := by
  obtain ⟨h0, hc⟩ := hp
  obtain ⟨hlt, hX, h2⟩ := drop_cons (x := x) (r := r) hl
  have hput : ∀ c : Cu, mPut .i64 (a : Int) (.sl false [.int .u64 c.v.toNat, .int .u64 c.m.toNat] 1) (enM M) = enM (M ++ [(a, [c])]) := fun c => put_M a [c] (getM_none hM)
  rcases h0 with h | h | h
  · have hq : mPut .i64 (a : Int) (.sl false [.int .u64 0, .int .u64 0] 1) (enM M) = enM (M ++ [(a, [⟨0#64, 0#64⟩])]) := hput ⟨0#64, 0#64⟩
    refine ⟨a + 1, M ++ ent a (spc (.leaf x)).1, ?_, fun _ => ⟨rfl, rfl⟩⟩
    have e : spc (.leaf x) = (some [⟨0#64, 0#64⟩], 0) := by rw [spc, if_pos h]
    rw [e]
    simp only [ent, hpS]
    refine GC.walk tok mixed  cfg31 Tryz.func20 rfl Tryz.call20 ?_; simp (config := { maxSteps := 2000000 }) -implicitDefEqProofs +contextual (disch := first | assumption | omega | decide +kernel) only [push_cast, ↓capI, br2_true, br2_false, frk_tt, frk_tf, frk_f, frkD_tt, frkD_tf, frkD_f, pk2_true, pk2_false, imp_true, seval, Nat.reduceLeDiff, Nat.reduceEqDiff, reduceCtorEq, ↓reduceIte, reduceCtorEq, fmN, fm0, take_N, toN1, slN_nil, encN, encC, slN, slC, cfg0, cfg31, get_flat_part lenN, get_flat_drop lenN, len_flat lenN, keys_M, get_M, del_M, os_slZ, st_slZ, rn_slZ, rn_N, rn_M, rn_C, keeps_cells, keeps_map, keeps_nil, V.rn, rns, qn, setPs, rnOs, Ob.rn, List.set_cons_zero, List.set_cons_succ, encLE, Tryz.ntmps20,  cfg31]
    simp (config := { maxSteps := 2000000 }) -implicitDefEqProofs +contextual (disch := first | assumption | omega | decide +kernel) only [push_cast, ↓capI, br2_true, br2_false, frk_tt, frk_tf, frk_f, frkD_tt, frkD_tf, frkD_f, pk2_true, pk2_false, imp_true, seval, Nat.reduceLeDiff, Nat.reduceEqDiff, reduceCtorEq, ↓reduceIte, reduceCtorEq, fmN, fm0, take_N, toN1, slN_nil, encN, encC, slN, slC, cfg0, cfg31, get_flat_part lenN, get_flat_drop lenN, len_flat lenN, keys_M, get_M, del_M, os_slZ, st_slZ, rn_slZ, rn_N, rn_M, rn_C, keeps_cells, keeps_map, keeps_nil, V.rn, rns, qn, setPs, rnOs, Ob.rn, List.set_cons_zero, List.set_cons_succ, encLE, hX, h, hq]
    refine endG.ret (_) (by first | rfl | simp [bel_slZ, bel_M, fmN, fm0, belN, bel_Ns, bel_slN, belC, bel_Cs, bel_slC, bel_encLE, fzs_ok, getO, setO, fzs, fz, fzH, Nat.beq, fmN, fm0, take_N, toN1, slN_nil, tt_3, tt_4, tt_5, tt_9, tt_22, tt_42, tt_26, tt_43, tt_25, tt_56, tt_36, tt_47, tt_48, tt_50, tt_63, encN, encC, slN, slC, cfg0, cfg31, get_flat_part lenN, get_flat_drop lenN, len_flat lenN, keys_M, get_M, del_M, os_slZ, st_slZ, rn_slZ, rn_N, rn_M, rn_C, keeps_cells, keeps_map, keeps_nil, V.rn, rns, qn, setPs, rnOs, Ob.rn, List.set_cons_zero, List.set_cons_succ, encLE]) (by simp) (by simp [bel_slZ, bel_M, fmN, fm0, belN, bel_Ns, bel_slN, belC, bel_Cs, bel_slC, bel_encLE, fzs_ok, imp, lenOK_iff, List.take_of_length_le, evRes, getT, getO, setO, fzs, fz, fzH, Nat.beq, retV, Res.then, ldT, ldR, mkV, getV, fmN, fm0, take_N, toN1, slN_nil, tt_3, tt_4, tt_5, tt_9, tt_22, tt_42, tt_26, tt_43, tt_25, tt_56, tt_36, tt_47, tt_48, tt_50, tt_63, encN, encC, slN, slC, cfg0, cfg31, get_flat_part lenN, get_flat_drop lenN, len_flat lenN, keys_M, get_M, del_M, os_slZ, st_slZ, rn_slZ, rn_N, rn_M, rn_C, keeps_cells, keeps_map, keeps_nil, V.rn, rns, qn, setPs, rnOs, Ob.rn, List.set_cons_zero, List.set_cons_succ, encLE, Tryz.f20]) (by first | rfl | simp [bel_slZ, bel_M, fmN, fm0, belN, bel_Ns, bel_slN, belC, bel_Cs, bel_slC, bel_encLE]) (by first | rfl | simp [bel_slZ, bel_M, fmN, fm0, belN, bel_Ns, bel_slN, belC, bel_Cs, bel_slC, bel_encLE])
  · refine ⟨a + 1, M, ?_, fun _ => ⟨rfl, ?_⟩⟩
    · have e : spc (.leaf x) = (none, 0) := by rw [spc, h]; rfl
      rw [e]
      simp only [hpS]
      refine GC.walk tok mixed  cfg31 Tryz.func20 rfl Tryz.call20 ?_; simp (config := { maxSteps := 2000000 }) -implicitDefEqProofs +contextual (disch := first | assumption | omega | decide +kernel) only [push_cast, ↓capI, br2_true, br2_false, frk_tt, frk_tf, frk_f, frkD_tt, frkD_tf, frkD_f, pk2_true, pk2_false, imp_true, seval, Nat.reduceLeDiff, Nat.reduceEqDiff, reduceCtorEq, ↓reduceIte, reduceCtorEq, fmN, fm0, take_N, toN1, slN_nil, encN, encC, slN, slC, cfg0, cfg31, get_flat_part lenN, get_flat_drop lenN, len_flat lenN, keys_M, get_M, del_M, os_slZ, st_slZ, rn_slZ, rn_N, rn_M, rn_C, keeps_cells, keeps_map, keeps_nil, V.rn, rns, qn, setPs, rnOs, Ob.rn, List.set_cons_zero, List.set_cons_succ, encLE, Tryz.ntmps20,  cfg31]
      simp (config := { maxSteps := 2000000 }) -implicitDefEqProofs +contextual (disch := first | assumption | omega | decide +kernel) only [push_cast, ↓capI, br2_true, br2_false, frk_tt, frk_tf, frk_f, frkD_tt, frkD_tf, frkD_f, pk2_true, pk2_false, imp_true, seval, Nat.reduceLeDiff, Nat.reduceEqDiff, reduceCtorEq, ↓reduceIte, reduceCtorEq, fmN, fm0, take_N, toN1, slN_nil, encN, encC, slN, slC, cfg0, cfg31, get_flat_part lenN, get_flat_drop lenN, len_flat lenN, keys_M, get_M, del_M, os_slZ, st_slZ, rn_slZ, rn_N, rn_M, rn_C, keeps_cells, keeps_map, keeps_nil, V.rn, rns, qn, setPs, rnOs, Ob.rn, List.set_cons_zero, List.set_cons_succ, encLE, hX, h]
      refine endG.ret (_) (by first | rfl | simp [bel_slZ, bel_M, fmN, fm0, belN, bel_Ns, bel_slN, belC, bel_Cs, bel_slC, bel_encLE, fzs_ok, getO, setO, fzs, fz, fzH, Nat.beq, fmN, fm0, take_N, toN1, slN_nil, tt_3, tt_4, tt_5, tt_9, tt_22, tt_42, tt_26, tt_43, tt_25, tt_56, tt_36, tt_47, tt_48, tt_50, tt_63, encN, encC, slN, slC, cfg0, cfg31, get_flat_part lenN, get_flat_drop lenN, len_flat lenN, keys_M, get_M, del_M, os_slZ, st_slZ, rn_slZ, rn_N, rn_M, rn_C, keeps_cells, keeps_map, keeps_nil, V.rn, rns, qn, setPs, rnOs, Ob.rn, List.set_cons_zero, List.set_cons_succ, encLE]) (by simp) (by simp [bel_slZ, bel_M, fmN, fm0, belN, bel_Ns, bel_slN, belC, bel_Cs, bel_slC, bel_encLE, fzs_ok, imp, lenOK_iff, List.take_of_length_le, evRes, getT, getO, setO, fzs, fz, fzH, Nat.beq, retV, Res.then, ldT, ldR, mkV, getV, fmN, fm0, take_N, toN1, slN_nil, tt_3, tt_4, tt_5, tt_9, tt_22, tt_42, tt_26, tt_43, tt_25, tt_56, tt_36, tt_47, tt_48, tt_50, tt_63, encN, encC, slN, slC, cfg0, cfg31, get_flat_part lenN, get_flat_drop lenN, len_flat lenN, keys_M, get_M, del_M, os_slZ, st_slZ, rn_slZ, rn_N, rn_M, rn_C, keeps_cells, keeps_map, keeps_nil, V.rn, rns, qn, setPs, rnOs, Ob.rn, List.set_cons_zero, List.set_cons_succ, encLE, Tryz.f20]) (by first | rfl | simp [bel_slZ, bel_M, fmN, fm0, belN, bel_Ns, bel_slN, belC, bel_Cs, bel_slC, bel_encLE]) (by first | rfl | simp [bel_slZ, bel_M, fmN, fm0, belN, bel_Ns, bel_slN, belC, bel_Cs, bel_slC, bel_encLE])
    · have e : spc (.leaf x) = (none, 0) := by rw [spc, h]; rfl
      rw [e, ent, List.append_nil]
  · have hq := hput (cubeN x)
    have hf := (leaf_bad h hc).1
    have e1 := shl_place x.v x.fd hf
    have e2 := shl_place x.m x.fd hf
    have hv := x.v.toNat_lt
    have hmm := x.m.toNat_lt
    simp only [cubeN] at hq
    refine ⟨a + 1, M ++ ent a (spc (.leaf x)).1, ?_, fun _ => ⟨rfl, rfl⟩⟩
    have e : spc (.leaf x) = (some [cubeN x], 0) := by rw [spc, h]; rfl
    rw [e]
    simp only [ent, hpS]
    refine GC.walk tok mixed  cfg31 Tryz.func20 rfl Tryz.call20 ?_; simp (config := { maxSteps := 2000000 }) -implicitDefEqProofs +contextual (disch := first | assumption | omega | decide +kernel) only [push_cast, ↓capI, br2_true, br2_false, frk_tt, frk_tf, frk_f, frkD_tt, frkD_tf, frkD_f, pk2_true, pk2_false, imp_true, seval, Nat.reduceLeDiff, Nat.reduceEqDiff, reduceCtorEq, ↓reduceIte, reduceCtorEq, fmN, fm0, take_N, toN1, slN_nil, encN, encC, slN, slC, cfg0, cfg31, get_flat_part lenN, get_flat_drop lenN, len_flat lenN, keys_M, get_M, del_M, os_slZ, st_slZ, rn_slZ, rn_N, rn_M, rn_C, keeps_cells, keeps_map, keeps_nil, V.rn, rns, qn, setPs, rnOs, Ob.rn, List.set_cons_zero, List.set_cons_succ, encLE, Tryz.ntmps20,  cfg31]
    simp (config := { maxSteps := 2000000 }) -implicitDefEqProofs +contextual (disch := first | assumption | omega | decide +kernel) only [push_cast, ↓capI, br2_true, br2_false, frk_tt, frk_tf, frk_f, frkD_tt, frkD_tf, frkD_f, pk2_true, pk2_false, imp_true, seval, Nat.reduceLeDiff, Nat.reduceEqDiff, reduceCtorEq, ↓reduceIte, reduceCtorEq, fmN, fm0, take_N, toN1, slN_nil, encN, encC, slN, slC, cfg0, cfg31, get_flat_part lenN, get_flat_drop lenN, len_flat lenN, keys_M, get_M, del_M, os_slZ, st_slZ, rn_slZ, rn_N, rn_M, rn_C, keeps_cells, keeps_map, keeps_nil, V.rn, rns, qn, setPs, rnOs, Ob.rn, List.set_cons_zero, List.set_cons_succ, encLE, hX, h, e1, e2, hq]
    refine endG.ret (_) (by first | rfl | simp [bel_slZ, bel_M, fmN, fm0, belN, bel_Ns, bel_slN, belC, bel_Cs, bel_slC, bel_encLE, fzs_ok, getO, setO, fzs, fz, fzH, Nat.beq, fmN, fm0, take_N, toN1, slN_nil, tt_3, tt_4, tt_5, tt_9, tt_22, tt_42, tt_26, tt_43, tt_25, tt_56, tt_36, tt_47, tt_48, tt_50, tt_63, encN, encC, slN, slC, cfg0, cfg31, get_flat_part lenN, get_flat_drop lenN, len_flat lenN, keys_M, get_M, del_M, os_slZ, st_slZ, rn_slZ, rn_N, rn_M, rn_C, keeps_cells, keeps_map, keeps_nil, V.rn, rns, qn, setPs, rnOs, Ob.rn, List.set_cons_zero, List.set_cons_succ, encLE]) (by simp) (by simp [bel_slZ, bel_M, fmN, fm0, belN, bel_Ns, bel_slN, belC, bel_Cs, bel_slC, bel_encLE, fzs_ok, imp, lenOK_iff, List.take_of_length_le, evRes, getT, getO, setO, fzs, fz, fzH, Nat.beq, retV, Res.then, ldT, ldR, mkV, getV, fmN, fm0, take_N, toN1, slN_nil, tt_3, tt_4, tt_5, tt_9, tt_22, tt_42, tt_26, tt_43, tt_25, tt_56, tt_36, tt_47, tt_48, tt_50, tt_63, encN, encC, slN, slC, cfg0, cfg31, get_flat_part lenN, get_flat_drop lenN, len_flat lenN, keys_M, get_M, del_M, os_slZ, st_slZ, rn_slZ, rn_N, rn_M, rn_C, keeps_cells, keeps_map, keeps_nil, V.rn, rns, qn, setPs, rnOs, Ob.rn, List.set_cons_zero, List.set_cons_succ, encLE, Tryz.f20]) (by first | rfl | simp [bel_slZ, bel_M, fmN, fm0, belN, bel_Ns, bel_slN, belC, bel_Cs, bel_slC, bel_encLE]) (by first | rfl | simp [bel_slZ, bel_M, fmN, fm0, belN, bel_Ns, bel_slN, belC, bel_Cs, bel_slC, bel_encLE])
theorem pg31u (l : List Nd) (hm : l.length ≤ 4000000) (x : Nd) (p : Pr) (a : Nat) (r : List Nd) (M : List (Nat × List Cu)) (hp : okP (.un x p)) (hl : l.drop a = flat (.un x p) ++ r) (hM : ∀ q, q ∈ M → q.1 < a)
    (ih : Done31 p l (a + 1) M) : Done31 (.un x p) l a M := by
  obtain ⟨h4, hp⟩ := hp
  obtain ⟨hlt, hX, h2⟩ := drop_cons (x := x) (r := flat p ++ r) (by rw [hl, flat, List.cons_append])
  obtain ⟨n1, M1, g1, f1⟩ := ih
  rw [show ((a + 1 : Nat) : Int) = a + 1 from rfl] at g1
  by_cases he : (spc p).2 = 0
  case neg =>
    have e : spc (.un x p) = (none, (spc p).2) := by rw [spc, if_pos he]
    refine ⟨0, M1, ?_, fun h => absurd (by rw [← h, e]) he⟩
    rw [e]
    simp only [hpS] at g1 ⊢
    refine GC.walk tok mixed  cfg31 Tryz.func20 rfl Tryz.call20 ?_; simp (config := { maxSteps := 2000000 }) -implicitDefEqProofs +contextual (disch := first | assumption | omega | decide +kernel) only [push_cast, ↓capI, br2_true, br2_false, frk_tt, frk_tf, frk_f, frkD_tt, frkD_tf, frkD_f, pk2_true, pk2_false, imp_true, seval, Nat.reduceLeDiff, Nat.reduceEqDiff, reduceCtorEq, ↓reduceIte, reduceCtorEq, fmN, fm0, take_N, toN1, slN_nil, encN, encC, slN, slC, cfg0, cfg31, get_flat_part lenN, get_flat_drop lenN, len_flat lenN, keys_M, get_M, del_M, os_slZ, st_slZ, rn_slZ, rn_N, rn_M, rn_C, keeps_cells, keeps_map, keeps_nil, V.rn, rns, qn, setPs, rnOs, Ob.rn, List.set_cons_zero, List.set_cons_succ, encLE, Tryz.ntmps20,  cfg31]
    simp (config := { maxSteps := 2000000 }) -implicitDefEqProofs +contextual (disch := first | assumption | omega | decide +kernel) only [push_cast, ↓capI, br2_true, br2_false, frk_tt, frk_tf, frk_f, frkD_tt, frkD_tf, frkD_f, pk2_true, pk2_false, imp_true, seval, Nat.reduceLeDiff, Nat.reduceEqDiff, reduceCtorEq, ↓reduceIte, reduceCtorEq, fmN, fm0, take_N, toN1, slN_nil, encN, encC, slN, slC, cfg0, cfg31, get_flat_part lenN, get_flat_drop lenN, len_flat lenN, keys_M, get_M, del_M, os_slZ, st_slZ, rn_slZ, rn_N, rn_M, rn_C, keeps_cells, keeps_map, keeps_nil, V.rn, rns, qn, setPs, rnOs, Ob.rn, List.set_cons_zero, List.set_cons_succ, encLE, hX, h4]
    refine callO.part0 [0, 1] g1 (by decide) rfl rfl ⟨by simp [rnOs, Ob.rn, rns, V.rn, qn, rn_N, slN, getO], by simp, by simp [rnOs, Ob.rn, rn_M, getO], by simp, trivial⟩ ?_
    simp (config := { maxSteps := 2000000 }) -implicitDefEqProofs +contextual (disch := first | assumption | omega | decide +kernel) only [push_cast, ↓capI, br2_true, br2_false, frk_tt, frk_tf, frk_f, frkD_tt, frkD_tf, frkD_f, pk2_true, pk2_false, imp_true, seval, Nat.reduceLeDiff, Nat.reduceEqDiff, reduceCtorEq, ↓reduceIte, reduceCtorEq, fmN, fm0, take_N, toN1, slN_nil, encN, encC, slN, slC, cfg0, cfg31, get_flat_part lenN, get_flat_drop lenN, len_flat lenN, keys_M, get_M, del_M, os_slZ, st_slZ, rn_slZ, rn_N, rn_M, rn_C, keeps_cells, keeps_map, keeps_nil, V.rn, rns, qn, setPs, rnOs, Ob.rn, List.set_cons_zero, List.set_cons_succ, encLE, he]
    refine endG.ret (_) (by first | rfl | simp [bel_slZ, bel_M, fmN, fm0, belN, bel_Ns, bel_slN, belC, bel_Cs, bel_slC, bel_encLE, fzs_ok, getO, setO, fzs, fz, fzH, Nat.beq, fmN, fm0, take_N, toN1, slN_nil, tt_3, tt_4, tt_5, tt_9, tt_22, tt_42, tt_26, tt_43, tt_25, tt_56, tt_36, tt_47, tt_48, tt_50, tt_63, encN, encC, slN, slC, cfg0, cfg31, get_flat_part lenN, get_flat_drop lenN, len_flat lenN, keys_M, get_M, del_M, os_slZ, st_slZ, rn_slZ, rn_N, rn_M, rn_C, keeps_cells, keeps_map, keeps_nil, V.rn, rns, qn, setPs, rnOs, Ob.rn, List.set_cons_zero, List.set_cons_succ, encLE]) (by simp) (by simp [bel_slZ, bel_M, fmN, fm0, belN, bel_Ns, bel_slN, belC, bel_Cs, bel_slC, bel_encLE, fzs_ok, imp, lenOK_iff, List.take_of_length_le, evRes, getT, getO, setO, fzs, fz, fzH, Nat.beq, retV, Res.then, ldT, ldR, mkV, getV, fmN, fm0, take_N, toN1, slN_nil, tt_3, tt_4, tt_5, tt_9, tt_22, tt_42, tt_26, tt_43, tt_25, tt_56, tt_36, tt_47, tt_48, tt_50, tt_63, encN, encC, slN, slC, cfg0, cfg31, get_flat_part lenN, get_flat_drop lenN, len_flat lenN, keys_M, get_M, del_M, os_slZ, st_slZ, rn_slZ, rn_N, rn_M, rn_C, keeps_cells, keeps_map, keeps_nil, V.rn, rns, qn, setPs, rnOs, Ob.rn, List.set_cons_zero, List.set_cons_succ, encLE, Tryz.f20]) (by first | rfl | simp [bel_slZ, bel_M, fmN, fm0, belN, bel_Ns, bel_slN, belC, bel_Cs, bel_slC, bel_encLE]) (by first | rfl | simp [bel_slZ, bel_M, fmN, fm0, belN, bel_Ns, bel_slN, belC, bel_Cs, bel_slC, bel_encLE])
  obtain ⟨rfl, rfl⟩ := f1 he
  have hln := spc_len p
  have gA := getM_lt (N := ent (a + 1) (spc p).1) (a := a + 1) (M := M) (fun q hq => by have := hM q hq; omega)
  rw [(getM_ent (a + 1) (spc p).1).1, (getM_ent (a + 1) (spc p).1).2, List.append_nil] at gA
  have g2 := pg32 l (M ++ ent (a + 1) (spc p).1) (a + 1)
  rw [gA.1, gA.2, show ((a + 1 : Nat) : Int) = a + 1 from rfl] at g2
  have g3 := pc45z (spc p).1 (by omega)
  have hput := put_M a (compl8 ((spc p).1.getD []) 24).1 (getM_none hM)
  simp only [slC] at hput
  rw [he] at g1
  refine ⟨(a : Int) + 1 + (flat p).length, M ++ [(a, (compl8 ((spc p).1.getD []) 24).1)], ?_, fun h => ?_⟩
  · have e2 : (spc (.un x p)).2 = (compl8 ((spc p).1.getD []) 24).2 := by
      rw [spc, if_neg (fun g => g he)]
      by_cases hc : (compl8 ((spc p).1.getD []) 24).2 = 0
      · rw [if_neg (fun g => g hc), hc]
      · rw [if_pos hc]
    rw [e2]
    simp only [hpS] at g1 g2 ⊢
    rw [show ((a + 1 : Nat) : Int) = a + 1 from rfl] at g1
    refine GC.walk tok mixed  cfg31 Tryz.func20 rfl Tryz.call20 ?_; simp (config := { maxSteps := 2000000 }) -implicitDefEqProofs +contextual (disch := first | assumption | omega | decide +kernel) only [push_cast, ↓capI, br2_true, br2_false, frk_tt, frk_tf, frk_f, frkD_tt, frkD_tf, frkD_f, pk2_true, pk2_false, imp_true, seval, Nat.reduceLeDiff, Nat.reduceEqDiff, reduceCtorEq, ↓reduceIte, reduceCtorEq, fmN, fm0, take_N, toN1, slN_nil, encN, encC, slN, slC, cfg0, cfg31, get_flat_part lenN, get_flat_drop lenN, len_flat lenN, keys_M, get_M, del_M, os_slZ, st_slZ, rn_slZ, rn_N, rn_M, rn_C, keeps_cells, keeps_map, keeps_nil, V.rn, rns, qn, setPs, rnOs, Ob.rn, List.set_cons_zero, List.set_cons_succ, encLE, Tryz.ntmps20,  cfg31]
    simp (config := { maxSteps := 2000000 }) -implicitDefEqProofs +contextual (disch := first | assumption | omega | decide +kernel) only [push_cast, ↓capI, br2_true, br2_false, frk_tt, frk_tf, frk_f, frkD_tt, frkD_tf, frkD_f, pk2_true, pk2_false, imp_true, seval, Nat.reduceLeDiff, Nat.reduceEqDiff, reduceCtorEq, ↓reduceIte, reduceCtorEq, fmN, fm0, take_N, toN1, slN_nil, encN, encC, slN, slC, cfg0, cfg31, get_flat_part lenN, get_flat_drop lenN, len_flat lenN, keys_M, get_M, del_M, os_slZ, st_slZ, rn_slZ, rn_N, rn_M, rn_C, keeps_cells, keeps_map, keeps_nil, V.rn, rns, qn, setPs, rnOs, Ob.rn, List.set_cons_zero, List.set_cons_succ, encLE, hX, h4]
    refine callO.part0 [0, 1] g1 (by decide) rfl rfl ⟨by simp [rnOs, Ob.rn, rns, V.rn, qn, rn_N, slN, getO], by simp, by simp [rnOs, Ob.rn, rn_M, getO], by simp, trivial⟩ ?_
    simp (config := { maxSteps := 2000000 }) -implicitDefEqProofs +contextual (disch := first | assumption | omega | decide +kernel) only [push_cast, ↓capI, br2_true, br2_false, frk_tt, frk_tf, frk_f, frkD_tt, frkD_tf, frkD_f, pk2_true, pk2_false, imp_true, seval, Nat.reduceLeDiff, Nat.reduceEqDiff, reduceCtorEq, ↓reduceIte, reduceCtorEq, fmN, fm0, take_N, toN1, slN_nil, encN, encC, slN, slC, cfg0, cfg31, get_flat_part lenN, get_flat_drop lenN, len_flat lenN, keys_M, get_M, del_M, os_slZ, st_slZ, rn_slZ, rn_N, rn_M, rn_C, keeps_cells, keeps_map, keeps_nil, V.rn, rns, qn, setPs, rnOs, Ob.rn, List.set_cons_zero, List.set_cons_succ, encLE, h4]
    refine callO.part0 [0, 1] g2 (by decide) rfl rfl ⟨by simp [rnOs, Ob.rn, rns, V.rn, qn, rn_N, slN, getO], by simp, by simp [rnOs, Ob.rn, rn_M, getO], by simp, trivial⟩ ?_
    simp (config := { maxSteps := 2000000 }) -implicitDefEqProofs +contextual (disch := first | assumption | omega | decide +kernel) only [push_cast, ↓capI, br2_true, br2_false, frk_tt, frk_tf, frk_f, frkD_tt, frkD_tf, frkD_f, pk2_true, pk2_false, imp_true, seval, Nat.reduceLeDiff, Nat.reduceEqDiff, reduceCtorEq, ↓reduceIte, reduceCtorEq, fmN, fm0, take_N, toN1, slN_nil, encN, encC, slN, slC, cfg0, cfg31, get_flat_part lenN, get_flat_drop lenN, len_flat lenN, keys_M, get_M, del_M, os_slZ, st_slZ, rn_slZ, rn_N, rn_M, rn_C, keeps_cells, keeps_map, keeps_nil, V.rn, rns, qn, setPs, rnOs, Ob.rn, List.set_cons_zero, List.set_cons_succ, encLE]
    refine callG.pc1 g3 ?_
    simp (config := { maxSteps := 2000000 }) -implicitDefEqProofs +contextual (disch := first | assumption | omega | decide +kernel) only [push_cast, ↓capI, br2_true, br2_false, frk_tt, frk_tf, frk_f, frkD_tt, frkD_tf, frkD_f, pk2_true, pk2_false, imp_true, seval, Nat.reduceLeDiff, Nat.reduceEqDiff, reduceCtorEq, ↓reduceIte, reduceCtorEq, fmN, fm0, take_N, toN1, slN_nil, encN, encC, slN, slC, cfg0, cfg31, get_flat_part lenN, get_flat_drop lenN, len_flat lenN, keys_M, get_M, del_M, os_slZ, st_slZ, rn_slZ, rn_N, rn_M, rn_C, keeps_cells, keeps_map, keeps_nil, V.rn, rns, qn, setPs, rnOs, Ob.rn, List.set_cons_zero, List.set_cons_succ, encLE, hput]
    refine endG.ret (_) (by first | rfl | simp [bel_slZ, bel_M, fmN, fm0, belN, bel_Ns, bel_slN, belC, bel_Cs, bel_slC, bel_encLE, fzs_ok, getO, setO, fzs, fz, fzH, Nat.beq, fmN, fm0, take_N, toN1, slN_nil, tt_3, tt_4, tt_5, tt_9, tt_22, tt_42, tt_26, tt_43, tt_25, tt_56, tt_36, tt_47, tt_48, tt_50, tt_63, encN, encC, slN, slC, cfg0, cfg31, get_flat_part lenN, get_flat_drop lenN, len_flat lenN, keys_M, get_M, del_M, os_slZ, st_slZ, rn_slZ, rn_N, rn_M, rn_C, keeps_cells, keeps_map, keeps_nil, V.rn, rns, qn, setPs, rnOs, Ob.rn, List.set_cons_zero, List.set_cons_succ, encLE]) (by simp) (by simp [bel_slZ, bel_M, fmN, fm0, belN, bel_Ns, bel_slN, belC, bel_Cs, bel_slC, bel_encLE, fzs_ok, imp, lenOK_iff, List.take_of_length_le, evRes, getT, getO, setO, fzs, fz, fzH, Nat.beq, retV, Res.then, ldT, ldR, mkV, getV, fmN, fm0, take_N, toN1, slN_nil, tt_3, tt_4, tt_5, tt_9, tt_22, tt_42, tt_26, tt_43, tt_25, tt_56, tt_36, tt_47, tt_48, tt_50, tt_63, encN, encC, slN, slC, cfg0, cfg31, get_flat_part lenN, get_flat_drop lenN, len_flat lenN, keys_M, get_M, del_M, os_slZ, st_slZ, rn_slZ, rn_N, rn_M, rn_C, keeps_cells, keeps_map, keeps_nil, V.rn, rns, qn, setPs, rnOs, Ob.rn, List.set_cons_zero, List.set_cons_succ, encLE, Tryz.f20]) (by first | rfl | simp [bel_slZ, bel_M, fmN, fm0, belN, bel_Ns, bel_slN, belC, bel_Cs, bel_slC, bel_encLE]) (by first | rfl | simp [bel_slZ, bel_M, fmN, fm0, belN, bel_Ns, bel_slN, belC, bel_Cs, bel_slC, bel_encLE])
  · have hc : (compl8 ((spc p).1.getD []) 24).2 = 0 := by
      rw [spc, if_neg (fun g => g he)] at h
      split at h
      · rename_i hc; exact absurd h hc
      · rename_i hc; exact Decidable.not_not.1 hc
    rw [spc, if_neg (fun g => g he), if_neg (fun g => g hc), flat, List.length_cons]
    exact ⟨by omega, rfl⟩
end Go.Proofs.YtllfdnbnkncnhaaGreatDoor

/- Chapter 44: the space of a predicate, by the program: operators with two operands, Space. -/
set_option maxRecDepth 100000
set_option maxHeartbeats 4000000
set_option linter.all false
namespace Go.Proofs.YtllfdnbnkncnhaaGreatDoor
open Go.Vm
theorem pg31b (l : List Nd) (hm : l.length ≤ 4000000) (x : Nd) (p q : Pr) (a : Nat) (r : List Nd) (M : List (Nat × List Cu)) (hp : okP (.bin x p q)) (hl : l.drop a = flat (.bin x p q) ++ r) (hM : ∀ e, e ∈ M → e.1 < a)
    (i1 : Done31 p l (a + 1) M) (i2 : (spc p).2 = 0 → Done31 q l (a + 1 + (flat p).length) (M ++ ent (a + 1) (spc p).1)) : Done31 (.bin x p q) l a M := by
  obtain ⟨h4, hp, hq⟩ := hp
  have h3 : ¬ x.op = 4 := by omega
  have h31 : ¬ x.op = 1 := by omega
  have h32 : ¬ x.op = 2 := by omega
  have h33 : ¬ x.op = 3 := by omega
  obtain ⟨hlt, hX, h2⟩ := drop_cons (x := x) (r := flat p ++ (flat q ++ r)) (by rw [hl, flat, List.cons_append, List.append_assoc])
  have hn := drop_len hlt h2
  obtain ⟨n1, M1, g1, f1⟩ := i1
  rw [show ((a + 1 : Nat) : Int) = a + 1 from rfl] at g1
  by_cases he : (spc p).2 = 0
  case neg =>
    have e : spc (.bin x p q) = (none, (spc p).2) := by rw [spc, if_pos he]
    refine ⟨0, M1, ?_, fun h => absurd (by rw [← h, e]) he⟩
    rw [e]
    simp only [hpS] at g1 ⊢
    refine GC.walk tok mixed  cfg31 Tryz.func20 rfl Tryz.call20 ?_; simp (config := { maxSteps := 2000000 }) -implicitDefEqProofs +contextual (disch := first | assumption | omega | decide +kernel) only [push_cast, ↓capI, br2_true, br2_false, frk_tt, frk_tf, frk_f, frkD_tt, frkD_tf, frkD_f, pk2_true, pk2_false, imp_true, seval, Nat.reduceLeDiff, Nat.reduceEqDiff, reduceCtorEq, ↓reduceIte, reduceCtorEq, fmN, fm0, take_N, toN1, slN_nil, encN, encC, slN, slC, cfg0, cfg31, get_flat_part lenN, get_flat_drop lenN, len_flat lenN, keys_M, get_M, del_M, os_slZ, st_slZ, rn_slZ, rn_N, rn_M, rn_C, keeps_cells, keeps_map, keeps_nil, V.rn, rns, qn, setPs, rnOs, Ob.rn, List.set_cons_zero, List.set_cons_succ, encLE, Tryz.ntmps20,  cfg31]
    simp (config := { maxSteps := 2000000 }) -implicitDefEqProofs +contextual (disch := first | assumption | omega | decide +kernel) only [push_cast, ↓capI, br2_true, br2_false, frk_tt, frk_tf, frk_f, frkD_tt, frkD_tf, frkD_f, pk2_true, pk2_false, imp_true, seval, Nat.reduceLeDiff, Nat.reduceEqDiff, reduceCtorEq, ↓reduceIte, reduceCtorEq, fmN, fm0, take_N, toN1, slN_nil, encN, encC, slN, slC, cfg0, cfg31, get_flat_part lenN, get_flat_drop lenN, len_flat lenN, keys_M, get_M, del_M, os_slZ, st_slZ, rn_slZ, rn_N, rn_M, rn_C, keeps_cells, keeps_map, keeps_nil, V.rn, rns, qn, setPs, rnOs, Ob.rn, List.set_cons_zero, List.set_cons_succ, encLE, hX, h31, h32, h33]
    refine callO.part0 [0, 1] g1 (by decide) rfl rfl ⟨by simp [rnOs, Ob.rn, rns, V.rn, qn, rn_N, slN, getO], by simp, by simp [rnOs, Ob.rn, rn_M, getO], by simp, trivial⟩ ?_
    simp (config := { maxSteps := 2000000 }) -implicitDefEqProofs +contextual (disch := first | assumption | omega | decide +kernel) only [push_cast, ↓capI, br2_true, br2_false, frk_tt, frk_tf, frk_f, frkD_tt, frkD_tf, frkD_f, pk2_true, pk2_false, imp_true, seval, Nat.reduceLeDiff, Nat.reduceEqDiff, reduceCtorEq, ↓reduceIte, reduceCtorEq, fmN, fm0, take_N, toN1, slN_nil, encN, encC, slN, slC, cfg0, cfg31, get_flat_part lenN, get_flat_drop lenN, len_flat lenN, keys_M, get_M, del_M, os_slZ, st_slZ, rn_slZ, rn_N, rn_M, rn_C, keeps_cells, keeps_map, keeps_nil, V.rn, rns, qn, setPs, rnOs, Ob.rn, List.set_cons_zero, List.set_cons_succ, encLE, he]
    refine endG.ret (_) (by first | rfl | simp [bel_slZ, bel_M, fmN, fm0, belN, bel_Ns, bel_slN, belC, bel_Cs, bel_slC, bel_encLE, fzs_ok, getO, setO, fzs, fz, fzH, Nat.beq, fmN, fm0, take_N, toN1, slN_nil, tt_3, tt_4, tt_5, tt_9, tt_22, tt_42, tt_26, tt_43, tt_25, tt_56, tt_36, tt_47, tt_48, tt_50, tt_63, encN, encC, slN, slC, cfg0, cfg31, get_flat_part lenN, get_flat_drop lenN, len_flat lenN, keys_M, get_M, del_M, os_slZ, st_slZ, rn_slZ, rn_N, rn_M, rn_C, keeps_cells, keeps_map, keeps_nil, V.rn, rns, qn, setPs, rnOs, Ob.rn, List.set_cons_zero, List.set_cons_succ, encLE]) (by simp) (by simp [bel_slZ, bel_M, fmN, fm0, belN, bel_Ns, bel_slN, belC, bel_Cs, bel_slC, bel_encLE, fzs_ok, imp, lenOK_iff, List.take_of_length_le, evRes, getT, getO, setO, fzs, fz, fzH, Nat.beq, retV, Res.then, ldT, ldR, mkV, getV, fmN, fm0, take_N, toN1, slN_nil, tt_3, tt_4, tt_5, tt_9, tt_22, tt_42, tt_26, tt_43, tt_25, tt_56, tt_36, tt_47, tt_48, tt_50, tt_63, encN, encC, slN, slC, cfg0, cfg31, get_flat_part lenN, get_flat_drop lenN, len_flat lenN, keys_M, get_M, del_M, os_slZ, st_slZ, rn_slZ, rn_N, rn_M, rn_C, keeps_cells, keeps_map, keeps_nil, V.rn, rns, qn, setPs, rnOs, Ob.rn, List.set_cons_zero, List.set_cons_succ, encLE, Tryz.f20]) (by first | rfl | simp [bel_slZ, bel_M, fmN, fm0, belN, bel_Ns, bel_slN, belC, bel_Cs, bel_slC, bel_encLE]) (by first | rfl | simp [bel_slZ, bel_M, fmN, fm0, belN, bel_Ns, bel_slN, belC, bel_Cs, bel_slC, bel_encLE])
  obtain ⟨rfl, rfl⟩ := f1 he
  obtain ⟨n2, M2, g2, f2⟩ := i2 he
  rw [show ((a + 1 + (flat p).length : Nat) : Int) = (a : Int) + 1 + ((flat p).length : Nat) by omega] at g2
  have hnn : (flat p).length ≤ 4000000 := by omega
  rw [he] at g1
  by_cases he2 : (spc q).2 = 0
  case neg =>
    have e : spc (.bin x p q) = (none, (spc q).2) := by rw [spc, if_neg (fun g => g he), if_pos he2]
    refine ⟨0, M2, ?_, fun h => absurd (by rw [← h, e]) he2⟩
    rw [e]
    simp only [hpS] at g1 g2 ⊢
    rw [show ((a + 1 : Nat) : Int) = a + 1 from rfl] at g1
    refine GC.walk tok mixed  cfg31 Tryz.func20 rfl Tryz.call20 ?_; simp (config := { maxSteps := 2000000 }) -implicitDefEqProofs +contextual (disch := first | assumption | omega | decide +kernel) only [push_cast, ↓capI, br2_true, br2_false, frk_tt, frk_tf, frk_f, frkD_tt, frkD_tf, frkD_f, pk2_true, pk2_false, imp_true, seval, Nat.reduceLeDiff, Nat.reduceEqDiff, reduceCtorEq, ↓reduceIte, reduceCtorEq, fmN, fm0, take_N, toN1, slN_nil, encN, encC, slN, slC, cfg0, cfg31, get_flat_part lenN, get_flat_drop lenN, len_flat lenN, keys_M, get_M, del_M, os_slZ, st_slZ, rn_slZ, rn_N, rn_M, rn_C, keeps_cells, keeps_map, keeps_nil, V.rn, rns, qn, setPs, rnOs, Ob.rn, List.set_cons_zero, List.set_cons_succ, encLE, Tryz.ntmps20,  cfg31]
    simp (config := { maxSteps := 2000000 }) -implicitDefEqProofs +contextual (disch := first | assumption | omega | decide +kernel) only [push_cast, ↓capI, br2_true, br2_false, frk_tt, frk_tf, frk_f, frkD_tt, frkD_tf, frkD_f, pk2_true, pk2_false, imp_true, seval, Nat.reduceLeDiff, Nat.reduceEqDiff, reduceCtorEq, ↓reduceIte, reduceCtorEq, fmN, fm0, take_N, toN1, slN_nil, encN, encC, slN, slC, cfg0, cfg31, get_flat_part lenN, get_flat_drop lenN, len_flat lenN, keys_M, get_M, del_M, os_slZ, st_slZ, rn_slZ, rn_N, rn_M, rn_C, keeps_cells, keeps_map, keeps_nil, V.rn, rns, qn, setPs, rnOs, Ob.rn, List.set_cons_zero, List.set_cons_succ, encLE, hX, h31, h32, h33]
    refine callO.part0 [0, 1] g1 (by decide) rfl rfl ⟨by simp [rnOs, Ob.rn, rns, V.rn, qn, rn_N, slN, getO], by simp, by simp [rnOs, Ob.rn, rn_M, getO], by simp, trivial⟩ ?_
    simp (config := { maxSteps := 2000000 }) -implicitDefEqProofs +contextual (disch := first | assumption | omega | decide +kernel) only [push_cast, ↓capI, br2_true, br2_false, frk_tt, frk_tf, frk_f, frkD_tt, frkD_tf, frkD_f, pk2_true, pk2_false, imp_true, seval, Nat.reduceLeDiff, Nat.reduceEqDiff, reduceCtorEq, ↓reduceIte, reduceCtorEq, fmN, fm0, take_N, toN1, slN_nil, encN, encC, slN, slC, cfg0, cfg31, get_flat_part lenN, get_flat_drop lenN, len_flat lenN, keys_M, get_M, del_M, os_slZ, st_slZ, rn_slZ, rn_N, rn_M, rn_C, keeps_cells, keeps_map, keeps_nil, V.rn, rns, qn, setPs, rnOs, Ob.rn, List.set_cons_zero, List.set_cons_succ, encLE, h3]
    refine callO.part0 [0, 1] g2 (by decide) rfl rfl ⟨by simp [rnOs, Ob.rn, rns, V.rn, qn, rn_N, slN, getO], by simp, by simp [rnOs, Ob.rn, rn_M, getO], by simp, trivial⟩ ?_
    simp (config := { maxSteps := 2000000 }) -implicitDefEqProofs +contextual (disch := first | assumption | omega | decide +kernel) only [push_cast, ↓capI, br2_true, br2_false, frk_tt, frk_tf, frk_f, frkD_tt, frkD_tf, frkD_f, pk2_true, pk2_false, imp_true, seval, Nat.reduceLeDiff, Nat.reduceEqDiff, reduceCtorEq, ↓reduceIte, reduceCtorEq, fmN, fm0, take_N, toN1, slN_nil, encN, encC, slN, slC, cfg0, cfg31, get_flat_part lenN, get_flat_drop lenN, len_flat lenN, keys_M, get_M, del_M, os_slZ, st_slZ, rn_slZ, rn_N, rn_M, rn_C, keeps_cells, keeps_map, keeps_nil, V.rn, rns, qn, setPs, rnOs, Ob.rn, List.set_cons_zero, List.set_cons_succ, encLE, he2]
    refine endG.ret (_) (by first | rfl | simp [bel_slZ, bel_M, fmN, fm0, belN, bel_Ns, bel_slN, belC, bel_Cs, bel_slC, bel_encLE, fzs_ok, getO, setO, fzs, fz, fzH, Nat.beq, fmN, fm0, take_N, toN1, slN_nil, tt_3, tt_4, tt_5, tt_9, tt_22, tt_42, tt_26, tt_43, tt_25, tt_56, tt_36, tt_47, tt_48, tt_50, tt_63, encN, encC, slN, slC, cfg0, cfg31, get_flat_part lenN, get_flat_drop lenN, len_flat lenN, keys_M, get_M, del_M, os_slZ, st_slZ, rn_slZ, rn_N, rn_M, rn_C, keeps_cells, keeps_map, keeps_nil, V.rn, rns, qn, setPs, rnOs, Ob.rn, List.set_cons_zero, List.set_cons_succ, encLE]) (by simp) (by simp [bel_slZ, bel_M, fmN, fm0, belN, bel_Ns, bel_slN, belC, bel_Cs, bel_slC, bel_encLE, fzs_ok, imp, lenOK_iff, List.take_of_length_le, evRes, getT, getO, setO, fzs, fz, fzH, Nat.beq, retV, Res.then, ldT, ldR, mkV, getV, fmN, fm0, take_N, toN1, slN_nil, tt_3, tt_4, tt_5, tt_9, tt_22, tt_42, tt_26, tt_43, tt_25, tt_56, tt_36, tt_47, tt_48, tt_50, tt_63, encN, encC, slN, slC, cfg0, cfg31, get_flat_part lenN, get_flat_drop lenN, len_flat lenN, keys_M, get_M, del_M, os_slZ, st_slZ, rn_slZ, rn_N, rn_M, rn_C, keeps_cells, keeps_map, keeps_nil, V.rn, rns, qn, setPs, rnOs, Ob.rn, List.set_cons_zero, List.set_cons_succ, encLE, Tryz.f20]) (by first | rfl | simp [bel_slZ, bel_M, fmN, fm0, belN, bel_Ns, bel_slN, belC, bel_Cs, bel_slC, bel_encLE]) (by first | rfl | simp [bel_slZ, bel_M, fmN, fm0, belN, bel_Ns, bel_slN, belC, bel_Cs, bel_slC, bel_encLE])
  obtain ⟨rfl, rfl⟩ := f2 he2
  have hpos := flat_pos p
  have hlp := spc_len p
  have hlq := spc_len q
  have gA := getM_lt (N := ent (a + 1) (spc p).1 ++ ent (a + 1 + (flat p).length) (spc q).1) (a := a + 1) (M := M) (fun e he => by have := hM e he; omega)
  rw [(getM_ent2 (by omega) (spc p).1 (spc q).1).1, (getM_ent2 (by omega) (spc p).1 (spc q).1).2] at gA
  have gB := getM_lt (N := ent (a + 1 + (flat p).length) (spc q).1) (a := a + 1 + (flat p).length) (M := M) (fun e he => by have := hM e he; omega)
  rw [(getM_ent _ (spc q).1).1, (getM_ent _ (spc q).1).2, List.append_nil] at gB
  have k1 := pg32 l (M ++ ent (a + 1) (spc p).1 ++ ent (a + 1 + (flat p).length) (spc q).1) (a + 1)
  have k2 := pg32 l (M ++ ent (a + 1 + (flat p).length) (spc q).1) (a + 1 + (flat p).length)
  rw [List.append_assoc, gA.1, gA.2, show ((a + 1 : Nat) : Int) = a + 1 from rfl] at k1
  rw [gB.1, gB.2, show ((a + 1 + (flat p).length : Nat) : Int) = (a : Int) + 1 + ((flat p).length : Nat) by omega] at k2
  rw [he2, List.append_assoc] at g2
  have hlen : (flat (.bin x p q)).length = (flat p).length + (flat q).length + 1 := by rw [flat, List.length_cons, List.length_append]
  rcases h4 with h | h
  · have c1 := pc46z (spc p).1 (spc q).1 (by omega) (by omega)
    have hput := put_M a (inter8 ((spc p).1.getD []) ((spc q).1.getD [])).1 (getM_none hM)
    have e2 : (spc (.bin x p q)).2 = (inter8 ((spc p).1.getD []) ((spc q).1.getD [])).2 := by
      rw [spc, if_neg (fun g => g he), if_neg (fun g => g he2), if_pos h]
      by_cases hc : (inter8 ((spc p).1.getD []) ((spc q).1.getD [])).2 = 0
      · rw [if_neg (fun g => g hc), hc]
      · rw [if_pos hc]
    have e3 : (inter8 ((spc p).1.getD []) ((spc q).1.getD [])).2 = 0 → (spc (.bin x p q)).1 = some (inter8 ((spc p).1.getD []) ((spc q).1.getD [])).1 := fun hc => by
      rw [spc, if_neg (fun g => g he), if_neg (fun g => g he2), if_pos h, if_neg (fun g => g hc)]
    generalize inter8 ((spc p).1.getD []) ((spc q).1.getD []) = R at c1 hput e2 e3
    simp only [slC] at hput
    refine ⟨(a : Int) + 1 + (flat p).length + (flat q).length, M ++ [(a, R.1)], ?_, fun h0 => ⟨by rw [hlen]; omega, by rw [e3 (by rw [← e2]; exact h0)]; rfl⟩⟩
    rw [e2]
    simp only [hpS] at g1 g2 k1 k2 ⊢
    rw [show ((a + 1 : Nat) : Int) = a + 1 from rfl] at g1
    refine GC.walk tok mixed  cfg31 Tryz.func20 rfl Tryz.call20 ?_; simp (config := { maxSteps := 2000000 }) -implicitDefEqProofs +contextual (disch := first | assumption | omega | decide +kernel) only [push_cast, ↓capI, br2_true, br2_false, frk_tt, frk_tf, frk_f, frkD_tt, frkD_tf, frkD_f, pk2_true, pk2_false, imp_true, seval, Nat.reduceLeDiff, Nat.reduceEqDiff, reduceCtorEq, ↓reduceIte, reduceCtorEq, fmN, fm0, take_N, toN1, slN_nil, encN, encC, slN, slC, cfg0, cfg31, get_flat_part lenN, get_flat_drop lenN, len_flat lenN, keys_M, get_M, del_M, os_slZ, st_slZ, rn_slZ, rn_N, rn_M, rn_C, keeps_cells, keeps_map, keeps_nil, V.rn, rns, qn, setPs, rnOs, Ob.rn, List.set_cons_zero, List.set_cons_succ, encLE, Tryz.ntmps20,  cfg31]
    simp (config := { maxSteps := 2000000 }) -implicitDefEqProofs +contextual (disch := first | assumption | omega | decide +kernel) only [push_cast, ↓capI, br2_true, br2_false, frk_tt, frk_tf, frk_f, frkD_tt, frkD_tf, frkD_f, pk2_true, pk2_false, imp_true, seval, Nat.reduceLeDiff, Nat.reduceEqDiff, reduceCtorEq, ↓reduceIte, reduceCtorEq, fmN, fm0, take_N, toN1, slN_nil, encN, encC, slN, slC, cfg0, cfg31, get_flat_part lenN, get_flat_drop lenN, len_flat lenN, keys_M, get_M, del_M, os_slZ, st_slZ, rn_slZ, rn_N, rn_M, rn_C, keeps_cells, keeps_map, keeps_nil, V.rn, rns, qn, setPs, rnOs, Ob.rn, List.set_cons_zero, List.set_cons_succ, encLE, hX, h31, h32, h33]
    refine callO.part0 [0, 1] g1 (by decide) rfl rfl ⟨by simp [rnOs, Ob.rn, rns, V.rn, qn, rn_N, slN, getO], by simp, by simp [rnOs, Ob.rn, rn_M, getO], by simp, trivial⟩ ?_
    simp (config := { maxSteps := 2000000 }) -implicitDefEqProofs +contextual (disch := first | assumption | omega | decide +kernel) only [push_cast, ↓capI, br2_true, br2_false, frk_tt, frk_tf, frk_f, frkD_tt, frkD_tf, frkD_f, pk2_true, pk2_false, imp_true, seval, Nat.reduceLeDiff, Nat.reduceEqDiff, reduceCtorEq, ↓reduceIte, reduceCtorEq, fmN, fm0, take_N, toN1, slN_nil, encN, encC, slN, slC, cfg0, cfg31, get_flat_part lenN, get_flat_drop lenN, len_flat lenN, keys_M, get_M, del_M, os_slZ, st_slZ, rn_slZ, rn_N, rn_M, rn_C, keeps_cells, keeps_map, keeps_nil, V.rn, rns, qn, setPs, rnOs, Ob.rn, List.set_cons_zero, List.set_cons_succ, encLE, h3]
    refine callO.part0 [0, 1] g2 (by decide) rfl rfl ⟨by simp [rnOs, Ob.rn, rns, V.rn, qn, rn_N, slN, getO], by simp, by simp [rnOs, Ob.rn, rn_M, getO], by simp, trivial⟩ ?_
    simp (config := { maxSteps := 2000000 }) -implicitDefEqProofs +contextual (disch := first | assumption | omega | decide +kernel) only [push_cast, ↓capI, br2_true, br2_false, frk_tt, frk_tf, frk_f, frkD_tt, frkD_tf, frkD_f, pk2_true, pk2_false, imp_true, seval, Nat.reduceLeDiff, Nat.reduceEqDiff, reduceCtorEq, ↓reduceIte, reduceCtorEq, fmN, fm0, take_N, toN1, slN_nil, encN, encC, slN, slC, cfg0, cfg31, get_flat_part lenN, get_flat_drop lenN, len_flat lenN, keys_M, get_M, del_M, os_slZ, st_slZ, rn_slZ, rn_N, rn_M, rn_C, keeps_cells, keeps_map, keeps_nil, V.rn, rns, qn, setPs, rnOs, Ob.rn, List.set_cons_zero, List.set_cons_succ, encLE]
    refine callO.part0 [0, 1] k1 (by decide) rfl rfl ⟨by simp [rnOs, Ob.rn, rns, V.rn, qn, rn_N, slN, getO], by simp, by simp [rnOs, Ob.rn, rn_M, getO], by simp, trivial⟩ ?_
    simp (config := { maxSteps := 2000000 }) -implicitDefEqProofs +contextual (disch := first | assumption | omega | decide +kernel) only [push_cast, ↓capI, br2_true, br2_false, frk_tt, frk_tf, frk_f, frkD_tt, frkD_tf, frkD_f, pk2_true, pk2_false, imp_true, seval, Nat.reduceLeDiff, Nat.reduceEqDiff, reduceCtorEq, ↓reduceIte, reduceCtorEq, fmN, fm0, take_N, toN1, slN_nil, encN, encC, slN, slC, cfg0, cfg31, get_flat_part lenN, get_flat_drop lenN, len_flat lenN, keys_M, get_M, del_M, os_slZ, st_slZ, rn_slZ, rn_N, rn_M, rn_C, keeps_cells, keeps_map, keeps_nil, V.rn, rns, qn, setPs, rnOs, Ob.rn, List.set_cons_zero, List.set_cons_succ, encLE]
    refine callO.part0 [0, 1] k2 (by decide) rfl rfl ⟨by simp [rnOs, Ob.rn, rns, V.rn, qn, rn_N, slN, getO], by simp, by simp [rnOs, Ob.rn, rn_M, getO], by simp, trivial⟩ ?_
    simp (config := { maxSteps := 2000000 }) -implicitDefEqProofs +contextual (disch := first | assumption | omega | decide +kernel) only [push_cast, ↓capI, br2_true, br2_false, frk_tt, frk_tf, frk_f, frkD_tt, frkD_tf, frkD_f, pk2_true, pk2_false, imp_true, seval, Nat.reduceLeDiff, Nat.reduceEqDiff, reduceCtorEq, ↓reduceIte, reduceCtorEq, fmN, fm0, take_N, toN1, slN_nil, encN, encC, slN, slC, cfg0, cfg31, get_flat_part lenN, get_flat_drop lenN, len_flat lenN, keys_M, get_M, del_M, os_slZ, st_slZ, rn_slZ, rn_N, rn_M, rn_C, keeps_cells, keeps_map, keeps_nil, V.rn, rns, qn, setPs, rnOs, Ob.rn, List.set_cons_zero, List.set_cons_succ, encLE, h]
    refine callG.pc1 c1 ?_
    simp (config := { maxSteps := 2000000 }) -implicitDefEqProofs +contextual (disch := first | assumption | omega | decide +kernel) only [push_cast, ↓capI, br2_true, br2_false, frk_tt, frk_tf, frk_f, frkD_tt, frkD_tf, frkD_f, pk2_true, pk2_false, imp_true, seval, Nat.reduceLeDiff, Nat.reduceEqDiff, reduceCtorEq, ↓reduceIte, reduceCtorEq, fmN, fm0, take_N, toN1, slN_nil, encN, encC, slN, slC, cfg0, cfg31, get_flat_part lenN, get_flat_drop lenN, len_flat lenN, keys_M, get_M, del_M, os_slZ, st_slZ, rn_slZ, rn_N, rn_M, rn_C, keeps_cells, keeps_map, keeps_nil, V.rn, rns, qn, setPs, rnOs, Ob.rn, List.set_cons_zero, List.set_cons_succ, encLE, hput]
    refine endG.ret (_) (by first | rfl | simp [bel_slZ, bel_M, fmN, fm0, belN, bel_Ns, bel_slN, belC, bel_Cs, bel_slC, bel_encLE, fzs_ok, getO, setO, fzs, fz, fzH, Nat.beq, fmN, fm0, take_N, toN1, slN_nil, tt_3, tt_4, tt_5, tt_9, tt_22, tt_42, tt_26, tt_43, tt_25, tt_56, tt_36, tt_47, tt_48, tt_50, tt_63, encN, encC, slN, slC, cfg0, cfg31, get_flat_part lenN, get_flat_drop lenN, len_flat lenN, keys_M, get_M, del_M, os_slZ, st_slZ, rn_slZ, rn_N, rn_M, rn_C, keeps_cells, keeps_map, keeps_nil, V.rn, rns, qn, setPs, rnOs, Ob.rn, List.set_cons_zero, List.set_cons_succ, encLE]) (by simp) (by simp [bel_slZ, bel_M, fmN, fm0, belN, bel_Ns, bel_slN, belC, bel_Cs, bel_slC, bel_encLE, fzs_ok, imp, lenOK_iff, List.take_of_length_le, evRes, getT, getO, setO, fzs, fz, fzH, Nat.beq, retV, Res.then, ldT, ldR, mkV, getV, fmN, fm0, take_N, toN1, slN_nil, tt_3, tt_4, tt_5, tt_9, tt_22, tt_42, tt_26, tt_43, tt_25, tt_56, tt_36, tt_47, tt_48, tt_50, tt_63, encN, encC, slN, slC, cfg0, cfg31, get_flat_part lenN, get_flat_drop lenN, len_flat lenN, keys_M, get_M, del_M, os_slZ, st_slZ, rn_slZ, rn_N, rn_M, rn_C, keeps_cells, keeps_map, keeps_nil, V.rn, rns, qn, setPs, rnOs, Ob.rn, List.set_cons_zero, List.set_cons_succ, encLE, Tryz.f20]) (by first | rfl | simp [bel_slZ, bel_M, fmN, fm0, belN, bel_Ns, bel_slN, belC, bel_Cs, bel_slC, bel_encLE]) (by first | rfl | simp [bel_slZ, bel_M, fmN, fm0, belN, bel_Ns, bel_slN, belC, bel_Cs, bel_slC, bel_encLE])
  · have h5 : ¬ x.op = 5 := by omega
    have c1 := pc47z (spc p).1 (spc q).1 (by omega) (by omega)
    have hput := put_M a (fin8 ((spc p).1.getD [] ++ (spc q).1.getD [])).1 (getM_none hM)
    have e2 : (spc (.bin x p q)).2 = (fin8 ((spc p).1.getD [] ++ (spc q).1.getD [])).2 := by
      rw [spc, if_neg (fun g => g he), if_neg (fun g => g he2), if_neg h5]
      by_cases hc : (fin8 ((spc p).1.getD [] ++ (spc q).1.getD [])).2 = 0
      · rw [if_neg (fun g => g hc), hc]
      · rw [if_pos hc]
    have e3 : (fin8 ((spc p).1.getD [] ++ (spc q).1.getD [])).2 = 0 → (spc (.bin x p q)).1 = some (fin8 ((spc p).1.getD [] ++ (spc q).1.getD [])).1 := fun hc => by
      rw [spc, if_neg (fun g => g he), if_neg (fun g => g he2), if_neg h5, if_neg (fun g => g hc)]
    generalize fin8 ((spc p).1.getD [] ++ (spc q).1.getD []) = R at c1 hput e2 e3
    simp only [slC] at hput
    refine ⟨(a : Int) + 1 + (flat p).length + (flat q).length, M ++ [(a, R.1)], ?_, fun h0 => ⟨by rw [hlen]; omega, by rw [e3 (by rw [← e2]; exact h0)]; rfl⟩⟩
    rw [e2]
    simp only [hpS] at g1 g2 k1 k2 ⊢
    rw [show ((a + 1 : Nat) : Int) = a + 1 from rfl] at g1
    refine GC.walk tok mixed  cfg31 Tryz.func20 rfl Tryz.call20 ?_; simp (config := { maxSteps := 2000000 }) -implicitDefEqProofs +contextual (disch := first | assumption | omega | decide +kernel) only [push_cast, ↓capI, br2_true, br2_false, frk_tt, frk_tf, frk_f, frkD_tt, frkD_tf, frkD_f, pk2_true, pk2_false, imp_true, seval, Nat.reduceLeDiff, Nat.reduceEqDiff, reduceCtorEq, ↓reduceIte, reduceCtorEq, fmN, fm0, take_N, toN1, slN_nil, encN, encC, slN, slC, cfg0, cfg31, get_flat_part lenN, get_flat_drop lenN, len_flat lenN, keys_M, get_M, del_M, os_slZ, st_slZ, rn_slZ, rn_N, rn_M, rn_C, keeps_cells, keeps_map, keeps_nil, V.rn, rns, qn, setPs, rnOs, Ob.rn, List.set_cons_zero, List.set_cons_succ, encLE, Tryz.ntmps20,  cfg31]
    simp (config := { maxSteps := 2000000 }) -implicitDefEqProofs +contextual (disch := first | assumption | omega | decide +kernel) only [push_cast, ↓capI, br2_true, br2_false, frk_tt, frk_tf, frk_f, frkD_tt, frkD_tf, frkD_f, pk2_true, pk2_false, imp_true, seval, Nat.reduceLeDiff, Nat.reduceEqDiff, reduceCtorEq, ↓reduceIte, reduceCtorEq, fmN, fm0, take_N, toN1, slN_nil, encN, encC, slN, slC, cfg0, cfg31, get_flat_part lenN, get_flat_drop lenN, len_flat lenN, keys_M, get_M, del_M, os_slZ, st_slZ, rn_slZ, rn_N, rn_M, rn_C, keeps_cells, keeps_map, keeps_nil, V.rn, rns, qn, setPs, rnOs, Ob.rn, List.set_cons_zero, List.set_cons_succ, encLE, hX, h31, h32, h33]
    refine callO.part0 [0, 1] g1 (by decide) rfl rfl ⟨by simp [rnOs, Ob.rn, rns, V.rn, qn, rn_N, slN, getO], by simp, by simp [rnOs, Ob.rn, rn_M, getO], by simp, trivial⟩ ?_
    simp (config := { maxSteps := 2000000 }) -implicitDefEqProofs +contextual (disch := first | assumption | omega | decide +kernel) only [push_cast, ↓capI, br2_true, br2_false, frk_tt, frk_tf, frk_f, frkD_tt, frkD_tf, frkD_f, pk2_true, pk2_false, imp_true, seval, Nat.reduceLeDiff, Nat.reduceEqDiff, reduceCtorEq, ↓reduceIte, reduceCtorEq, fmN, fm0, take_N, toN1, slN_nil, encN, encC, slN, slC, cfg0, cfg31, get_flat_part lenN, get_flat_drop lenN, len_flat lenN, keys_M, get_M, del_M, os_slZ, st_slZ, rn_slZ, rn_N, rn_M, rn_C, keeps_cells, keeps_map, keeps_nil, V.rn, rns, qn, setPs, rnOs, Ob.rn, List.set_cons_zero, List.set_cons_succ, encLE, h3]
    refine callO.part0 [0, 1] g2 (by decide) rfl rfl ⟨by simp [rnOs, Ob.rn, rns, V.rn, qn, rn_N, slN, getO], by simp, by simp [rnOs, Ob.rn, rn_M, getO], by simp, trivial⟩ ?_
    simp (config := { maxSteps := 2000000 }) -implicitDefEqProofs +contextual (disch := first | assumption | omega | decide +kernel) only [push_cast, ↓capI, br2_true, br2_false, frk_tt, frk_tf, frk_f, frkD_tt, frkD_tf, frkD_f, pk2_true, pk2_false, imp_true, seval, Nat.reduceLeDiff, Nat.reduceEqDiff, reduceCtorEq, ↓reduceIte, reduceCtorEq, fmN, fm0, take_N, toN1, slN_nil, encN, encC, slN, slC, cfg0, cfg31, get_flat_part lenN, get_flat_drop lenN, len_flat lenN, keys_M, get_M, del_M, os_slZ, st_slZ, rn_slZ, rn_N, rn_M, rn_C, keeps_cells, keeps_map, keeps_nil, V.rn, rns, qn, setPs, rnOs, Ob.rn, List.set_cons_zero, List.set_cons_succ, encLE]
    refine callO.part0 [0, 1] k1 (by decide) rfl rfl ⟨by simp [rnOs, Ob.rn, rns, V.rn, qn, rn_N, slN, getO], by simp, by simp [rnOs, Ob.rn, rn_M, getO], by simp, trivial⟩ ?_
    simp (config := { maxSteps := 2000000 }) -implicitDefEqProofs +contextual (disch := first | assumption | omega | decide +kernel) only [push_cast, ↓capI, br2_true, br2_false, frk_tt, frk_tf, frk_f, frkD_tt, frkD_tf, frkD_f, pk2_true, pk2_false, imp_true, seval, Nat.reduceLeDiff, Nat.reduceEqDiff, reduceCtorEq, ↓reduceIte, reduceCtorEq, fmN, fm0, take_N, toN1, slN_nil, encN, encC, slN, slC, cfg0, cfg31, get_flat_part lenN, get_flat_drop lenN, len_flat lenN, keys_M, get_M, del_M, os_slZ, st_slZ, rn_slZ, rn_N, rn_M, rn_C, keeps_cells, keeps_map, keeps_nil, V.rn, rns, qn, setPs, rnOs, Ob.rn, List.set_cons_zero, List.set_cons_succ, encLE]
    refine callO.part0 [0, 1] k2 (by decide) rfl rfl ⟨by simp [rnOs, Ob.rn, rns, V.rn, qn, rn_N, slN, getO], by simp, by simp [rnOs, Ob.rn, rn_M, getO], by simp, trivial⟩ ?_
    simp (config := { maxSteps := 2000000 }) -implicitDefEqProofs +contextual (disch := first | assumption | omega | decide +kernel) only [push_cast, ↓capI, br2_true, br2_false, frk_tt, frk_tf, frk_f, frkD_tt, frkD_tf, frkD_f, pk2_true, pk2_false, imp_true, seval, Nat.reduceLeDiff, Nat.reduceEqDiff, reduceCtorEq, ↓reduceIte, reduceCtorEq, fmN, fm0, take_N, toN1, slN_nil, encN, encC, slN, slC, cfg0, cfg31, get_flat_part lenN, get_flat_drop lenN, len_flat lenN, keys_M, get_M, del_M, os_slZ, st_slZ, rn_slZ, rn_N, rn_M, rn_C, keeps_cells, keeps_map, keeps_nil, V.rn, rns, qn, setPs, rnOs, Ob.rn, List.set_cons_zero, List.set_cons_succ, encLE, h]
    refine callG.pc1 c1 ?_
    simp (config := { maxSteps := 2000000 }) -implicitDefEqProofs +contextual (disch := first | assumption | omega | decide +kernel) only [push_cast, ↓capI, br2_true, br2_false, frk_tt, frk_tf, frk_f, frkD_tt, frkD_tf, frkD_f, pk2_true, pk2_false, imp_true, seval, Nat.reduceLeDiff, Nat.reduceEqDiff, reduceCtorEq, ↓reduceIte, reduceCtorEq, fmN, fm0, take_N, toN1, slN_nil, encN, encC, slN, slC, cfg0, cfg31, get_flat_part lenN, get_flat_drop lenN, len_flat lenN, keys_M, get_M, del_M, os_slZ, st_slZ, rn_slZ, rn_N, rn_M, rn_C, keeps_cells, keeps_map, keeps_nil, V.rn, rns, qn, setPs, rnOs, Ob.rn, List.set_cons_zero, List.set_cons_succ, encLE, hput]
    refine endG.ret (_) (by first | rfl | simp [bel_slZ, bel_M, fmN, fm0, belN, bel_Ns, bel_slN, belC, bel_Cs, bel_slC, bel_encLE, fzs_ok, getO, setO, fzs, fz, fzH, Nat.beq, fmN, fm0, take_N, toN1, slN_nil, tt_3, tt_4, tt_5, tt_9, tt_22, tt_42, tt_26, tt_43, tt_25, tt_56, tt_36, tt_47, tt_48, tt_50, tt_63, encN, encC, slN, slC, cfg0, cfg31, get_flat_part lenN, get_flat_drop lenN, len_flat lenN, keys_M, get_M, del_M, os_slZ, st_slZ, rn_slZ, rn_N, rn_M, rn_C, keeps_cells, keeps_map, keeps_nil, V.rn, rns, qn, setPs, rnOs, Ob.rn, List.set_cons_zero, List.set_cons_succ, encLE]) (by simp) (by simp [bel_slZ, bel_M, fmN, fm0, belN, bel_Ns, bel_slN, belC, bel_Cs, bel_slC, bel_encLE, fzs_ok, imp, lenOK_iff, List.take_of_length_le, evRes, getT, getO, setO, fzs, fz, fzH, Nat.beq, retV, Res.then, ldT, ldR, mkV, getV, fmN, fm0, take_N, toN1, slN_nil, tt_3, tt_4, tt_5, tt_9, tt_22, tt_42, tt_26, tt_43, tt_25, tt_56, tt_36, tt_47, tt_48, tt_50, tt_63, encN, encC, slN, slC, cfg0, cfg31, get_flat_part lenN, get_flat_drop lenN, len_flat lenN, keys_M, get_M, del_M, os_slZ, st_slZ, rn_slZ, rn_N, rn_M, rn_C, keeps_cells, keeps_map, keeps_nil, V.rn, rns, qn, setPs, rnOs, Ob.rn, List.set_cons_zero, List.set_cons_succ, encLE, Tryz.f20]) (by first | rfl | simp [bel_slZ, bel_M, fmN, fm0, belN, bel_Ns, bel_slN, belC, bel_Cs, bel_slC, bel_encLE]) (by first | rfl | simp [bel_slZ, bel_M, fmN, fm0, belN, bel_Ns, bel_slN, belC, bel_Cs, bel_slC, bel_encLE])
theorem pg31 (l : List Nd) (hm : l.length ≤ 4000000) : ∀ (p : Pr) (a : Nat) (r : List Nd) (M : List (Nat × List Cu)), okP p → l.drop a = flat p ++ r → (∀ q, q ∈ M → q.1 < a) → Done31 p l a M
  | .leaf x, a, r, M, hp, hl, hM => pg31l l hm x a r M hp hl hM
  | .un x p, a, r, M, hp, hl, hM => by
    obtain ⟨hlt, hX, h2⟩ := drop_cons (x := x) (r := flat p ++ r) (by rw [hl, flat, List.cons_append])
    exact pg31u l hm x p a r M hp hl hM (pg31 l hm p (a + 1) r M hp.2 h2 (fun q hq => by have := hM q hq; omega))
  | .bin x p q, a, r, M, hp, hl, hM => by
    obtain ⟨hlt, hX, h2⟩ := drop_cons (x := x) (r := flat p ++ (flat q ++ r)) (by rw [hl, flat, List.cons_append, List.append_assoc])
    refine pg31b l hm x p q a r M hp hl hM (pg31 l hm p (a + 1) _ M hp.2.1 h2 (fun q hq => by have := hM q hq; omega)) (fun _ => pg31 l hm q _ r _ hp.2.2 (drop_app h2) (fun e he => ?_))
    have hpos := flat_pos p
    rcases List.mem_append.1 he with he | he
    · have := hM e he
      omega
    · cases hs : (spc p).1 with
      | none => rw [hs] at he; cases he
      | some c =>
        rw [hs, ent] at he
        rw [List.mem_singleton.1 he]
        show a + 1 < a + 1 + (flat p).length
        omega
def enSp (r : Option (List Cu) × Int) : V := .tup [slZ r.1, .int .i64 r.2]
theorem bel_Sp {n : Nat} {r : Option (List Cu) × Int} : (enSp r).bel n = true := by simp [enSp, bel_tup, belAll_cons, belAll_nil, bel_slZ, bel_int]
end Go.Proofs.YtllfdnbnkncnhaaGreatDoor

/- Chapter 44: Space, by the program. -/
set_option maxRecDepth 100000
set_option maxHeartbeats 4000000
set_option linter.all false
namespace Go.Proofs.YtllfdnbnkncnhaaGreatDoor
open Go.Vm
def spaceL (l : List Nd) (R : Option (List Cu) × Int) : Prop := (checkP l ≠ 0 ∧ R = (none, checkP l)) ∨ (checkP l = 0 ∧ ∃ p, okP p ∧ l = flat p ∧ R = if (spc p).2 = 0 then ((spc p).1, 0) else (none, (spc p).2))
theorem pc7 (l : List Nd) (hl : l.length ≤ 4000000) (R : Option (List Cu) × Int) (h : spaceL l R) : PC Tryz.prog 7 [slN l] (enSp R) := by
  rcases h with ⟨hc, rfl⟩ | ⟨hc, p, hp, e, rfl⟩
  · refine PC.walk tok mixed cfg0 Tryz.func7 rfl Tryz.call7 (by simp [bel_slZ, bel_M, fmN, fm0, belN, bel_Ns, bel_slN, belC, bel_Cs, bel_slC, bel_encLE, bel_Sp]) (by first | rfl | simp [bel_slZ, bel_M, fmN, fm0, belN, bel_Ns, bel_slN, belC, bel_Cs, bel_slC, bel_encLE, bel_Sp]) ?_; simp (config := { maxSteps := 2000000 }) -implicitDefEqProofs +contextual (disch := first | assumption | omega | decide +kernel) only [push_cast, ↓capI, br2_true, br2_false, frk_tt, frk_tf, frk_f, frkD_tt, frkD_tf, frkD_f, pk2_true, pk2_false, imp_true, seval, Nat.reduceLeDiff, Nat.reduceEqDiff, reduceCtorEq, ↓reduceIte, reduceCtorEq, fmN, fm0, take_N, toN1, slN_nil, encN, encC, slN, slC, cfg0, cfg31, get_flat_part lenN, get_flat_drop lenN, len_flat lenN, keys_M, get_M, del_M, os_slZ, st_slZ, rn_slZ, rn_N, rn_M, rn_C, keeps_cells, keeps_map, keeps_nil, V.rn, rns, qn, setPs, rnOs, Ob.rn, List.set_cons_zero, List.set_cons_succ, encLE, Tryz.ntmps7]
    refine callO.pc (pc19 l hl) ?_
    simp (config := { maxSteps := 2000000 }) -implicitDefEqProofs +contextual (disch := first | assumption | omega | decide +kernel) only [push_cast, ↓capI, br2_true, br2_false, frk_tt, frk_tf, frk_f, frkD_tt, frkD_tf, frkD_f, pk2_true, pk2_false, imp_true, seval, Nat.reduceLeDiff, Nat.reduceEqDiff, reduceCtorEq, ↓reduceIte, reduceCtorEq, fmN, fm0, take_N, toN1, slN_nil, encN, encC, slN, slC, cfg0, cfg31, get_flat_part lenN, get_flat_drop lenN, len_flat lenN, keys_M, get_M, del_M, os_slZ, st_slZ, rn_slZ, rn_N, rn_M, rn_C, keeps_cells, keeps_map, keeps_nil, V.rn, rns, qn, setPs, rnOs, Ob.rn, List.set_cons_zero, List.set_cons_succ, encLE, hc]
    refine endK.ret ?_ (by first | rfl | simp [bel_slZ, bel_M, fmN, fm0, belN, bel_Ns, bel_slN, belC, bel_Cs, bel_slC, bel_encLE, bel_Sp]); simp [evRes, getT, retV, Tryz.f7,  enSp, slZ]
  · have i0 := pc19 l hl
    rw [hc] at i0
    obtain ⟨n, M', g, f⟩ := pg31 l hl p 0 [] [] hp (by rw [List.append_nil, List.drop_zero, e]) (fun q hq => by cases hq)
    simp only [hpS] at g
    by_cases h0 : (spc p).2 = 0
    · obtain ⟨rfl, rfl⟩ := f h0
      have k := pg32 l ([] ++ ent 0 (spc p).1) 0
      rw [List.nil_append, (getM_ent 0 (spc p).1).1, (getM_ent 0 (spc p).1).2] at k
      simp only [hpS] at k
      rw [List.nil_append] at g
      rw [if_pos h0]
      rw [h0] at g
      refine PC.walk tok mixed cfg0 Tryz.func7 rfl Tryz.call7 (by simp [bel_slZ, bel_M, fmN, fm0, belN, bel_Ns, bel_slN, belC, bel_Cs, bel_slC, bel_encLE, bel_Sp]) (by first | rfl | simp [bel_slZ, bel_M, fmN, fm0, belN, bel_Ns, bel_slN, belC, bel_Cs, bel_slC, bel_encLE, bel_Sp]) ?_; simp (config := { maxSteps := 2000000 }) -implicitDefEqProofs +contextual (disch := first | assumption | omega | decide +kernel) only [push_cast, ↓capI, br2_true, br2_false, frk_tt, frk_tf, frk_f, frkD_tt, frkD_tf, frkD_f, pk2_true, pk2_false, imp_true, seval, Nat.reduceLeDiff, Nat.reduceEqDiff, reduceCtorEq, ↓reduceIte, reduceCtorEq, fmN, fm0, take_N, toN1, slN_nil, encN, encC, slN, slC, cfg0, cfg31, get_flat_part lenN, get_flat_drop lenN, len_flat lenN, keys_M, get_M, del_M, os_slZ, st_slZ, rn_slZ, rn_N, rn_M, rn_C, keeps_cells, keeps_map, keeps_nil, V.rn, rns, qn, setPs, rnOs, Ob.rn, List.set_cons_zero, List.set_cons_succ, encLE, Tryz.ntmps7]
      refine callO.pc i0 ?_
      simp (config := { maxSteps := 2000000 }) -implicitDefEqProofs +contextual (disch := first | assumption | omega | decide +kernel) only [push_cast, ↓capI, br2_true, br2_false, frk_tt, frk_tf, frk_f, frkD_tt, frkD_tf, frkD_f, pk2_true, pk2_false, imp_true, seval, Nat.reduceLeDiff, Nat.reduceEqDiff, reduceCtorEq, ↓reduceIte, reduceCtorEq, fmN, fm0, take_N, toN1, slN_nil, encN, encC, slN, slC, cfg0, cfg31, get_flat_part lenN, get_flat_drop lenN, len_flat lenN, keys_M, get_M, del_M, os_slZ, st_slZ, rn_slZ, rn_N, rn_M, rn_C, keeps_cells, keeps_map, keeps_nil, V.rn, rns, qn, setPs, rnOs, Ob.rn, List.set_cons_zero, List.set_cons_succ, encLE]
      refine callO.part0 [1, 0] g (by decide) rfl rfl ⟨by simp [rnOs, Ob.rn, rns, V.rn, qn, rn_N, slN, getO, enM], by simp, by simp [rnOs, Ob.rn, rn_M, getO, enM], by simp, trivial⟩ ?_
      simp (config := { maxSteps := 2000000 }) -implicitDefEqProofs +contextual (disch := first | assumption | omega | decide +kernel) only [push_cast, ↓capI, br2_true, br2_false, frk_tt, frk_tf, frk_f, frkD_tt, frkD_tf, frkD_f, pk2_true, pk2_false, imp_true, seval, Nat.reduceLeDiff, Nat.reduceEqDiff, reduceCtorEq, ↓reduceIte, reduceCtorEq, fmN, fm0, take_N, toN1, slN_nil, encN, encC, slN, slC, cfg0, cfg31, get_flat_part lenN, get_flat_drop lenN, len_flat lenN, keys_M, get_M, del_M, os_slZ, st_slZ, rn_slZ, rn_N, rn_M, rn_C, keeps_cells, keeps_map, keeps_nil, V.rn, rns, qn, setPs, rnOs, Ob.rn, List.set_cons_zero, List.set_cons_succ, encLE, h0]
      refine callO.part0 [1, 0] k (by decide) rfl rfl ⟨by simp [rnOs, Ob.rn, rns, V.rn, qn, rn_N, slN, getO], by simp, by simp [rnOs, Ob.rn, rn_M, getO], by simp, trivial⟩ ?_
      simp (config := { maxSteps := 2000000 }) -implicitDefEqProofs +contextual (disch := first | assumption | omega | decide +kernel) only [push_cast, ↓capI, br2_true, br2_false, frk_tt, frk_tf, frk_f, frkD_tt, frkD_tf, frkD_f, pk2_true, pk2_false, imp_true, seval, Nat.reduceLeDiff, Nat.reduceEqDiff, reduceCtorEq, ↓reduceIte, reduceCtorEq, fmN, fm0, take_N, toN1, slN_nil, encN, encC, slN, slC, cfg0, cfg31, get_flat_part lenN, get_flat_drop lenN, len_flat lenN, keys_M, get_M, del_M, os_slZ, st_slZ, rn_slZ, rn_N, rn_M, rn_C, keeps_cells, keeps_map, keeps_nil, V.rn, rns, qn, setPs, rnOs, Ob.rn, List.set_cons_zero, List.set_cons_succ, encLE]
      refine endK.ret ?_ (by first | rfl | simp [bel_slZ, bel_M, fmN, fm0, belN, bel_Ns, bel_slN, belC, bel_Cs, bel_slC, bel_encLE, bel_Sp]); simp [evRes, getT, retV, Tryz.f7,  enSp]
    · rw [if_neg h0]
      refine PC.walk tok mixed cfg0 Tryz.func7 rfl Tryz.call7 (by simp [bel_slZ, bel_M, fmN, fm0, belN, bel_Ns, bel_slN, belC, bel_Cs, bel_slC, bel_encLE, bel_Sp]) (by first | rfl | simp [bel_slZ, bel_M, fmN, fm0, belN, bel_Ns, bel_slN, belC, bel_Cs, bel_slC, bel_encLE, bel_Sp]) ?_; simp (config := { maxSteps := 2000000 }) -implicitDefEqProofs +contextual (disch := first | assumption | omega | decide +kernel) only [push_cast, ↓capI, br2_true, br2_false, frk_tt, frk_tf, frk_f, frkD_tt, frkD_tf, frkD_f, pk2_true, pk2_false, imp_true, seval, Nat.reduceLeDiff, Nat.reduceEqDiff, reduceCtorEq, ↓reduceIte, reduceCtorEq, fmN, fm0, take_N, toN1, slN_nil, encN, encC, slN, slC, cfg0, cfg31, get_flat_part lenN, get_flat_drop lenN, len_flat lenN, keys_M, get_M, del_M, os_slZ, st_slZ, rn_slZ, rn_N, rn_M, rn_C, keeps_cells, keeps_map, keeps_nil, V.rn, rns, qn, setPs, rnOs, Ob.rn, List.set_cons_zero, List.set_cons_succ, encLE, Tryz.ntmps7]
      refine callO.pc i0 ?_
      simp (config := { maxSteps := 2000000 }) -implicitDefEqProofs +contextual (disch := first | assumption | omega | decide +kernel) only [push_cast, ↓capI, br2_true, br2_false, frk_tt, frk_tf, frk_f, frkD_tt, frkD_tf, frkD_f, pk2_true, pk2_false, imp_true, seval, Nat.reduceLeDiff, Nat.reduceEqDiff, reduceCtorEq, ↓reduceIte, reduceCtorEq, fmN, fm0, take_N, toN1, slN_nil, encN, encC, slN, slC, cfg0, cfg31, get_flat_part lenN, get_flat_drop lenN, len_flat lenN, keys_M, get_M, del_M, os_slZ, st_slZ, rn_slZ, rn_N, rn_M, rn_C, keeps_cells, keeps_map, keeps_nil, V.rn, rns, qn, setPs, rnOs, Ob.rn, List.set_cons_zero, List.set_cons_succ, encLE]
      refine callO.part0 [1, 0] g (by decide) rfl rfl ⟨by simp [rnOs, Ob.rn, rns, V.rn, qn, rn_N, slN, getO, enM], by simp, by simp [rnOs, Ob.rn, rn_M, getO, enM], by simp, trivial⟩ ?_
      simp (config := { maxSteps := 2000000 }) -implicitDefEqProofs +contextual (disch := first | assumption | omega | decide +kernel) only [push_cast, ↓capI, br2_true, br2_false, frk_tt, frk_tf, frk_f, frkD_tt, frkD_tf, frkD_f, pk2_true, pk2_false, imp_true, seval, Nat.reduceLeDiff, Nat.reduceEqDiff, reduceCtorEq, ↓reduceIte, reduceCtorEq, fmN, fm0, take_N, toN1, slN_nil, encN, encC, slN, slC, cfg0, cfg31, get_flat_part lenN, get_flat_drop lenN, len_flat lenN, keys_M, get_M, del_M, os_slZ, st_slZ, rn_slZ, rn_N, rn_M, rn_C, keeps_cells, keeps_map, keeps_nil, V.rn, rns, qn, setPs, rnOs, Ob.rn, List.set_cons_zero, List.set_cons_succ, encLE, h0]
      refine endK.ret ?_ (by first | rfl | simp [bel_slZ, bel_M, fmN, fm0, belN, bel_Ns, bel_slN, belC, bel_Cs, bel_slC, bel_encLE, bel_Sp]); simp [evRes, getT, retV, Tryz.f7,  enSp, slZ]
/-- an error of the space is not 0 and leaves no space -/
theorem spaceL_bad {l : List Nd} {R : Option (List Cu) × Int} (h : spaceL l R) (h0 : R.2 ≠ 0) : R.1 = none := by
  rcases h with ⟨hc, rfl⟩ | ⟨hc, p, hp, e, rfl⟩
  · rfl
  · split at h0
    · exact absurd rfl h0
    · rename_i h1
      rw [if_neg h1]
end Go.Proofs.YtllfdnbnkncnhaaGreatDoor

/- Chapter 44: the chapter's examples. -/
set_option maxRecDepth 100000
set_option maxHeartbeats 4000000
set_option linter.all false
namespace Go.Proofs.YtllfdnbnkncnhaaGreatDoor
open Go.Vm

theorem st_N {l : List Nd} : (slN l).st = slN l := rfl
theorem os_N {g : Bool} {l : List Nd} {xs : List V} {p : Prop} : optSide g (slN l :: xs) p = optSide g xs p := rfl
def p0 : Pr := .bin (op0 5) (.leaf ⟨3, 0, 5, 255⟩) (.un (op0 4) (.leaf ⟨3, 2, 0, 12⟩))
def n0 : List Nd := flat p0
def s0 : List UInt8 := [115, 114, 99, 61, 53, 38, 33, 116, 121, 112, 101, 61, 48, 47, 49, 50]
theorem tx0 : tx p0 = s0 := by decide +kernel
theorem chk0 : checkP n0 = 0 := by decide +kernel
theorem par0 : parP s0 = (n0, 0) := by decide +kernel
theorem par1 : parP [115, 114, 99, 61, 49, 47, 50, 53, 53] = ([], 23) := by decide +kernel
theorem par2 : parP [115, 114, 99, 61, 50, 53, 54] = ([], 5) := by decide +kernel
theorem spc0 : (spc p0).2 = 0 := by decide +kernel
theorem spc0l : ((spc p0).1.getD []).length ≠ 0 := by decide +kernel
theorem ok0 : okP p0 := ⟨.inl rfl, ⟨.inr (.inr rfl), by decide +kernel⟩, rfl, .inr (.inr rfl), by decide +kernel⟩
def f1 : Fl := ⟨5, 9, 4⟩
def f2 : Fl := ⟨5, 9, 3⟩
theorem ev1 : evP f1 p0 = true := by decide +kernel
theorem ev2 : evP f2 p0 = false := by decide +kernel
theorem n0_len : n0.length = 4 := rfl
theorem fs0 : PC Tryz.prog 15 [.sl true [] 0] (.tup [slN [⟨2, 0, 0, 0⟩], .int .i64 0]) := by
  refine PC.lax ?_
  have h := pc15 [] (Nat.zero_le _) (.tup [slN [⟨2, 0, 0, 0⟩], .int .i64 0]) ⟨fun _ => rfl, fun j hj h => absurd h (by rw [Nat.le_zero.1 hj]; decide)⟩ rfl
  exact h
theorem eq_refl26 (l : List Nd) (h : l.length ≤ 4000000) : PC Tryz.prog 12 [slN l, slN l] (.bool true) :=
  pc12 l l h h true ⟨fun _ => ⟨rfl, fun _ _ _ _ => ⟨rfl, fun _ => rfl⟩⟩, fun _ => rfl⟩
theorem pc6 : PC Tryz.prog 6 [] (.bool true) := by
  have hl : n0.length ≤ 4000000 := by decide
  have e0 : (V.sl false [.int .i64 5, .int .i64 0, .int .u8 0, .int .u8 0, .int .i64 3, .int .i64 0, .int .u8 5, .int .u8 255, .int .i64 4, .int .i64 0, .int .u8 0, .int .u8 0, .int .i64 3, .int .i64 2, .int .u8 0, .int .u8 12] 4) = slN n0 := rfl
  have eM : slM n0 = slN n0 := slM_cons (by decide)
  have h20 := pc14 n0 hl s0 0 ⟨chk0.symm, .inl ⟨chk0, p0, ok0, rfl, tx0.symm⟩⟩
  have h22 := pc10 s0
  rw [par0, encMI] at h22
  simp only [eM] at h22
  have h22a := pc10 [115, 114, 99, 61, 49, 47, 50, 53, 53]
  rw [par1, encMI] at h22a
  have h22b := pc10 [115, 114, 99, 61, 50, 53, 54]
  rw [par2, encMI] at h22b
  have h18 := pc7 n0 hl _ (.inr ⟨chk0, p0, ok0, rfl, rfl⟩)
  rw [if_pos spc0, enSp] at h18
  have hz := spc0l
  have h11a := pc16 f1 n0 hl true (.inl ⟨chk0, p0, ok0, rfl, ev1.symm⟩)
  have h11b := pc16 f2 n0 hl false (.inl ⟨chk0, p0, ok0, rfl, ev2.symm⟩)
  have e1 : (V.sl false [.int .i64 2, .int .i64 0, .int .u8 0, .int .u8 0] 1) = slN [⟨2, 0, 0, 0⟩] := rfl
  have h14 := pc17 ⟨1, 2, 3⟩
  rw [show ((encf ⟨1, 2, 3⟩ : Nat) : Int) = 66051 from rfl, show encF ⟨1, 2, 3⟩ = [.int .u8 1, .int .u8 2, .int .u8 3] from rfl] at h14
  have h13 := pc18 66051 (by decide)
  rw [show encF (decf 66051) = [.int .u8 1, .int .u8 2, .int .u8 3] from by rw [show decf 66051 = ⟨1, 2, 3⟩ from by decide +kernel]; rfl, show ((66051 : Nat) : Int) = 66051 from rfl] at h13
  rw [show encF f1 = [.int .u8 5, .int .u8 9, .int .u8 4] from rfl] at h11a
  rw [show encF f2 = [.int .u8 5, .int .u8 9, .int .u8 3] from rfl] at h11b
  have h26 := eq_refl26 n0 hl
  have h26b := eq_refl26 [⟨2, 0, 0, 0⟩] (by decide)
  unfold s0 at h20 h22
  refine PC.walk tok mixed cfg0 Tryz.func6 rfl Tryz.call6 (by simp [bel_LN, belN, bel_Ns, bel_slN, bel_slM, bel_MI, bel_Sp, bel_slZ]) (by first | rfl | simp [bel_LN, belN, bel_Ns, bel_slN, bel_slM, bel_MI, bel_Sp, bel_slZ]) ?_; simp (config := { maxSteps := 2000000 }) -implicitDefEqProofs +contextual (disch := first | assumption | omega | decide +kernel) only [push_cast, ↓capI, br2_true, br2_false, frk_tt, frk_tf, frk_f, frkD_tt, frkD_tf, frkD_f, pk2_true, pk2_false, imp_true, seval, Nat.reduceLeDiff, Nat.reduceEqDiff, reduceCtorEq, ↓reduceIte, reduceCtorEq, cfg0, st_N, os_N, st_slZ, os_slZ, st_M, os_M, slM_nil, Tryz.ntmps6]
  simp (config := { maxSteps := 2000000 }) -implicitDefEqProofs +contextual (disch := first | assumption | omega | decide +kernel) only [push_cast, ↓capI, br2_true, br2_false, frk_tt, frk_tf, frk_f, frkD_tt, frkD_tf, frkD_f, pk2_true, pk2_false, imp_true, seval, Nat.reduceLeDiff, Nat.reduceEqDiff, reduceCtorEq, ↓reduceIte, reduceCtorEq, cfg0, st_N, os_N, st_slZ, os_slZ, st_M, os_M, slM_nil, e0]
  refine callO.pc h20 ?_
  simp (config := { maxSteps := 2000000 }) -implicitDefEqProofs +contextual (disch := first | assumption | omega | decide +kernel) only [push_cast, ↓capI, br2_true, br2_false, frk_tt, frk_tf, frk_f, frkD_tt, frkD_tf, frkD_f, pk2_true, pk2_false, imp_true, seval, Nat.reduceLeDiff, Nat.reduceEqDiff, reduceCtorEq, ↓reduceIte, reduceCtorEq, cfg0, st_N, os_N, st_slZ, os_slZ, st_M, os_M, slM_nil]
  refine callO.pc h22 ?_
  simp (config := { maxSteps := 2000000 }) -implicitDefEqProofs +contextual (disch := first | assumption | omega | decide +kernel) only [push_cast, ↓capI, br2_true, br2_false, frk_tt, frk_tf, frk_f, frkD_tt, frkD_tf, frkD_f, pk2_true, pk2_false, imp_true, seval, Nat.reduceLeDiff, Nat.reduceEqDiff, reduceCtorEq, ↓reduceIte, reduceCtorEq, cfg0, st_N, os_N, st_slZ, os_slZ, st_M, os_M, slM_nil]
  refine callO.pc h22a ?_
  simp (config := { maxSteps := 2000000 }) -implicitDefEqProofs +contextual (disch := first | assumption | omega | decide +kernel) only [push_cast, ↓capI, br2_true, br2_false, frk_tt, frk_tf, frk_f, frkD_tt, frkD_tf, frkD_f, pk2_true, pk2_false, imp_true, seval, Nat.reduceLeDiff, Nat.reduceEqDiff, reduceCtorEq, ↓reduceIte, reduceCtorEq, cfg0, st_N, os_N, st_slZ, os_slZ, st_M, os_M, slM_nil]
  refine callO.pc h22b ?_
  simp (config := { maxSteps := 2000000 }) -implicitDefEqProofs +contextual (disch := first | assumption | omega | decide +kernel) only [push_cast, ↓capI, br2_true, br2_false, frk_tt, frk_tf, frk_f, frkD_tt, frkD_tf, frkD_f, pk2_true, pk2_false, imp_true, seval, Nat.reduceLeDiff, Nat.reduceEqDiff, reduceCtorEq, ↓reduceIte, reduceCtorEq, cfg0, st_N, os_N, st_slZ, os_slZ, st_M, os_M, slM_nil]
  refine callO.pc fs0 ?_
  simp (config := { maxSteps := 2000000 }) -implicitDefEqProofs +contextual (disch := first | assumption | omega | decide +kernel) only [push_cast, ↓capI, br2_true, br2_false, frk_tt, frk_tf, frk_f, frkD_tt, frkD_tf, frkD_f, pk2_true, pk2_false, imp_true, seval, Nat.reduceLeDiff, Nat.reduceEqDiff, reduceCtorEq, ↓reduceIte, reduceCtorEq, cfg0, st_N, os_N, st_slZ, os_slZ, st_M, os_M, slM_nil]
  refine callO.pc h18 ?_
  cases hs : (spc p0).1 with
  | none => rw [hs] at hz; exact absurd rfl hz
  | some z =>
  have hz2 : (0 : Int) < z.length := by rw [hs] at hz; simp only [Option.getD_some] at hz; omega
  simp (config := { maxSteps := 2000000 }) -implicitDefEqProofs +contextual (disch := first | assumption | omega | decide +kernel) only [push_cast, ↓capI, br2_true, br2_false, frk_tt, frk_tf, frk_f, frkD_tt, frkD_tf, frkD_f, pk2_true, pk2_false, imp_true, seval, Nat.reduceLeDiff, Nat.reduceEqDiff, reduceCtorEq, ↓reduceIte, reduceCtorEq, cfg0, st_N, os_N, st_slZ, os_slZ, st_M, os_M, slM_nil, slZ, slC]
  refine callO.pc h26 ?_
  simp (config := { maxSteps := 2000000 }) -implicitDefEqProofs +contextual (disch := first | assumption | omega | decide +kernel) only [push_cast, ↓capI, br2_true, br2_false, frk_tt, frk_tf, frk_f, frkD_tt, frkD_tf, frkD_f, pk2_true, pk2_false, imp_true, seval, Nat.reduceLeDiff, Nat.reduceEqDiff, reduceCtorEq, ↓reduceIte, reduceCtorEq, cfg0, st_N, os_N, st_slZ, os_slZ, st_M, os_M, slM_nil, e1]
  refine callO.pc h26b ?_
  simp (config := { maxSteps := 2000000 }) -implicitDefEqProofs +contextual (disch := first | assumption | omega | decide +kernel) only [push_cast, ↓capI, br2_true, br2_false, frk_tt, frk_tf, frk_f, frkD_tt, frkD_tf, frkD_f, pk2_true, pk2_false, imp_true, seval, Nat.reduceLeDiff, Nat.reduceEqDiff, reduceCtorEq, ↓reduceIte, reduceCtorEq, cfg0, st_N, os_N, st_slZ, os_slZ, st_M, os_M, slM_nil, hz2]
  refine callO.pc h11a ?_
  simp (config := { maxSteps := 2000000 }) -implicitDefEqProofs +contextual (disch := first | assumption | omega | decide +kernel) only [push_cast, ↓capI, br2_true, br2_false, frk_tt, frk_tf, frk_f, frkD_tt, frkD_tf, frkD_f, pk2_true, pk2_false, imp_true, seval, Nat.reduceLeDiff, Nat.reduceEqDiff, reduceCtorEq, ↓reduceIte, reduceCtorEq, cfg0, st_N, os_N, st_slZ, os_slZ, st_M, os_M, slM_nil]
  refine callO.pc h11b ?_
  simp (config := { maxSteps := 2000000 }) -implicitDefEqProofs +contextual (disch := first | assumption | omega | decide +kernel) only [push_cast, ↓capI, br2_true, br2_false, frk_tt, frk_tf, frk_f, frkD_tt, frkD_tf, frkD_f, pk2_true, pk2_false, imp_true, seval, Nat.reduceLeDiff, Nat.reduceEqDiff, reduceCtorEq, ↓reduceIte, reduceCtorEq, cfg0, st_N, os_N, st_slZ, os_slZ, st_M, os_M, slM_nil]
  refine callO.pc h14 ?_
  simp (config := { maxSteps := 2000000 }) -implicitDefEqProofs +contextual (disch := first | assumption | omega | decide +kernel) only [push_cast, ↓capI, br2_true, br2_false, frk_tt, frk_tf, frk_f, frkD_tt, frkD_tf, frkD_f, pk2_true, pk2_false, imp_true, seval, Nat.reduceLeDiff, Nat.reduceEqDiff, reduceCtorEq, ↓reduceIte, reduceCtorEq, cfg0, st_N, os_N, st_slZ, os_slZ, st_M, os_M, slM_nil]
  refine callO.pc h13 ?_
  simp (config := { maxSteps := 2000000 }) -implicitDefEqProofs +contextual (disch := first | assumption | omega | decide +kernel) only [push_cast, ↓capI, br2_true, br2_false, frk_tt, frk_tf, frk_f, frkD_tt, frkD_tf, frkD_f, pk2_true, pk2_false, imp_true, seval, Nat.reduceLeDiff, Nat.reduceEqDiff, reduceCtorEq, ↓reduceIte, reduceCtorEq, cfg0, st_N, os_N, st_slZ, os_slZ, st_M, os_M, slM_nil]
  refine endK.ret ?_ (by first | rfl | simp [bel_LN, belN, bel_Ns, bel_slN, bel_slM, bel_MI, bel_Sp, bel_slZ]); simp [evRes, getT, retV, Tryz.f6]
end Go.Proofs.YtllfdnbnkncnhaaGreatDoor

/- Chapter 44: the arguments of the laws as plain data; from a contract to a statement. -/
set_option maxRecDepth 100000
set_option maxHeartbeats 4000000
set_option linter.all false
namespace Go.Proofs.YtllfdnbnkncnhaaGreatDoor
open Go.Vm Go.ChangeShapes Go.WideShapes Go.ChangeAt Go.RowKit

theorem own : ownKnob Tryz.prog.godebug = none := by kernel_rfl
theorem laidOut : laidOutB Tryz.prog = true := by kernel_rfl
theorem u64_word {i : Int} (h1 : IntKind.u64.min ≤ i) (h2 : i ≤ IntKind.u64.max) : ∃ x : W64, i = (x.toNat : Int) := by
  have e1 : (0 : Int) ≤ i := h1
  have e2 : i ≤ 18446744073709551615 := h2
  refine ⟨BitVec.ofNat 64 i.toNat, ?_⟩
  rw [BitVec.toNat_ofNat, Nat.mod_eq_of_lt (by omega)]
  omega
theorem u8_byte {i : Int} (h1 : IntKind.u8.min ≤ i) (h2 : i ≤ IntKind.u8.max) : ∃ x : UInt8, i = (x.toNat : Int) := by
  have e1 : (0 : Int) ≤ i := h1
  have e2 : i ≤ 255 := h2
  refine ⟨UInt8.ofNat i.toNat, ?_⟩
  rw [UInt8.toNat_ofNat', Nat.mod_eq_of_lt (by omega)]
  omega
theorem typ_U {m : Nat} (c : List V) (h : Typ tt (m + 1) 43 c) : ∃ x : W64, laxs c = [.int .u64 x.toNat] ∧ True := by
  obtain ⟨a, rfl, h1, h2⟩ := typ_int (by rw [tt_43]) h
  obtain ⟨x, rfl⟩ := u64_word h1 h2
  exact ⟨x, rfl, trivial⟩
theorem typ_B {m : Nat} (c : List V) (h : Typ tt (m + 1) 5 c) : ∃ x : UInt8, laxs c = [.int .u8 x.toNat] ∧ True := by
  obtain ⟨a, rfl, h1, h2⟩ := typ_int (by rw [tt_5]) h
  obtain ⟨x, rfl⟩ := u8_byte h1 h2
  exact ⟨x, rfl, trivial⟩
theorem typ_I {m : Nat} (c : List V) (h : Typ tt (m + 1) 3 c) : ∃ x : Int, laxs c = [.int .i64 x] ∧ True := by
  obtain ⟨a, rfl, _⟩ := typ_int (by rw [tt_3]) h
  exact ⟨a, rfl, trivial⟩
theorem typ_C {m : Nat} (c : List V) (h : Typ tt (m + 2) 56 c) : ∃ x : Cu, laxs c = encC x ∧ True := by
  have h := typ_struct (by rw [tt_56]) h
  obtain ⟨c1, r1, rfl, h1, h⟩ := typF_cons h
  obtain ⟨c2, r2, rfl, h2, h⟩ := typF_cons h
  obtain rfl := typF_nil h
  obtain ⟨a, ha, _⟩ := typ_U _ h1
  obtain ⟨b, hb, _⟩ := typ_U _ h2
  refine ⟨⟨a, b⟩, ?_, trivial⟩
  rw [laxs_append, laxs_append, ha, hb]
  rfl
theorem typ_N {m : Nat} (c : List V) (h : Typ tt (m + 2) 36 c) : ∃ x : Nd, laxs c = encN x ∧ True := by
  have h := typ_struct (by rw [tt_36]) h
  obtain ⟨c1, r1, rfl, h1, h⟩ := typF_cons h
  obtain ⟨c2, r2, rfl, h2, h⟩ := typF_cons h
  obtain ⟨c3, r3, rfl, h3, h⟩ := typF_cons h
  obtain ⟨c4, r4, rfl, h4, h⟩ := typF_cons h
  obtain rfl := typF_nil h
  obtain ⟨a, ha, _⟩ := typ_I _ h1
  obtain ⟨b, hb, _⟩ := typ_I _ h2
  obtain ⟨v, hv, _⟩ := typ_B _ h3
  obtain ⟨w, hw, _⟩ := typ_B _ h4
  refine ⟨⟨a, b, v, w⟩, ?_, trivial⟩
  rw [laxs_append, laxs_append, laxs_append, laxs_append, ha, hb, hv, hw]
  rfl
theorem typ_F {m : Nat} (c : List V) (h : Typ tt (m + 2) 42 c) : ∃ x : Fl, laxs c = encF x ∧ True := by
  have h := typ_struct (by rw [tt_42]) h
  obtain ⟨c1, r1, rfl, h1, h⟩ := typF_cons h
  obtain ⟨c2, r2, rfl, h2, h⟩ := typF_cons h
  obtain ⟨c3, r3, rfl, h3, h⟩ := typF_cons h
  obtain rfl := typF_nil h
  obtain ⟨a, ha, _⟩ := typ_B _ h1
  obtain ⟨b, hb, _⟩ := typ_B _ h2
  obtain ⟨v, hv, _⟩ := typ_B _ h3
  refine ⟨⟨a, b, v⟩, ?_, trivial⟩
  rw [laxs_append, laxs_append, laxs_append, ha, hb, hv]
  rfl
theorem mk_F {c : List V} : mkV (tt 42) c = .agg c := by rw [tt_42]; rfl
theorem laxs_one {cs : List V} {y : V} (h : laxs cs = [y]) : ∃ x, cs = [x] ∧ lax x = y := by
  match cs, h with
  | [], h => cases h
  | [x], h => simp only [laxs, List.cons.injEq, and_true] at h; exact ⟨x, rfl, h⟩
  | x :: y :: r, h => simp [laxs] at h
theorem typ_slN {m : Nat} {c : List V} (h : Typ tt (m + 3) 22 c) : ∃ l : List Nd, lax (mkV (tt 22) c) = slN l := by
  obtain ⟨l, hl, _, _⟩ := typ_slice (by rw [tt_22]) typ_N h
  obtain ⟨x, rfl, hx⟩ := laxs_one hl
  refine ⟨l, ?_⟩
  rw [tt_22]
  exact hx
theorem typ_slC {m : Nat} {c : List V} (h : Typ tt (m + 3) 25 c) : ∃ l : List Cu, lax (mkV (tt 25) c) = slC l := by
  obtain ⟨l, hl, _, _⟩ := typ_slice (by rw [tt_25]) typ_C h
  obtain ⟨x, rfl, hx⟩ := laxs_one hl
  refine ⟨l, ?_⟩
  rw [tt_25]
  exact hx
theorem typ_S {m : Nat} {c : List V} (h : Typ tt (m + 1) 9 c) : ∃ s : List UInt8, lax (mkV (tt 9) c) = .str s := by
  obtain ⟨s, rfl, _⟩ := typ_str (by rw [tt_9]) h
  exact ⟨s, by rw [tt_9]; rfl⟩
theorem typ_W {m : Nat} {c : List V} (h : Typ tt (m + 1) 43 c) : ∃ x : W64, lax (mkV (tt 43) c) = .int .u64 x.toNat := by
  obtain ⟨a, rfl, h1, h2⟩ := typ_int (by rw [tt_43]) h
  obtain ⟨x, rfl⟩ := u64_word h1 h2
  exact ⟨x, by rw [tt_43]; rfl⟩
theorem spec_one {s : ChangeSpec} {H : Type} (h : s.fn H = fun | [d] => { results := [.lit (.bool true)], args := [d] } | _ => Rows.none) (ds : List (DataW H)) (hl : ds.length = 1) :
    s.fn H ds = { results := [.lit (.bool true)], args := ds } := by
  rw [h]
  match ds, hl with
  | [d], _ => rfl
theorem spec_two {s : ChangeSpec} {H : Type} (h : s.fn H = fun | [d, e] => { results := [.lit (.bool true)], args := [d, e] } | _ => Rows.none) (ds : List (DataW H)) (hl : ds.length = 2) :
    s.fn H ds = { results := [.lit (.bool true)], args := ds } := by
  rw [h]
  match ds, hl with
  | [d, e], _ => rfl
end Go.Proofs.YtllfdnbnkncnhaaGreatDoor

/- Chapter 44: the listed package-level variables; from a contract to a given statement. -/
set_option maxRecDepth 100000
set_option maxHeartbeats 4000000
set_option linter.all false
namespace Go.Proofs.YtllfdnbnkncnhaaGreatDoor
open Go Go.Vm Go.ChangeShapes Go.WideShapes Go.ChangeAt Go.RowKit

abbrev LL : List (String × DataW Unit) := Rows.predicateParsesRow.laid
theorem gPow : Tryz.prog.globalNamed "internal/strconv.uint64pow10" = some 0 := by kernel_rfl
theorem tPow : (Tryz.prog.globals[0]?).map (·.type) = some 136 := by kernel_rfl
theorem gFirst : Tryz.prog.globalNamed "unicode/utf8.first" = some 3 := by kernel_rfl
theorem gt_of_laid {W : World} (h : laidMetH Tryz.prog LL W) : GT (fun _ => False) W := by
  rw [MakeChecks.laidMetH_plain _ _ _ (by kernel_rfl)] at h
  obtain ⟨g', t', cs, fuel, p, hg', ht', hvar, hd⟩ := Lib.laidMet.reads h (n := "internal/strconv.uint64pow10") (d := Rows.laid_internal_strconv_uint64pow10) (by simp [LL, Rows.predicateParsesRow])
  obtain rfl := Option.some.inj (gPow.symm.trans hg')
  obtain rfl := Option.some.inj (tPow.symm.trans ht')
  have hc := Lib.cells_of_tab (k := .u64) (zs := [1, 10, 100, 1000, 10000, 100000, 1000000, 10000000, 100000000, 1000000000, 10000000000, 100000000000, 1000000000000, 10000000000000, 100000000000000, 1000000000000000, 10000000000000000, 100000000000000000, 1000000000000000000, 10000000000000000000])
    (show Tryz.prog.underlying 136 = some (.array 20 43) by kernel_rfl) (show Tryz.prog.underlying 43 = some (.int .u64) by kernel_rfl) (by kernel_rfl) (by kernel_rfl) hd
  have hcell := World.var?_cell hg' hvar
  intro g l hgl
  have h0 : g = 0 ∧ l = [(.u64, 1), (.u64, 10), (.u64, 100), (.u64, 1000), (.u64, 10000), (.u64, 100000), (.u64, 1000000), (.u64, 10000000), (.u64, 100000000), (.u64, 1000000000), (.u64, 10000000000), (.u64, 100000000000), (.u64, 1000000000000), (.u64, 10000000000000), (.u64, 100000000000000), (.u64, 1000000000000000), (.u64, 10000000000000000), (.u64, 100000000000000000), (.u64, 1000000000000000000), (.u64, 10000000000000000000)] := by
    match g, hgl with
    | 0, hgl => rw [gl0] at hgl; exact ⟨rfl, (Option.some.inj hgl).symm⟩
    | g + 1, hgl => cases hgl
  obtain ⟨rfl, rfl⟩ := h0
  have hcs : CellsAt W 0 0 cs.toList := by
    intro i v hv
    rw [Nat.zero_add, hcell i, ← hv, Array.getElem?_toList]
  refine ⟨?_, fun h => h, ?_⟩
  · have h1 := hcell 0
    have h2 : cs[0]? = some (.int .u64 1) := by rw [← Array.getElem?_toList, hc]; rfl
    rw [h2] at h1
    apply Decidable.byContradiction
    intro hn
    unfold World.cell? at h1
    rw [Array.getElem?_eq_none (by omega)] at h1
    cases h1
  · rw [hc] at hcs
    exact hcs
noncomputable def laidWorld (os : Os) : World :=
  { World.doorLaid Tryz.prog 34 os with heap := (World.doorLaid Tryz.prog 34 os).heap.modify 3 fun
      | .cells _ t frozen => .cells (Pinned.utf8FirstZ.map fun (n : Nat) => Value.int .u8 n).toArray t frozen
      | o => o }
theorem door_met (os : Os) (args : Array Value) : laidMetH Tryz.prog LL ((laidWorld os).forCall (fun _ _ => 0) ⟨#[], args, []⟩).memory :=
  laidMetH_of_parts3 (fuel := 8) (laidMet_of_run' 8 (by kernel_rfl) (by kernel_rfl)) (by kernel_rfl) (by kernel_rfl)
end Go.Proofs.YtllfdnbnkncnhaaGreatDoor


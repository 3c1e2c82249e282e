/-
  Joined by a program from the texts Sp Sp2 Sp3 Mns Wk Law Fsp L34 L5 L6 L7 Lift.
-/
import Derived.Test.YtllfdnbnkncnhaaDoorMc
import Derived.Test.YtllfdnbnkncnhaaDoorMa
import Derived.Test.YtllfdnbnkncnhaaDoorMb
import Derived.Test.YtllfdnbnkncnhaaDoorMd
import Derived.Test.YtllfdnbnkncnhaaDoorRows
import Derived.Test.YtllfdnbnkncnhaaDoorVm7
import Derived.Lib.LaidTab
import Derived.Lib.LaidU8
import Derived.LaidMore
import Derived.Stop.Joined
/- Chapter 44: the space of a predicate, by the program. -/
set_option maxRecDepth 100000
set_option maxHeartbeats 4000000
set_option linter.all false
namespace Go.Proofs.YtllfdnbnkncnhaaDoor
open Go.Vm

def enM (M : List (Nat × List Cu)) : List (V × V) := M.map fun p => (.int .i64 p.1, slC p.2)
def getM (a : Nat) : List (Nat × List Cu) → Option (List Cu)
  | [] => none
  | p :: r => if a = p.1 then some p.2 else getM a r
def delM (a : Nat) : List (Nat × List Cu) → List (Nat × List Cu)
  | [] => []
  | p :: r => if a = p.1 then r else p :: delM a r
def slZ : Option (List Cu) → V
  | none => .sl true [] 0
  | some l => slC l
theorem bel_slZ {n : Nat} {o : Option (List Cu)} : (slZ o).bel n = true := by
  cases o
  · rfl
  · exact bel_slC _
theorem bel_M {n : Nat} (M : List (Nat × List Cu)) : (Ob.map (enM M)).bel n = true := by
  simp only [Ob.bel, Bool.and_eq_true]
  induction M with
  | nil => exact ⟨rfl, rfl⟩
  | cons p r ih =>
    simp only [enM, List.map_cons, belAll_cons, Bool.and_eq_true] at ih ⊢
    exact ⟨⟨rfl, ih.1⟩, bel_slC _, ih.2⟩
theorem os_slZ {g : Bool} {o : Option (List Cu)} {xs : List V} {p : Prop} : optSide g (slZ o :: xs) p = optSide g xs p := by cases o <;> rfl
theorem st_slZ {o : Option (List Cu)} : (slZ o).st = slZ o := by cases o <;> rfl
theorem rn_flat {α : Type} {f : α → List V} {q : Nat → Nat} (h : ∀ x, rns q (f x) = f x) : ∀ l : List α, rns q (l.flatMap f) = l.flatMap f
  | [] => rfl
  | x :: l => by rw [List.flatMap_cons, rns_map, List.map_append, ← rns_map, ← rns_map, h, rn_flat h l]
theorem rn_C {q : Nat → Nat} (l : List Cu) : rns q (l.flatMap encC) = l.flatMap encC := rn_flat (fun _ => rfl) l
theorem rn_N {q : Nat → Nat} (l : List Nd) : rns q (l.flatMap encN) = l.flatMap encN := rn_flat (fun _ => rfl) l
theorem rn_slZ {q : Nat → Nat} {o : Option (List Cu)} : (slZ o).rn q = slZ o := by
  cases o
  · rfl
  · rw [slZ, slC, V.rn, rn_C]
theorem rn_M {q : Nat → Nat} (M : List (Nat × List Cu)) : (enM M).map (fun e => (e.1.rn q, e.2.rn q)) = enM M := by
  rw [enM, List.map_map]
  apply List.map_congr_left
  intro p _
  simp only [Function.comp, V.rn, slC, rn_C]
theorem keys_M : ∀ M : List (Nat × List Cu), mKeys .i64 (enM M) = true
  | [] => rfl
  | p :: r => keys_M r
theorem get_M (a : Nat) : ∀ M : List (Nat × List Cu), mGet (.sl true [] 0) (a : Int) (enM M) = slZ (getM a M)
  | [] => rfl
  | p :: r => by
    show (if (a : Int) = p.1 then slC p.2 else mGet (.sl true [] 0) (a : Int) (enM r)) = _
    rw [getM]
    by_cases h : a = p.1
    · rw [if_pos (by omega), if_pos h]; rfl
    · rw [if_neg (by omega), if_neg h, get_M a r]
theorem del_M (a : Nat) : ∀ M : List (Nat × List Cu), mDel (a : Int) (enM M) = enM (delM a M)
  | [] => rfl
  | p :: r => by
    show (if (a : Int) = p.1 then enM r else (.int .i64 p.1, slC p.2) :: mDel (a : Int) (enM r)) = _
    rw [delM]
    by_cases h : a = p.1
    · rw [if_pos (by omega), if_pos h]
    · rw [if_neg (by omega), if_neg h, del_M a r]; rfl
theorem put_M (a : Nat) (l : List Cu) : ∀ {M : List (Nat × List Cu)}, getM a M = none → mPut .i64 (a : Int) (slC l) (enM M) = enM (M ++ [(a, l)])
  | [], _ => rfl
  | p :: r, h => by
    rw [getM] at h
    by_cases e : a = p.1
    · rw [if_pos e] at h; cases h
    · rw [if_neg e] at h
      show (if (a : Int) = p.1 then _ else (V.int .i64 p.1, slC p.2) :: mPut .i64 (a : Int) (slC l) (enM r)) = _
      rw [if_neg (by omega), put_M a l h]
      rfl
theorem getM_lt {a : Nat} {N : List (Nat × List Cu)} : ∀ {M : List (Nat × List Cu)}, (∀ q, q ∈ M → q.1 < a) → getM a (M ++ N) = getM a N ∧ delM a (M ++ N) = M ++ delM a N
  | [], _ => ⟨rfl, rfl⟩
  | p :: r, h => by
    have h1 := h p (List.mem_cons_self ..)
    obtain ⟨g1, g2⟩ := getM_lt (M := r) (N := N) fun q hq => h q (List.mem_cons_of_mem _ hq)
    rw [List.cons_append, getM, delM, if_neg (by omega), if_neg (by omega), g1, g2]
    exact ⟨rfl, rfl⟩
def ent (a : Nat) : Option (List Cu) → List (Nat × List Cu)
  | none => []
  | some l => [(a, l)]
theorem getM_ent (a : Nat) (A : Option (List Cu)) : getM a (ent a A) = A ∧ delM a (ent a A) = [] := by
  cases A
  · exact ⟨rfl, rfl⟩
  · simp [ent, getM, delM]
theorem getM_ent2 {a s : Nat} (h : a ≠ s) (A B : Option (List Cu)) : getM a (ent a A ++ ent s B) = A ∧ delM a (ent a A ++ ent s B) = ent s B := by
  cases A <;> cases B <;> simp [ent, getM, delM, h]
theorem keeps_cells {H H' : List Ob} {v : Nat} {l : List V} : Keeps (.cells v l :: H) (.cells v l :: H') = Keeps H H' := by
  apply propext
  constructor
  · intro h i
    exact h (i + 1)
  · intro h i
    cases i with
    | zero => exact fun _ _ h => h
    | succ i => exact h i
theorem keeps_map {H H' : List Ob} {e e' : List (V × V)} : Keeps (.map e :: H) (.map e' :: H') = Keeps H H' := by
  apply propext
  constructor
  · intro h i
    exact h (i + 1)
  · intro h i
    cases i with
    | zero => intro _ _ h; cases h
    | succ i => exact h i
theorem keeps_nil : Keeps [] [] = True := propext ⟨fun _ => trivial, fun _ => Keeps.refl _⟩
theorem lax_C (l : List Cu) : lax (slC l) = slC l := by
  rw [slC, Go.Vm.lax]
  congr 1
  induction l with
  | nil => rfl
  | cons x l ih => rw [List.flatMap_cons, laxs_append, ih]; rfl
theorem lax_Z (o : Option (List Cu)) : lax (slZ o) = slC (o.getD []) := by
  cases o
  · rfl
  · exact lax_C _
theorem pc45z (o : Option (List Cu)) (h : (o.getD []).length ≤ 1000000) : PC Tryd.prog 45 [slZ o, .int .i64 24] (encLE (compl8 (o.getD []) 24)) := by
  refine PC.lax ?_
  rw [laxs, lax_Z]
  exact pc45 _ 24 h
theorem pc46z (o u : Option (List Cu)) (h : (o.getD []).length ≤ 1000000) (h2 : (u.getD []).length ≤ 1000000) : PC Tryd.prog 46 [slZ o, slZ u] (encLE (inter8 (o.getD []) (u.getD []))) := by
  refine PC.lax ?_
  rw [laxs, laxs, lax_Z, lax_Z]
  exact pc46 _ _ h h2
theorem pc47z (o u : Option (List Cu)) (h : (o.getD []).length ≤ 1000000) (h2 : (u.getD []).length ≤ 1000000) : PC Tryd.prog 47 [slZ o, slZ u] (encLE (fin8 (o.getD [] ++ u.getD []))) := by
  refine PC.lax ?_
  rw [laxs, laxs, lax_Z, lax_Z]
  exact pc47 _ _ h h2
def cfg31 : Cfg := ⟨[], [84], [], [84]⟩
def hpS (l : List Nd) (M : List (Nat × List Cu)) : List Ob := [.cells 0 [slN l, .mp 1], .map (enM M)]
theorem pg32 (l : List Nd) (M : List (Nat × List Cu)) (a : Nat) : GCall Tryd.prog 32 [.ptr 0 0 0, .int .i64 a] (hpS l M) (slZ (getM a M)) (hpS l (delM a M)) := by
  unfold hpS
  refine GC.walk tok mixed cfg0 Tryd.func32 rfl Tryd.call32 ?_; simp (config := { maxSteps := 2000000 }) -implicitDefEqProofs +contextual (disch := first | assumption | omega | decide +kernel) only [push_cast, ↓capI, br2_true, br2_false, frk_tt, frk_tf, frk_f, frkD_tt, frkD_tf, frkD_f, pk2_true, pk2_false, imp_true, seval, Nat.reduceLeDiff, Nat.reduceEqDiff, reduceCtorEq, ↓reduceIte, reduceCtorEq, fmN, fm0, take_N, toN1, slN_nil, encN, encC, slN, slC, cfg0, cfg31, get_flat_part lenN, get_flat_drop lenN, len_flat lenN, keys_M, get_M, del_M, os_slZ, st_slZ, rn_slZ, rn_N, rn_M, rn_C, keeps_cells, keeps_map, keeps_nil, V.rn, rns, qn, setPs, rnOs, Ob.rn, List.set_cons_zero, List.set_cons_succ, encLE, Tryd.ntmps32]
  refine endG.ret ([]) (by first | rfl | simp [bel_slZ, bel_M, fmN, fm0, belN, bel_Ns, bel_slN, belC, bel_Cs, bel_slC, bel_encLE, fzs_ok, getO, setO, fzs, fz, fzH, Nat.beq, fmN, fm0, take_N, toN1, slN_nil, tt_3, tt_4, tt_5, tt_9, tt_22, tt_24, tt_26, tt_29, tt_34, tt_46, tt_49, tt_57, tt_58, tt_60, tt_65, encN, encC, slN, slC, cfg0, cfg31, get_flat_part lenN, get_flat_drop lenN, len_flat lenN, keys_M, get_M, del_M, os_slZ, st_slZ, rn_slZ, rn_N, rn_M, rn_C, keeps_cells, keeps_map, keeps_nil, V.rn, rns, qn, setPs, rnOs, Ob.rn, List.set_cons_zero, List.set_cons_succ, encLE]) (by simp) (by simp [bel_slZ, bel_M, fmN, fm0, belN, bel_Ns, bel_slN, belC, bel_Cs, bel_slC, bel_encLE, fzs_ok, imp, lenOK_iff, List.take_of_length_le, evRes, getT, getO, setO, fzs, fz, fzH, Nat.beq, retV, Res.then, ldT, ldR, mkV, getV, fmN, fm0, take_N, toN1, slN_nil, tt_3, tt_4, tt_5, tt_9, tt_22, tt_24, tt_26, tt_29, tt_34, tt_46, tt_49, tt_57, tt_58, tt_60, tt_65, encN, encC, slN, slC, cfg0, cfg31, get_flat_part lenN, get_flat_drop lenN, len_flat lenN, keys_M, get_M, del_M, os_slZ, st_slZ, rn_slZ, rn_N, rn_M, rn_C, keeps_cells, keeps_map, keeps_nil, V.rn, rns, qn, setPs, rnOs, Ob.rn, List.set_cons_zero, List.set_cons_succ, encLE, Tryd.f32]) (by first | rfl | simp [bel_slZ, bel_M, fmN, fm0, belN, bel_Ns, bel_slN, belC, bel_Cs, bel_slC, bel_encLE]) (by first | rfl | simp [bel_slZ, bel_M, fmN, fm0, belN, bel_Ns, bel_slN, belC, bel_Cs, bel_slC, bel_encLE])
def place8 (v : UInt8) (i : Int) : W64 := BitVec.ofNat 64 v.toNat <<< (8 * (2 - i)).toNat
theorem shl_place (v : UInt8) (i : Int) (h : 0 ≤ i ∧ i ≤ 2) : ishl .u64 (v.toNat : Int) (8 * (2 - i)) = ((place8 v i).toNat : Int) := by
  have hv := v.toNat_lt
  have h2 : 8 * (2 - i) = ((8 * (2 - i)).toNat : Int) := by omega
  rw [place8, wN (n := v.toNat) (by omega), h2, w_shl]
  rfl
def cubeN (x : Nd) : Cu := ⟨place8 x.v x.fd, place8 x.m x.fd⟩
/-- the space of a predicate, none where the program stores none; the error -/
def spc : Pr → Option (List Cu) × Int
  | .leaf x => (if x.op = 1 then some [⟨0#64, 0#64⟩] else if x.op = 2 then none else some [cubeN x], 0)
  | .un _ p => if (spc p).2 ≠ 0 then (none, (spc p).2) else
      if (compl8 ((spc p).1.getD []) 24).2 ≠ 0 then (none, (compl8 ((spc p).1.getD []) 24).2) else (some (compl8 ((spc p).1.getD []) 24).1, 0)
  | .bin x p q => if (spc p).2 ≠ 0 then (none, (spc p).2) else if (spc q).2 ≠ 0 then (none, (spc q).2) else
      if x.op = 5 then (if (inter8 ((spc p).1.getD []) ((spc q).1.getD [])).2 ≠ 0 then (none, (inter8 ((spc p).1.getD []) ((spc q).1.getD [])).2) else (some (inter8 ((spc p).1.getD []) ((spc q).1.getD [])).1, 0))
      else (if (fin8 ((spc p).1.getD [] ++ (spc q).1.getD [])).2 ≠ 0 then (none, (fin8 ((spc p).1.getD [] ++ (spc q).1.getD [])).2) else (some (fin8 ((spc p).1.getD [] ++ (spc q).1.getD [])).1, 0))
theorem fin8_len (l : List Cu) : (fin8 l).1.length ≤ 1024 := by
  unfold fin8
  split
  · exact Nat.zero_le _
  · simp only
    omega
theorem interGo_len (b : List Cu) : ∀ (xs out : List Cu), out.length ≤ 1024 → (interGo b xs out).1.length ≤ 1024
  | [], out, h => h
  | x :: xs, out, h => by
    rw [interGo]
    split
    · exact Nat.zero_le _
    · exact interGo_len b xs _ (by omega)
theorem inter8_len (a b : List Cu) : (inter8 a b).1.length ≤ 1024 := interGo_len b a [] (Nat.zero_le _)
theorem subt8Go_len (k : Nat) : ∀ (ys l : List Cu), l.length ≤ 1024 → (subt8Go k ys l).1.length ≤ 1024
  | [], l, h => h
  | y :: ys, l, h => by
    rw [subt8Go]
    split
    · exact Nat.zero_le _
    · exact subt8Go_len k ys _ (by omega)
theorem compl8_len (b : List Cu) : (compl8 b 24).1.length ≤ 1024 := by
  unfold compl8 subt8
  split
  · split
    · exact Nat.zero_le _
    · exact subt8Go_len _ _ _ (by omega)
  · exact Nat.zero_le _
theorem spc_len : ∀ p, ((spc p).1.getD []).length ≤ 1024
  | .leaf x => by
    rw [spc]
    simp only
    split
    · decide
    split <;> exact Nat.le_trans (by simp) (by decide : 1 ≤ 1024)
  | .un x p => by
    rw [spc]
    split
    · exact Nat.zero_le _
    split
    · exact Nat.zero_le _
    · exact compl8_len _
  | .bin x p q => by
    rw [spc]
    split
    · exact Nat.zero_le _
    split
    · exact Nat.zero_le _
    split
    · split
      · exact Nat.zero_le _
      · exact inter8_len _ _
    · split
      · exact Nat.zero_le _
      · exact fin8_len _
theorem lt_app {M : List (Nat × List Cu)} {a : Nat} {A : Option (List Cu)} (h : ∀ q, q ∈ M → q.1 < a) : ∀ q, q ∈ M ++ ent (a + 1) A → q.1 ≠ a := by
  intro q hq
  rw [List.mem_append] at hq
  rcases hq with hq | hq
  · have := h q hq; omega
  · cases A with
    | none => simp [ent] at hq
    | some l =>
      simp [ent] at hq
      rw [hq]
      simp
theorem getM_none {a : Nat} : ∀ {M : List (Nat × List Cu)}, (∀ q, q ∈ M → q.1 < a) → getM a M = none
  | [], _ => rfl
  | p :: r, h => by
    have := h p (List.mem_cons_self ..)
    rw [getM, if_neg (by omega)]
    exact getM_none fun q hq => h q (List.mem_cons_of_mem _ hq)
def Done31 (p : Pr) (l : List Nd) (a : Nat) (M : List (Nat × List Cu)) : Prop :=
  ∃ (n : Int) (M' : List (Nat × List Cu)), GCall Tryd.prog 31 [.ptr 0 0 0, .int .i64 a] (hpS l M) (.tup [.int .i64 n, .int .i64 (spc p).2]) (hpS l M') ∧
    ((spc p).2 = 0 → n = a + (flat p).length ∧ M' = M ++ ent a (spc p).1)
theorem pg31l (l : List Nd) (hm : l.length ≤ 4000000) (x : Nd) (a : Nat) (r : List Nd) (M : List (Nat × List Cu)) (hp : okP (.leaf x)) (hl : l.drop a = flat (.leaf x) ++ r) (hM : ∀ q, q ∈ M → q.1 < a) : Done31 (.leaf x) l a M := by
  obtain ⟨h0, hc⟩ := hp
  obtain ⟨hlt, hX, h2⟩ := drop_cons (x := x) (r := r) hl
  have hput : ∀ c : Cu, mPut .i64 (a : Int) (.sl false [.int .u64 c.v.toNat, .int .u64 c.m.toNat] 1) (enM M) = enM (M ++ [(a, [c])]) := fun c => put_M a [c] (getM_none hM)
  rcases h0 with h | h | h
  · have hq : mPut .i64 (a : Int) (.sl false [.int .u64 0, .int .u64 0] 1) (enM M) = enM (M ++ [(a, [⟨0#64, 0#64⟩])]) := hput ⟨0#64, 0#64⟩
    refine ⟨a + 1, M ++ ent a (spc (.leaf x)).1, ?_, fun _ => ⟨rfl, rfl⟩⟩
    have e : spc (.leaf x) = (some [⟨0#64, 0#64⟩], 0) := by rw [spc, if_pos h]
    rw [e]
    simp only [ent, hpS]
    refine GC.walk tok mixed  cfg31 Tryd.func31 rfl Tryd.call31 ?_; simp (config := { maxSteps := 2000000 }) -implicitDefEqProofs +contextual (disch := first | assumption | omega | decide +kernel) only [push_cast, ↓capI, br2_true, br2_false, frk_tt, frk_tf, frk_f, frkD_tt, frkD_tf, frkD_f, pk2_true, pk2_false, imp_true, seval, Nat.reduceLeDiff, Nat.reduceEqDiff, reduceCtorEq, ↓reduceIte, reduceCtorEq, fmN, fm0, take_N, toN1, slN_nil, encN, encC, slN, slC, cfg0, cfg31, get_flat_part lenN, get_flat_drop lenN, len_flat lenN, keys_M, get_M, del_M, os_slZ, st_slZ, rn_slZ, rn_N, rn_M, rn_C, keeps_cells, keeps_map, keeps_nil, V.rn, rns, qn, setPs, rnOs, Ob.rn, List.set_cons_zero, List.set_cons_succ, encLE, Tryd.ntmps31,  cfg31]
    simp (config := { maxSteps := 2000000 }) -implicitDefEqProofs +contextual (disch := first | assumption | omega | decide +kernel) only [push_cast, ↓capI, br2_true, br2_false, frk_tt, frk_tf, frk_f, frkD_tt, frkD_tf, frkD_f, pk2_true, pk2_false, imp_true, seval, Nat.reduceLeDiff, Nat.reduceEqDiff, reduceCtorEq, ↓reduceIte, reduceCtorEq, fmN, fm0, take_N, toN1, slN_nil, encN, encC, slN, slC, cfg0, cfg31, get_flat_part lenN, get_flat_drop lenN, len_flat lenN, keys_M, get_M, del_M, os_slZ, st_slZ, rn_slZ, rn_N, rn_M, rn_C, keeps_cells, keeps_map, keeps_nil, V.rn, rns, qn, setPs, rnOs, Ob.rn, List.set_cons_zero, List.set_cons_succ, encLE, hX, h, hq]
    refine endG.ret (_) (by first | rfl | simp [bel_slZ, bel_M, fmN, fm0, belN, bel_Ns, bel_slN, belC, bel_Cs, bel_slC, bel_encLE, fzs_ok, getO, setO, fzs, fz, fzH, Nat.beq, fmN, fm0, take_N, toN1, slN_nil, tt_3, tt_4, tt_5, tt_9, tt_22, tt_24, tt_26, tt_29, tt_34, tt_46, tt_49, tt_57, tt_58, tt_60, tt_65, encN, encC, slN, slC, cfg0, cfg31, get_flat_part lenN, get_flat_drop lenN, len_flat lenN, keys_M, get_M, del_M, os_slZ, st_slZ, rn_slZ, rn_N, rn_M, rn_C, keeps_cells, keeps_map, keeps_nil, V.rn, rns, qn, setPs, rnOs, Ob.rn, List.set_cons_zero, List.set_cons_succ, encLE]) (by simp) (by simp [bel_slZ, bel_M, fmN, fm0, belN, bel_Ns, bel_slN, belC, bel_Cs, bel_slC, bel_encLE, fzs_ok, imp, lenOK_iff, List.take_of_length_le, evRes, getT, getO, setO, fzs, fz, fzH, Nat.beq, retV, Res.then, ldT, ldR, mkV, getV, fmN, fm0, take_N, toN1, slN_nil, tt_3, tt_4, tt_5, tt_9, tt_22, tt_24, tt_26, tt_29, tt_34, tt_46, tt_49, tt_57, tt_58, tt_60, tt_65, encN, encC, slN, slC, cfg0, cfg31, get_flat_part lenN, get_flat_drop lenN, len_flat lenN, keys_M, get_M, del_M, os_slZ, st_slZ, rn_slZ, rn_N, rn_M, rn_C, keeps_cells, keeps_map, keeps_nil, V.rn, rns, qn, setPs, rnOs, Ob.rn, List.set_cons_zero, List.set_cons_succ, encLE, Tryd.f31]) (by first | rfl | simp [bel_slZ, bel_M, fmN, fm0, belN, bel_Ns, bel_slN, belC, bel_Cs, bel_slC, bel_encLE]) (by first | rfl | simp [bel_slZ, bel_M, fmN, fm0, belN, bel_Ns, bel_slN, belC, bel_Cs, bel_slC, bel_encLE])
  · refine ⟨a + 1, M, ?_, fun _ => ⟨rfl, ?_⟩⟩
    · have e : spc (.leaf x) = (none, 0) := by rw [spc, h]; rfl
      rw [e]
      simp only [hpS]
      refine GC.walk tok mixed  cfg31 Tryd.func31 rfl Tryd.call31 ?_; simp (config := { maxSteps := 2000000 }) -implicitDefEqProofs +contextual (disch := first | assumption | omega | decide +kernel) only [push_cast, ↓capI, br2_true, br2_false, frk_tt, frk_tf, frk_f, frkD_tt, frkD_tf, frkD_f, pk2_true, pk2_false, imp_true, seval, Nat.reduceLeDiff, Nat.reduceEqDiff, reduceCtorEq, ↓reduceIte, reduceCtorEq, fmN, fm0, take_N, toN1, slN_nil, encN, encC, slN, slC, cfg0, cfg31, get_flat_part lenN, get_flat_drop lenN, len_flat lenN, keys_M, get_M, del_M, os_slZ, st_slZ, rn_slZ, rn_N, rn_M, rn_C, keeps_cells, keeps_map, keeps_nil, V.rn, rns, qn, setPs, rnOs, Ob.rn, List.set_cons_zero, List.set_cons_succ, encLE, Tryd.ntmps31,  cfg31]
      simp (config := { maxSteps := 2000000 }) -implicitDefEqProofs +contextual (disch := first | assumption | omega | decide +kernel) only [push_cast, ↓capI, br2_true, br2_false, frk_tt, frk_tf, frk_f, frkD_tt, frkD_tf, frkD_f, pk2_true, pk2_false, imp_true, seval, Nat.reduceLeDiff, Nat.reduceEqDiff, reduceCtorEq, ↓reduceIte, reduceCtorEq, fmN, fm0, take_N, toN1, slN_nil, encN, encC, slN, slC, cfg0, cfg31, get_flat_part lenN, get_flat_drop lenN, len_flat lenN, keys_M, get_M, del_M, os_slZ, st_slZ, rn_slZ, rn_N, rn_M, rn_C, keeps_cells, keeps_map, keeps_nil, V.rn, rns, qn, setPs, rnOs, Ob.rn, List.set_cons_zero, List.set_cons_succ, encLE, hX, h]
      refine endG.ret (_) (by first | rfl | simp [bel_slZ, bel_M, fmN, fm0, belN, bel_Ns, bel_slN, belC, bel_Cs, bel_slC, bel_encLE, fzs_ok, getO, setO, fzs, fz, fzH, Nat.beq, fmN, fm0, take_N, toN1, slN_nil, tt_3, tt_4, tt_5, tt_9, tt_22, tt_24, tt_26, tt_29, tt_34, tt_46, tt_49, tt_57, tt_58, tt_60, tt_65, encN, encC, slN, slC, cfg0, cfg31, get_flat_part lenN, get_flat_drop lenN, len_flat lenN, keys_M, get_M, del_M, os_slZ, st_slZ, rn_slZ, rn_N, rn_M, rn_C, keeps_cells, keeps_map, keeps_nil, V.rn, rns, qn, setPs, rnOs, Ob.rn, List.set_cons_zero, List.set_cons_succ, encLE]) (by simp) (by simp [bel_slZ, bel_M, fmN, fm0, belN, bel_Ns, bel_slN, belC, bel_Cs, bel_slC, bel_encLE, fzs_ok, imp, lenOK_iff, List.take_of_length_le, evRes, getT, getO, setO, fzs, fz, fzH, Nat.beq, retV, Res.then, ldT, ldR, mkV, getV, fmN, fm0, take_N, toN1, slN_nil, tt_3, tt_4, tt_5, tt_9, tt_22, tt_24, tt_26, tt_29, tt_34, tt_46, tt_49, tt_57, tt_58, tt_60, tt_65, encN, encC, slN, slC, cfg0, cfg31, get_flat_part lenN, get_flat_drop lenN, len_flat lenN, keys_M, get_M, del_M, os_slZ, st_slZ, rn_slZ, rn_N, rn_M, rn_C, keeps_cells, keeps_map, keeps_nil, V.rn, rns, qn, setPs, rnOs, Ob.rn, List.set_cons_zero, List.set_cons_succ, encLE, Tryd.f31]) (by first | rfl | simp [bel_slZ, bel_M, fmN, fm0, belN, bel_Ns, bel_slN, belC, bel_Cs, bel_slC, bel_encLE]) (by first | rfl | simp [bel_slZ, bel_M, fmN, fm0, belN, bel_Ns, bel_slN, belC, bel_Cs, bel_slC, bel_encLE])
    · have e : spc (.leaf x) = (none, 0) := by rw [spc, h]; rfl
      rw [e, ent, List.append_nil]
  · have hq := hput (cubeN x)
    have hf := (leaf_bad h hc).1
    have e1 := shl_place x.v x.fd hf
    have e2 := shl_place x.m x.fd hf
    have hv := x.v.toNat_lt
    have hmm := x.m.toNat_lt
    simp only [cubeN] at hq
    refine ⟨a + 1, M ++ ent a (spc (.leaf x)).1, ?_, fun _ => ⟨rfl, rfl⟩⟩
    have e : spc (.leaf x) = (some [cubeN x], 0) := by rw [spc, h]; rfl
    rw [e]
    simp only [ent, hpS]
    refine GC.walk tok mixed  cfg31 Tryd.func31 rfl Tryd.call31 ?_; simp (config := { maxSteps := 2000000 }) -implicitDefEqProofs +contextual (disch := first | assumption | omega | decide +kernel) only [push_cast, ↓capI, br2_true, br2_false, frk_tt, frk_tf, frk_f, frkD_tt, frkD_tf, frkD_f, pk2_true, pk2_false, imp_true, seval, Nat.reduceLeDiff, Nat.reduceEqDiff, reduceCtorEq, ↓reduceIte, reduceCtorEq, fmN, fm0, take_N, toN1, slN_nil, encN, encC, slN, slC, cfg0, cfg31, get_flat_part lenN, get_flat_drop lenN, len_flat lenN, keys_M, get_M, del_M, os_slZ, st_slZ, rn_slZ, rn_N, rn_M, rn_C, keeps_cells, keeps_map, keeps_nil, V.rn, rns, qn, setPs, rnOs, Ob.rn, List.set_cons_zero, List.set_cons_succ, encLE, Tryd.ntmps31,  cfg31]
    simp (config := { maxSteps := 2000000 }) -implicitDefEqProofs +contextual (disch := first | assumption | omega | decide +kernel) only [push_cast, ↓capI, br2_true, br2_false, frk_tt, frk_tf, frk_f, frkD_tt, frkD_tf, frkD_f, pk2_true, pk2_false, imp_true, seval, Nat.reduceLeDiff, Nat.reduceEqDiff, reduceCtorEq, ↓reduceIte, reduceCtorEq, fmN, fm0, take_N, toN1, slN_nil, encN, encC, slN, slC, cfg0, cfg31, get_flat_part lenN, get_flat_drop lenN, len_flat lenN, keys_M, get_M, del_M, os_slZ, st_slZ, rn_slZ, rn_N, rn_M, rn_C, keeps_cells, keeps_map, keeps_nil, V.rn, rns, qn, setPs, rnOs, Ob.rn, List.set_cons_zero, List.set_cons_succ, encLE, hX, h, e1, e2, hq]
    refine endG.ret (_) (by first | rfl | simp [bel_slZ, bel_M, fmN, fm0, belN, bel_Ns, bel_slN, belC, bel_Cs, bel_slC, bel_encLE, fzs_ok, getO, setO, fzs, fz, fzH, Nat.beq, fmN, fm0, take_N, toN1, slN_nil, tt_3, tt_4, tt_5, tt_9, tt_22, tt_24, tt_26, tt_29, tt_34, tt_46, tt_49, tt_57, tt_58, tt_60, tt_65, encN, encC, slN, slC, cfg0, cfg31, get_flat_part lenN, get_flat_drop lenN, len_flat lenN, keys_M, get_M, del_M, os_slZ, st_slZ, rn_slZ, rn_N, rn_M, rn_C, keeps_cells, keeps_map, keeps_nil, V.rn, rns, qn, setPs, rnOs, Ob.rn, List.set_cons_zero, List.set_cons_succ, encLE]) (by simp) (by simp [bel_slZ, bel_M, fmN, fm0, belN, bel_Ns, bel_slN, belC, bel_Cs, bel_slC, bel_encLE, fzs_ok, imp, lenOK_iff, List.take_of_length_le, evRes, getT, getO, setO, fzs, fz, fzH, Nat.beq, retV, Res.then, ldT, ldR, mkV, getV, fmN, fm0, take_N, toN1, slN_nil, tt_3, tt_4, tt_5, tt_9, tt_22, tt_24, tt_26, tt_29, tt_34, tt_46, tt_49, tt_57, tt_58, tt_60, tt_65, encN, encC, slN, slC, cfg0, cfg31, get_flat_part lenN, get_flat_drop lenN, len_flat lenN, keys_M, get_M, del_M, os_slZ, st_slZ, rn_slZ, rn_N, rn_M, rn_C, keeps_cells, keeps_map, keeps_nil, V.rn, rns, qn, setPs, rnOs, Ob.rn, List.set_cons_zero, List.set_cons_succ, encLE, Tryd.f31]) (by first | rfl | simp [bel_slZ, bel_M, fmN, fm0, belN, bel_Ns, bel_slN, belC, bel_Cs, bel_slC, bel_encLE]) (by first | rfl | simp [bel_slZ, bel_M, fmN, fm0, belN, bel_Ns, bel_slN, belC, bel_Cs, bel_slC, bel_encLE])
theorem pg31u (l : List Nd) (hm : l.length ≤ 4000000) (x : Nd) (p : Pr) (a : Nat) (r : List Nd) (M : List (Nat × List Cu)) (hp : okP (.un x p)) (hl : l.drop a = flat (.un x p) ++ r) (hM : ∀ q, q ∈ M → q.1 < a)
    (ih : Done31 p l (a + 1) M) : Done31 (.un x p) l a M := by
  obtain ⟨h4, hp⟩ := hp
  obtain ⟨hlt, hX, h2⟩ := drop_cons (x := x) (r := flat p ++ r) (by rw [hl, flat, List.cons_append])
  obtain ⟨n1, M1, g1, f1⟩ := ih
  rw [show ((a + 1 : Nat) : Int) = a + 1 from rfl] at g1
  by_cases he : (spc p).2 = 0
  case neg =>
    have e : spc (.un x p) = (none, (spc p).2) := by rw [spc, if_pos he]
    refine ⟨0, M1, ?_, fun h => absurd (by rw [← h, e]) he⟩
    rw [e]
    simp only [hpS] at g1 ⊢
    refine GC.walk tok mixed  cfg31 Tryd.func31 rfl Tryd.call31 ?_; simp (config := { maxSteps := 2000000 }) -implicitDefEqProofs +contextual (disch := first | assumption | omega | decide +kernel) only [push_cast, ↓capI, br2_true, br2_false, frk_tt, frk_tf, frk_f, frkD_tt, frkD_tf, frkD_f, pk2_true, pk2_false, imp_true, seval, Nat.reduceLeDiff, Nat.reduceEqDiff, reduceCtorEq, ↓reduceIte, reduceCtorEq, fmN, fm0, take_N, toN1, slN_nil, encN, encC, slN, slC, cfg0, cfg31, get_flat_part lenN, get_flat_drop lenN, len_flat lenN, keys_M, get_M, del_M, os_slZ, st_slZ, rn_slZ, rn_N, rn_M, rn_C, keeps_cells, keeps_map, keeps_nil, V.rn, rns, qn, setPs, rnOs, Ob.rn, List.set_cons_zero, List.set_cons_succ, encLE, Tryd.ntmps31,  cfg31]
    simp (config := { maxSteps := 2000000 }) -implicitDefEqProofs +contextual (disch := first | assumption | omega | decide +kernel) only [push_cast, ↓capI, br2_true, br2_false, frk_tt, frk_tf, frk_f, frkD_tt, frkD_tf, frkD_f, pk2_true, pk2_false, imp_true, seval, Nat.reduceLeDiff, Nat.reduceEqDiff, reduceCtorEq, ↓reduceIte, reduceCtorEq, fmN, fm0, take_N, toN1, slN_nil, encN, encC, slN, slC, cfg0, cfg31, get_flat_part lenN, get_flat_drop lenN, len_flat lenN, keys_M, get_M, del_M, os_slZ, st_slZ, rn_slZ, rn_N, rn_M, rn_C, keeps_cells, keeps_map, keeps_nil, V.rn, rns, qn, setPs, rnOs, Ob.rn, List.set_cons_zero, List.set_cons_succ, encLE, hX, h4]
    refine callO.part0 [0, 1] g1 (by decide) rfl rfl ⟨by simp [rnOs, Ob.rn, rns, V.rn, qn, rn_N, slN, getO], by simp, by simp [rnOs, Ob.rn, rn_M, getO], by simp, trivial⟩ ?_
    simp (config := { maxSteps := 2000000 }) -implicitDefEqProofs +contextual (disch := first | assumption | omega | decide +kernel) only [push_cast, ↓capI, br2_true, br2_false, frk_tt, frk_tf, frk_f, frkD_tt, frkD_tf, frkD_f, pk2_true, pk2_false, imp_true, seval, Nat.reduceLeDiff, Nat.reduceEqDiff, reduceCtorEq, ↓reduceIte, reduceCtorEq, fmN, fm0, take_N, toN1, slN_nil, encN, encC, slN, slC, cfg0, cfg31, get_flat_part lenN, get_flat_drop lenN, len_flat lenN, keys_M, get_M, del_M, os_slZ, st_slZ, rn_slZ, rn_N, rn_M, rn_C, keeps_cells, keeps_map, keeps_nil, V.rn, rns, qn, setPs, rnOs, Ob.rn, List.set_cons_zero, List.set_cons_succ, encLE, he]
    refine endG.ret (_) (by first | rfl | simp [bel_slZ, bel_M, fmN, fm0, belN, bel_Ns, bel_slN, belC, bel_Cs, bel_slC, bel_encLE, fzs_ok, getO, setO, fzs, fz, fzH, Nat.beq, fmN, fm0, take_N, toN1, slN_nil, tt_3, tt_4, tt_5, tt_9, tt_22, tt_24, tt_26, tt_29, tt_34, tt_46, tt_49, tt_57, tt_58, tt_60, tt_65, encN, encC, slN, slC, cfg0, cfg31, get_flat_part lenN, get_flat_drop lenN, len_flat lenN, keys_M, get_M, del_M, os_slZ, st_slZ, rn_slZ, rn_N, rn_M, rn_C, keeps_cells, keeps_map, keeps_nil, V.rn, rns, qn, setPs, rnOs, Ob.rn, List.set_cons_zero, List.set_cons_succ, encLE]) (by simp) (by simp [bel_slZ, bel_M, fmN, fm0, belN, bel_Ns, bel_slN, belC, bel_Cs, bel_slC, bel_encLE, fzs_ok, imp, lenOK_iff, List.take_of_length_le, evRes, getT, getO, setO, fzs, fz, fzH, Nat.beq, retV, Res.then, ldT, ldR, mkV, getV, fmN, fm0, take_N, toN1, slN_nil, tt_3, tt_4, tt_5, tt_9, tt_22, tt_24, tt_26, tt_29, tt_34, tt_46, tt_49, tt_57, tt_58, tt_60, tt_65, encN, encC, slN, slC, cfg0, cfg31, get_flat_part lenN, get_flat_drop lenN, len_flat lenN, keys_M, get_M, del_M, os_slZ, st_slZ, rn_slZ, rn_N, rn_M, rn_C, keeps_cells, keeps_map, keeps_nil, V.rn, rns, qn, setPs, rnOs, Ob.rn, List.set_cons_zero, List.set_cons_succ, encLE, Tryd.f31]) (by first | rfl | simp [bel_slZ, bel_M, fmN, fm0, belN, bel_Ns, bel_slN, belC, bel_Cs, bel_slC, bel_encLE]) (by first | rfl | simp [bel_slZ, bel_M, fmN, fm0, belN, bel_Ns, bel_slN, belC, bel_Cs, bel_slC, bel_encLE])
  obtain ⟨rfl, rfl⟩ := f1 he
  have hln := spc_len p
  have gA := getM_lt (N := ent (a + 1) (spc p).1) (a := a + 1) (M := M) (fun q hq => by have := hM q hq; omega)
  rw [(getM_ent (a + 1) (spc p).1).1, (getM_ent (a + 1) (spc p).1).2, List.append_nil] at gA
  have g2 := pg32 l (M ++ ent (a + 1) (spc p).1) (a + 1)
  rw [gA.1, gA.2, show ((a + 1 : Nat) : Int) = a + 1 from rfl] at g2
  have g3 := pc45z (spc p).1 (by omega)
  have hput := put_M a (compl8 ((spc p).1.getD []) 24).1 (getM_none hM)
  simp only [slC] at hput
  rw [he] at g1
  refine ⟨(a : Int) + 1 + (flat p).length, M ++ [(a, (compl8 ((spc p).1.getD []) 24).1)], ?_, fun h => ?_⟩
  · have e2 : (spc (.un x p)).2 = (compl8 ((spc p).1.getD []) 24).2 := by
      rw [spc, if_neg (fun g => g he)]
      by_cases hc : (compl8 ((spc p).1.getD []) 24).2 = 0
      · rw [if_neg (fun g => g hc), hc]
      · rw [if_pos hc]
    rw [e2]
    simp only [hpS] at g1 g2 ⊢
    rw [show ((a + 1 : Nat) : Int) = a + 1 from rfl] at g1
    refine GC.walk tok mixed  cfg31 Tryd.func31 rfl Tryd.call31 ?_; simp (config := { maxSteps := 2000000 }) -implicitDefEqProofs +contextual (disch := first | assumption | omega | decide +kernel) only [push_cast, ↓capI, br2_true, br2_false, frk_tt, frk_tf, frk_f, frkD_tt, frkD_tf, frkD_f, pk2_true, pk2_false, imp_true, seval, Nat.reduceLeDiff, Nat.reduceEqDiff, reduceCtorEq, ↓reduceIte, reduceCtorEq, fmN, fm0, take_N, toN1, slN_nil, encN, encC, slN, slC, cfg0, cfg31, get_flat_part lenN, get_flat_drop lenN, len_flat lenN, keys_M, get_M, del_M, os_slZ, st_slZ, rn_slZ, rn_N, rn_M, rn_C, keeps_cells, keeps_map, keeps_nil, V.rn, rns, qn, setPs, rnOs, Ob.rn, List.set_cons_zero, List.set_cons_succ, encLE, Tryd.ntmps31,  cfg31]
    simp (config := { maxSteps := 2000000 }) -implicitDefEqProofs +contextual (disch := first | assumption | omega | decide +kernel) only [push_cast, ↓capI, br2_true, br2_false, frk_tt, frk_tf, frk_f, frkD_tt, frkD_tf, frkD_f, pk2_true, pk2_false, imp_true, seval, Nat.reduceLeDiff, Nat.reduceEqDiff, reduceCtorEq, ↓reduceIte, reduceCtorEq, fmN, fm0, take_N, toN1, slN_nil, encN, encC, slN, slC, cfg0, cfg31, get_flat_part lenN, get_flat_drop lenN, len_flat lenN, keys_M, get_M, del_M, os_slZ, st_slZ, rn_slZ, rn_N, rn_M, rn_C, keeps_cells, keeps_map, keeps_nil, V.rn, rns, qn, setPs, rnOs, Ob.rn, List.set_cons_zero, List.set_cons_succ, encLE, hX, h4]
    refine callO.part0 [0, 1] g1 (by decide) rfl rfl ⟨by simp [rnOs, Ob.rn, rns, V.rn, qn, rn_N, slN, getO], by simp, by simp [rnOs, Ob.rn, rn_M, getO], by simp, trivial⟩ ?_
    simp (config := { maxSteps := 2000000 }) -implicitDefEqProofs +contextual (disch := first | assumption | omega | decide +kernel) only [push_cast, ↓capI, br2_true, br2_false, frk_tt, frk_tf, frk_f, frkD_tt, frkD_tf, frkD_f, pk2_true, pk2_false, imp_true, seval, Nat.reduceLeDiff, Nat.reduceEqDiff, reduceCtorEq, ↓reduceIte, reduceCtorEq, fmN, fm0, take_N, toN1, slN_nil, encN, encC, slN, slC, cfg0, cfg31, get_flat_part lenN, get_flat_drop lenN, len_flat lenN, keys_M, get_M, del_M, os_slZ, st_slZ, rn_slZ, rn_N, rn_M, rn_C, keeps_cells, keeps_map, keeps_nil, V.rn, rns, qn, setPs, rnOs, Ob.rn, List.set_cons_zero, List.set_cons_succ, encLE, h4]
    refine callO.part0 [0, 1] g2 (by decide) rfl rfl ⟨by simp [rnOs, Ob.rn, rns, V.rn, qn, rn_N, slN, getO], by simp, by simp [rnOs, Ob.rn, rn_M, getO], by simp, trivial⟩ ?_
    simp (config := { maxSteps := 2000000 }) -implicitDefEqProofs +contextual (disch := first | assumption | omega | decide +kernel) only [push_cast, ↓capI, br2_true, br2_false, frk_tt, frk_tf, frk_f, frkD_tt, frkD_tf, frkD_f, pk2_true, pk2_false, imp_true, seval, Nat.reduceLeDiff, Nat.reduceEqDiff, reduceCtorEq, ↓reduceIte, reduceCtorEq, fmN, fm0, take_N, toN1, slN_nil, encN, encC, slN, slC, cfg0, cfg31, get_flat_part lenN, get_flat_drop lenN, len_flat lenN, keys_M, get_M, del_M, os_slZ, st_slZ, rn_slZ, rn_N, rn_M, rn_C, keeps_cells, keeps_map, keeps_nil, V.rn, rns, qn, setPs, rnOs, Ob.rn, List.set_cons_zero, List.set_cons_succ, encLE]
    refine callG.pc1 g3 ?_
    simp (config := { maxSteps := 2000000 }) -implicitDefEqProofs +contextual (disch := first | assumption | omega | decide +kernel) only [push_cast, ↓capI, br2_true, br2_false, frk_tt, frk_tf, frk_f, frkD_tt, frkD_tf, frkD_f, pk2_true, pk2_false, imp_true, seval, Nat.reduceLeDiff, Nat.reduceEqDiff, reduceCtorEq, ↓reduceIte, reduceCtorEq, fmN, fm0, take_N, toN1, slN_nil, encN, encC, slN, slC, cfg0, cfg31, get_flat_part lenN, get_flat_drop lenN, len_flat lenN, keys_M, get_M, del_M, os_slZ, st_slZ, rn_slZ, rn_N, rn_M, rn_C, keeps_cells, keeps_map, keeps_nil, V.rn, rns, qn, setPs, rnOs, Ob.rn, List.set_cons_zero, List.set_cons_succ, encLE, hput]
    refine endG.ret (_) (by first | rfl | simp [bel_slZ, bel_M, fmN, fm0, belN, bel_Ns, bel_slN, belC, bel_Cs, bel_slC, bel_encLE, fzs_ok, getO, setO, fzs, fz, fzH, Nat.beq, fmN, fm0, take_N, toN1, slN_nil, tt_3, tt_4, tt_5, tt_9, tt_22, tt_24, tt_26, tt_29, tt_34, tt_46, tt_49, tt_57, tt_58, tt_60, tt_65, encN, encC, slN, slC, cfg0, cfg31, get_flat_part lenN, get_flat_drop lenN, len_flat lenN, keys_M, get_M, del_M, os_slZ, st_slZ, rn_slZ, rn_N, rn_M, rn_C, keeps_cells, keeps_map, keeps_nil, V.rn, rns, qn, setPs, rnOs, Ob.rn, List.set_cons_zero, List.set_cons_succ, encLE]) (by simp) (by simp [bel_slZ, bel_M, fmN, fm0, belN, bel_Ns, bel_slN, belC, bel_Cs, bel_slC, bel_encLE, fzs_ok, imp, lenOK_iff, List.take_of_length_le, evRes, getT, getO, setO, fzs, fz, fzH, Nat.beq, retV, Res.then, ldT, ldR, mkV, getV, fmN, fm0, take_N, toN1, slN_nil, tt_3, tt_4, tt_5, tt_9, tt_22, tt_24, tt_26, tt_29, tt_34, tt_46, tt_49, tt_57, tt_58, tt_60, tt_65, encN, encC, slN, slC, cfg0, cfg31, get_flat_part lenN, get_flat_drop lenN, len_flat lenN, keys_M, get_M, del_M, os_slZ, st_slZ, rn_slZ, rn_N, rn_M, rn_C, keeps_cells, keeps_map, keeps_nil, V.rn, rns, qn, setPs, rnOs, Ob.rn, List.set_cons_zero, List.set_cons_succ, encLE, Tryd.f31]) (by first | rfl | simp [bel_slZ, bel_M, fmN, fm0, belN, bel_Ns, bel_slN, belC, bel_Cs, bel_slC, bel_encLE]) (by first | rfl | simp [bel_slZ, bel_M, fmN, fm0, belN, bel_Ns, bel_slN, belC, bel_Cs, bel_slC, bel_encLE])
  · have hc : (compl8 ((spc p).1.getD []) 24).2 = 0 := by
      rw [spc, if_neg (fun g => g he)] at h
      split at h
      · rename_i hc; exact absurd h hc
      · rename_i hc; exact Decidable.not_not.1 hc
    rw [spc, if_neg (fun g => g he), if_neg (fun g => g hc), flat, List.length_cons]
    exact ⟨by omega, rfl⟩
end Go.Proofs.YtllfdnbnkncnhaaDoor

/- Chapter 44: the space of a predicate, by the program: operators with two operands, Space. -/
set_option maxRecDepth 100000
set_option maxHeartbeats 4000000
set_option linter.all false
namespace Go.Proofs.YtllfdnbnkncnhaaDoor
open Go.Vm
theorem pg31b (l : List Nd) (hm : l.length ≤ 4000000) (x : Nd) (p q : Pr) (a : Nat) (r : List Nd) (M : List (Nat × List Cu)) (hp : okP (.bin x p q)) (hl : l.drop a = flat (.bin x p q) ++ r) (hM : ∀ e, e ∈ M → e.1 < a)
    (i1 : Done31 p l (a + 1) M) (i2 : (spc p).2 = 0 → Done31 q l (a + 1 + (flat p).length) (M ++ ent (a + 1) (spc p).1)) : Done31 (.bin x p q) l a M := by
  obtain ⟨h4, hp, hq⟩ := hp
  have h3 : ¬ x.op = 4 := by omega
  have h31 : ¬ x.op = 1 := by omega
  have h32 : ¬ x.op = 2 := by omega
  have h33 : ¬ x.op = 3 := by omega
  obtain ⟨hlt, hX, h2⟩ := drop_cons (x := x) (r := flat p ++ (flat q ++ r)) (by rw [hl, flat, List.cons_append, List.append_assoc])
  have hn := drop_len hlt h2
  obtain ⟨n1, M1, g1, f1⟩ := i1
  rw [show ((a + 1 : Nat) : Int) = a + 1 from rfl] at g1
  by_cases he : (spc p).2 = 0
  case neg =>
    have e : spc (.bin x p q) = (none, (spc p).2) := by rw [spc, if_pos he]
    refine ⟨0, M1, ?_, fun h => absurd (by rw [← h, e]) he⟩
    rw [e]
    simp only [hpS] at g1 ⊢
    refine GC.walk tok mixed  cfg31 Tryd.func31 rfl Tryd.call31 ?_; simp (config := { maxSteps := 2000000 }) -implicitDefEqProofs +contextual (disch := first | assumption | omega | decide +kernel) only [push_cast, ↓capI, br2_true, br2_false, frk_tt, frk_tf, frk_f, frkD_tt, frkD_tf, frkD_f, pk2_true, pk2_false, imp_true, seval, Nat.reduceLeDiff, Nat.reduceEqDiff, reduceCtorEq, ↓reduceIte, reduceCtorEq, fmN, fm0, take_N, toN1, slN_nil, encN, encC, slN, slC, cfg0, cfg31, get_flat_part lenN, get_flat_drop lenN, len_flat lenN, keys_M, get_M, del_M, os_slZ, st_slZ, rn_slZ, rn_N, rn_M, rn_C, keeps_cells, keeps_map, keeps_nil, V.rn, rns, qn, setPs, rnOs, Ob.rn, List.set_cons_zero, List.set_cons_succ, encLE, Tryd.ntmps31,  cfg31]
    simp (config := { maxSteps := 2000000 }) -implicitDefEqProofs +contextual (disch := first | assumption | omega | decide +kernel) only [push_cast, ↓capI, br2_true, br2_false, frk_tt, frk_tf, frk_f, frkD_tt, frkD_tf, frkD_f, pk2_true, pk2_false, imp_true, seval, Nat.reduceLeDiff, Nat.reduceEqDiff, reduceCtorEq, ↓reduceIte, reduceCtorEq, fmN, fm0, take_N, toN1, slN_nil, encN, encC, slN, slC, cfg0, cfg31, get_flat_part lenN, get_flat_drop lenN, len_flat lenN, keys_M, get_M, del_M, os_slZ, st_slZ, rn_slZ, rn_N, rn_M, rn_C, keeps_cells, keeps_map, keeps_nil, V.rn, rns, qn, setPs, rnOs, Ob.rn, List.set_cons_zero, List.set_cons_succ, encLE, hX, h31, h32, h33]
    refine callO.part0 [0, 1] g1 (by decide) rfl rfl ⟨by simp [rnOs, Ob.rn, rns, V.rn, qn, rn_N, slN, getO], by simp, by simp [rnOs, Ob.rn, rn_M, getO], by simp, trivial⟩ ?_
    simp (config := { maxSteps := 2000000 }) -implicitDefEqProofs +contextual (disch := first | assumption | omega | decide +kernel) only [push_cast, ↓capI, br2_true, br2_false, frk_tt, frk_tf, frk_f, frkD_tt, frkD_tf, frkD_f, pk2_true, pk2_false, imp_true, seval, Nat.reduceLeDiff, Nat.reduceEqDiff, reduceCtorEq, ↓reduceIte, reduceCtorEq, fmN, fm0, take_N, toN1, slN_nil, encN, encC, slN, slC, cfg0, cfg31, get_flat_part lenN, get_flat_drop lenN, len_flat lenN, keys_M, get_M, del_M, os_slZ, st_slZ, rn_slZ, rn_N, rn_M, rn_C, keeps_cells, keeps_map, keeps_nil, V.rn, rns, qn, setPs, rnOs, Ob.rn, List.set_cons_zero, List.set_cons_succ, encLE, he]
    refine endG.ret (_) (by first | rfl | simp [bel_slZ, bel_M, fmN, fm0, belN, bel_Ns, bel_slN, belC, bel_Cs, bel_slC, bel_encLE, fzs_ok, getO, setO, fzs, fz, fzH, Nat.beq, fmN, fm0, take_N, toN1, slN_nil, tt_3, tt_4, tt_5, tt_9, tt_22, tt_24, tt_26, tt_29, tt_34, tt_46, tt_49, tt_57, tt_58, tt_60, tt_65, encN, encC, slN, slC, cfg0, cfg31, get_flat_part lenN, get_flat_drop lenN, len_flat lenN, keys_M, get_M, del_M, os_slZ, st_slZ, rn_slZ, rn_N, rn_M, rn_C, keeps_cells, keeps_map, keeps_nil, V.rn, rns, qn, setPs, rnOs, Ob.rn, List.set_cons_zero, List.set_cons_succ, encLE]) (by simp) (by simp [bel_slZ, bel_M, fmN, fm0, belN, bel_Ns, bel_slN, belC, bel_Cs, bel_slC, bel_encLE, fzs_ok, imp, lenOK_iff, List.take_of_length_le, evRes, getT, getO, setO, fzs, fz, fzH, Nat.beq, retV, Res.then, ldT, ldR, mkV, getV, fmN, fm0, take_N, toN1, slN_nil, tt_3, tt_4, tt_5, tt_9, tt_22, tt_24, tt_26, tt_29, tt_34, tt_46, tt_49, tt_57, tt_58, tt_60, tt_65, encN, encC, slN, slC, cfg0, cfg31, get_flat_part lenN, get_flat_drop lenN, len_flat lenN, keys_M, get_M, del_M, os_slZ, st_slZ, rn_slZ, rn_N, rn_M, rn_C, keeps_cells, keeps_map, keeps_nil, V.rn, rns, qn, setPs, rnOs, Ob.rn, List.set_cons_zero, List.set_cons_succ, encLE, Tryd.f31]) (by first | rfl | simp [bel_slZ, bel_M, fmN, fm0, belN, bel_Ns, bel_slN, belC, bel_Cs, bel_slC, bel_encLE]) (by first | rfl | simp [bel_slZ, bel_M, fmN, fm0, belN, bel_Ns, bel_slN, belC, bel_Cs, bel_slC, bel_encLE])
  obtain ⟨rfl, rfl⟩ := f1 he
  obtain ⟨n2, M2, g2, f2⟩ := i2 he
  rw [show ((a + 1 + (flat p).length : Nat) : Int) = (a : Int) + 1 + ((flat p).length : Nat) by omega] at g2
  have hnn : (flat p).length ≤ 4000000 := by omega
  rw [he] at g1
  by_cases he2 : (spc q).2 = 0
  case neg =>
    have e : spc (.bin x p q) = (none, (spc q).2) := by rw [spc, if_neg (fun g => g he), if_pos he2]
    refine ⟨0, M2, ?_, fun h => absurd (by rw [← h, e]) he2⟩
    rw [e]
    simp only [hpS] at g1 g2 ⊢
    rw [show ((a + 1 : Nat) : Int) = a + 1 from rfl] at g1
    refine GC.walk tok mixed  cfg31 Tryd.func31 rfl Tryd.call31 ?_; simp (config := { maxSteps := 2000000 }) -implicitDefEqProofs +contextual (disch := first | assumption | omega | decide +kernel) only [push_cast, ↓capI, br2_true, br2_false, frk_tt, frk_tf, frk_f, frkD_tt, frkD_tf, frkD_f, pk2_true, pk2_false, imp_true, seval, Nat.reduceLeDiff, Nat.reduceEqDiff, reduceCtorEq, ↓reduceIte, reduceCtorEq, fmN, fm0, take_N, toN1, slN_nil, encN, encC, slN, slC, cfg0, cfg31, get_flat_part lenN, get_flat_drop lenN, len_flat lenN, keys_M, get_M, del_M, os_slZ, st_slZ, rn_slZ, rn_N, rn_M, rn_C, keeps_cells, keeps_map, keeps_nil, V.rn, rns, qn, setPs, rnOs, Ob.rn, List.set_cons_zero, List.set_cons_succ, encLE, Tryd.ntmps31,  cfg31]
    simp (config := { maxSteps := 2000000 }) -implicitDefEqProofs +contextual (disch := first | assumption | omega | decide +kernel) only [push_cast, ↓capI, br2_true, br2_false, frk_tt, frk_tf, frk_f, frkD_tt, frkD_tf, frkD_f, pk2_true, pk2_false, imp_true, seval, Nat.reduceLeDiff, Nat.reduceEqDiff, reduceCtorEq, ↓reduceIte, reduceCtorEq, fmN, fm0, take_N, toN1, slN_nil, encN, encC, slN, slC, cfg0, cfg31, get_flat_part lenN, get_flat_drop lenN, len_flat lenN, keys_M, get_M, del_M, os_slZ, st_slZ, rn_slZ, rn_N, rn_M, rn_C, keeps_cells, keeps_map, keeps_nil, V.rn, rns, qn, setPs, rnOs, Ob.rn, List.set_cons_zero, List.set_cons_succ, encLE, hX, h31, h32, h33]
    refine callO.part0 [0, 1] g1 (by decide) rfl rfl ⟨by simp [rnOs, Ob.rn, rns, V.rn, qn, rn_N, slN, getO], by simp, by simp [rnOs, Ob.rn, rn_M, getO], by simp, trivial⟩ ?_
    simp (config := { maxSteps := 2000000 }) -implicitDefEqProofs +contextual (disch := first | assumption | omega | decide +kernel) only [push_cast, ↓capI, br2_true, br2_false, frk_tt, frk_tf, frk_f, frkD_tt, frkD_tf, frkD_f, pk2_true, pk2_false, imp_true, seval, Nat.reduceLeDiff, Nat.reduceEqDiff, reduceCtorEq, ↓reduceIte, reduceCtorEq, fmN, fm0, take_N, toN1, slN_nil, encN, encC, slN, slC, cfg0, cfg31, get_flat_part lenN, get_flat_drop lenN, len_flat lenN, keys_M, get_M, del_M, os_slZ, st_slZ, rn_slZ, rn_N, rn_M, rn_C, keeps_cells, keeps_map, keeps_nil, V.rn, rns, qn, setPs, rnOs, Ob.rn, List.set_cons_zero, List.set_cons_succ, encLE, h3]
    refine callO.part0 [0, 1] g2 (by decide) rfl rfl ⟨by simp [rnOs, Ob.rn, rns, V.rn, qn, rn_N, slN, getO], by simp, by simp [rnOs, Ob.rn, rn_M, getO], by simp, trivial⟩ ?_
    simp (config := { maxSteps := 2000000 }) -implicitDefEqProofs +contextual (disch := first | assumption | omega | decide +kernel) only [push_cast, ↓capI, br2_true, br2_false, frk_tt, frk_tf, frk_f, frkD_tt, frkD_tf, frkD_f, pk2_true, pk2_false, imp_true, seval, Nat.reduceLeDiff, Nat.reduceEqDiff, reduceCtorEq, ↓reduceIte, reduceCtorEq, fmN, fm0, take_N, toN1, slN_nil, encN, encC, slN, slC, cfg0, cfg31, get_flat_part lenN, get_flat_drop lenN, len_flat lenN, keys_M, get_M, del_M, os_slZ, st_slZ, rn_slZ, rn_N, rn_M, rn_C, keeps_cells, keeps_map, keeps_nil, V.rn, rns, qn, setPs, rnOs, Ob.rn, List.set_cons_zero, List.set_cons_succ, encLE, he2]
    refine endG.ret (_) (by first | rfl | simp [bel_slZ, bel_M, fmN, fm0, belN, bel_Ns, bel_slN, belC, bel_Cs, bel_slC, bel_encLE, fzs_ok, getO, setO, fzs, fz, fzH, Nat.beq, fmN, fm0, take_N, toN1, slN_nil, tt_3, tt_4, tt_5, tt_9, tt_22, tt_24, tt_26, tt_29, tt_34, tt_46, tt_49, tt_57, tt_58, tt_60, tt_65, encN, encC, slN, slC, cfg0, cfg31, get_flat_part lenN, get_flat_drop lenN, len_flat lenN, keys_M, get_M, del_M, os_slZ, st_slZ, rn_slZ, rn_N, rn_M, rn_C, keeps_cells, keeps_map, keeps_nil, V.rn, rns, qn, setPs, rnOs, Ob.rn, List.set_cons_zero, List.set_cons_succ, encLE]) (by simp) (by simp [bel_slZ, bel_M, fmN, fm0, belN, bel_Ns, bel_slN, belC, bel_Cs, bel_slC, bel_encLE, fzs_ok, imp, lenOK_iff, List.take_of_length_le, evRes, getT, getO, setO, fzs, fz, fzH, Nat.beq, retV, Res.then, ldT, ldR, mkV, getV, fmN, fm0, take_N, toN1, slN_nil, tt_3, tt_4, tt_5, tt_9, tt_22, tt_24, tt_26, tt_29, tt_34, tt_46, tt_49, tt_57, tt_58, tt_60, tt_65, encN, encC, slN, slC, cfg0, cfg31, get_flat_part lenN, get_flat_drop lenN, len_flat lenN, keys_M, get_M, del_M, os_slZ, st_slZ, rn_slZ, rn_N, rn_M, rn_C, keeps_cells, keeps_map, keeps_nil, V.rn, rns, qn, setPs, rnOs, Ob.rn, List.set_cons_zero, List.set_cons_succ, encLE, Tryd.f31]) (by first | rfl | simp [bel_slZ, bel_M, fmN, fm0, belN, bel_Ns, bel_slN, belC, bel_Cs, bel_slC, bel_encLE]) (by first | rfl | simp [bel_slZ, bel_M, fmN, fm0, belN, bel_Ns, bel_slN, belC, bel_Cs, bel_slC, bel_encLE])
  obtain ⟨rfl, rfl⟩ := f2 he2
  have hpos := flat_pos p
  have hlp := spc_len p
  have hlq := spc_len q
  have gA := getM_lt (N := ent (a + 1) (spc p).1 ++ ent (a + 1 + (flat p).length) (spc q).1) (a := a + 1) (M := M) (fun e he => by have := hM e he; omega)
  rw [(getM_ent2 (by omega) (spc p).1 (spc q).1).1, (getM_ent2 (by omega) (spc p).1 (spc q).1).2] at gA
  have gB := getM_lt (N := ent (a + 1 + (flat p).length) (spc q).1) (a := a + 1 + (flat p).length) (M := M) (fun e he => by have := hM e he; omega)
  rw [(getM_ent _ (spc q).1).1, (getM_ent _ (spc q).1).2, List.append_nil] at gB
  have k1 := pg32 l (M ++ ent (a + 1) (spc p).1 ++ ent (a + 1 + (flat p).length) (spc q).1) (a + 1)
  have k2 := pg32 l (M ++ ent (a + 1 + (flat p).length) (spc q).1) (a + 1 + (flat p).length)
  rw [List.append_assoc, gA.1, gA.2, show ((a + 1 : Nat) : Int) = a + 1 from rfl] at k1
  rw [gB.1, gB.2, show ((a + 1 + (flat p).length : Nat) : Int) = (a : Int) + 1 + ((flat p).length : Nat) by omega] at k2
  rw [he2, List.append_assoc] at g2
  have hlen : (flat (.bin x p q)).length = (flat p).length + (flat q).length + 1 := by rw [flat, List.length_cons, List.length_append]
  rcases h4 with h | h
  · have c1 := pc46z (spc p).1 (spc q).1 (by omega) (by omega)
    have hput := put_M a (inter8 ((spc p).1.getD []) ((spc q).1.getD [])).1 (getM_none hM)
    have e2 : (spc (.bin x p q)).2 = (inter8 ((spc p).1.getD []) ((spc q).1.getD [])).2 := by
      rw [spc, if_neg (fun g => g he), if_neg (fun g => g he2), if_pos h]
      by_cases hc : (inter8 ((spc p).1.getD []) ((spc q).1.getD [])).2 = 0
      · rw [if_neg (fun g => g hc), hc]
      · rw [if_pos hc]
    have e3 : (inter8 ((spc p).1.getD []) ((spc q).1.getD [])).2 = 0 → (spc (.bin x p q)).1 = some (inter8 ((spc p).1.getD []) ((spc q).1.getD [])).1 := fun hc => by
      rw [spc, if_neg (fun g => g he), if_neg (fun g => g he2), if_pos h, if_neg (fun g => g hc)]
    generalize inter8 ((spc p).1.getD []) ((spc q).1.getD []) = R at c1 hput e2 e3
    simp only [slC] at hput
    refine ⟨(a : Int) + 1 + (flat p).length + (flat q).length, M ++ [(a, R.1)], ?_, fun h0 => ⟨by rw [hlen]; omega, by rw [e3 (by rw [← e2]; exact h0)]; rfl⟩⟩
    rw [e2]
    simp only [hpS] at g1 g2 k1 k2 ⊢
    rw [show ((a + 1 : Nat) : Int) = a + 1 from rfl] at g1
    refine GC.walk tok mixed  cfg31 Tryd.func31 rfl Tryd.call31 ?_; simp (config := { maxSteps := 2000000 }) -implicitDefEqProofs +contextual (disch := first | assumption | omega | decide +kernel) only [push_cast, ↓capI, br2_true, br2_false, frk_tt, frk_tf, frk_f, frkD_tt, frkD_tf, frkD_f, pk2_true, pk2_false, imp_true, seval, Nat.reduceLeDiff, Nat.reduceEqDiff, reduceCtorEq, ↓reduceIte, reduceCtorEq, fmN, fm0, take_N, toN1, slN_nil, encN, encC, slN, slC, cfg0, cfg31, get_flat_part lenN, get_flat_drop lenN, len_flat lenN, keys_M, get_M, del_M, os_slZ, st_slZ, rn_slZ, rn_N, rn_M, rn_C, keeps_cells, keeps_map, keeps_nil, V.rn, rns, qn, setPs, rnOs, Ob.rn, List.set_cons_zero, List.set_cons_succ, encLE, Tryd.ntmps31,  cfg31]
    simp (config := { maxSteps := 2000000 }) -implicitDefEqProofs +contextual (disch := first | assumption | omega | decide +kernel) only [push_cast, ↓capI, br2_true, br2_false, frk_tt, frk_tf, frk_f, frkD_tt, frkD_tf, frkD_f, pk2_true, pk2_false, imp_true, seval, Nat.reduceLeDiff, Nat.reduceEqDiff, reduceCtorEq, ↓reduceIte, reduceCtorEq, fmN, fm0, take_N, toN1, slN_nil, encN, encC, slN, slC, cfg0, cfg31, get_flat_part lenN, get_flat_drop lenN, len_flat lenN, keys_M, get_M, del_M, os_slZ, st_slZ, rn_slZ, rn_N, rn_M, rn_C, keeps_cells, keeps_map, keeps_nil, V.rn, rns, qn, setPs, rnOs, Ob.rn, List.set_cons_zero, List.set_cons_succ, encLE, hX, h31, h32, h33]
    refine callO.part0 [0, 1] g1 (by decide) rfl rfl ⟨by simp [rnOs, Ob.rn, rns, V.rn, qn, rn_N, slN, getO], by simp, by simp [rnOs, Ob.rn, rn_M, getO], by simp, trivial⟩ ?_
    simp (config := { maxSteps := 2000000 }) -implicitDefEqProofs +contextual (disch := first | assumption | omega | decide +kernel) only [push_cast, ↓capI, br2_true, br2_false, frk_tt, frk_tf, frk_f, frkD_tt, frkD_tf, frkD_f, pk2_true, pk2_false, imp_true, seval, Nat.reduceLeDiff, Nat.reduceEqDiff, reduceCtorEq, ↓reduceIte, reduceCtorEq, fmN, fm0, take_N, toN1, slN_nil, encN, encC, slN, slC, cfg0, cfg31, get_flat_part lenN, get_flat_drop lenN, len_flat lenN, keys_M, get_M, del_M, os_slZ, st_slZ, rn_slZ, rn_N, rn_M, rn_C, keeps_cells, keeps_map, keeps_nil, V.rn, rns, qn, setPs, rnOs, Ob.rn, List.set_cons_zero, List.set_cons_succ, encLE, h3]
    refine callO.part0 [0, 1] g2 (by decide) rfl rfl ⟨by simp [rnOs, Ob.rn, rns, V.rn, qn, rn_N, slN, getO], by simp, by simp [rnOs, Ob.rn, rn_M, getO], by simp, trivial⟩ ?_
    simp (config := { maxSteps := 2000000 }) -implicitDefEqProofs +contextual (disch := first | assumption | omega | decide +kernel) only [push_cast, ↓capI, br2_true, br2_false, frk_tt, frk_tf, frk_f, frkD_tt, frkD_tf, frkD_f, pk2_true, pk2_false, imp_true, seval, Nat.reduceLeDiff, Nat.reduceEqDiff, reduceCtorEq, ↓reduceIte, reduceCtorEq, fmN, fm0, take_N, toN1, slN_nil, encN, encC, slN, slC, cfg0, cfg31, get_flat_part lenN, get_flat_drop lenN, len_flat lenN, keys_M, get_M, del_M, os_slZ, st_slZ, rn_slZ, rn_N, rn_M, rn_C, keeps_cells, keeps_map, keeps_nil, V.rn, rns, qn, setPs, rnOs, Ob.rn, List.set_cons_zero, List.set_cons_succ, encLE]
    refine callO.part0 [0, 1] k1 (by decide) rfl rfl ⟨by simp [rnOs, Ob.rn, rns, V.rn, qn, rn_N, slN, getO], by simp, by simp [rnOs, Ob.rn, rn_M, getO], by simp, trivial⟩ ?_
    simp (config := { maxSteps := 2000000 }) -implicitDefEqProofs +contextual (disch := first | assumption | omega | decide +kernel) only [push_cast, ↓capI, br2_true, br2_false, frk_tt, frk_tf, frk_f, frkD_tt, frkD_tf, frkD_f, pk2_true, pk2_false, imp_true, seval, Nat.reduceLeDiff, Nat.reduceEqDiff, reduceCtorEq, ↓reduceIte, reduceCtorEq, fmN, fm0, take_N, toN1, slN_nil, encN, encC, slN, slC, cfg0, cfg31, get_flat_part lenN, get_flat_drop lenN, len_flat lenN, keys_M, get_M, del_M, os_slZ, st_slZ, rn_slZ, rn_N, rn_M, rn_C, keeps_cells, keeps_map, keeps_nil, V.rn, rns, qn, setPs, rnOs, Ob.rn, List.set_cons_zero, List.set_cons_succ, encLE]
    refine callO.part0 [0, 1] k2 (by decide) rfl rfl ⟨by simp [rnOs, Ob.rn, rns, V.rn, qn, rn_N, slN, getO], by simp, by simp [rnOs, Ob.rn, rn_M, getO], by simp, trivial⟩ ?_
    simp (config := { maxSteps := 2000000 }) -implicitDefEqProofs +contextual (disch := first | assumption | omega | decide +kernel) only [push_cast, ↓capI, br2_true, br2_false, frk_tt, frk_tf, frk_f, frkD_tt, frkD_tf, frkD_f, pk2_true, pk2_false, imp_true, seval, Nat.reduceLeDiff, Nat.reduceEqDiff, reduceCtorEq, ↓reduceIte, reduceCtorEq, fmN, fm0, take_N, toN1, slN_nil, encN, encC, slN, slC, cfg0, cfg31, get_flat_part lenN, get_flat_drop lenN, len_flat lenN, keys_M, get_M, del_M, os_slZ, st_slZ, rn_slZ, rn_N, rn_M, rn_C, keeps_cells, keeps_map, keeps_nil, V.rn, rns, qn, setPs, rnOs, Ob.rn, List.set_cons_zero, List.set_cons_succ, encLE, h]
    refine callG.pc1 c1 ?_
    simp (config := { maxSteps := 2000000 }) -implicitDefEqProofs +contextual (disch := first | assumption | omega | decide +kernel) only [push_cast, ↓capI, br2_true, br2_false, frk_tt, frk_tf, frk_f, frkD_tt, frkD_tf, frkD_f, pk2_true, pk2_false, imp_true, seval, Nat.reduceLeDiff, Nat.reduceEqDiff, reduceCtorEq, ↓reduceIte, reduceCtorEq, fmN, fm0, take_N, toN1, slN_nil, encN, encC, slN, slC, cfg0, cfg31, get_flat_part lenN, get_flat_drop lenN, len_flat lenN, keys_M, get_M, del_M, os_slZ, st_slZ, rn_slZ, rn_N, rn_M, rn_C, keeps_cells, keeps_map, keeps_nil, V.rn, rns, qn, setPs, rnOs, Ob.rn, List.set_cons_zero, List.set_cons_succ, encLE, hput]
    refine endG.ret (_) (by first | rfl | simp [bel_slZ, bel_M, fmN, fm0, belN, bel_Ns, bel_slN, belC, bel_Cs, bel_slC, bel_encLE, fzs_ok, getO, setO, fzs, fz, fzH, Nat.beq, fmN, fm0, take_N, toN1, slN_nil, tt_3, tt_4, tt_5, tt_9, tt_22, tt_24, tt_26, tt_29, tt_34, tt_46, tt_49, tt_57, tt_58, tt_60, tt_65, encN, encC, slN, slC, cfg0, cfg31, get_flat_part lenN, get_flat_drop lenN, len_flat lenN, keys_M, get_M, del_M, os_slZ, st_slZ, rn_slZ, rn_N, rn_M, rn_C, keeps_cells, keeps_map, keeps_nil, V.rn, rns, qn, setPs, rnOs, Ob.rn, List.set_cons_zero, List.set_cons_succ, encLE]) (by simp) (by simp [bel_slZ, bel_M, fmN, fm0, belN, bel_Ns, bel_slN, belC, bel_Cs, bel_slC, bel_encLE, fzs_ok, imp, lenOK_iff, List.take_of_length_le, evRes, getT, getO, setO, fzs, fz, fzH, Nat.beq, retV, Res.then, ldT, ldR, mkV, getV, fmN, fm0, take_N, toN1, slN_nil, tt_3, tt_4, tt_5, tt_9, tt_22, tt_24, tt_26, tt_29, tt_34, tt_46, tt_49, tt_57, tt_58, tt_60, tt_65, encN, encC, slN, slC, cfg0, cfg31, get_flat_part lenN, get_flat_drop lenN, len_flat lenN, keys_M, get_M, del_M, os_slZ, st_slZ, rn_slZ, rn_N, rn_M, rn_C, keeps_cells, keeps_map, keeps_nil, V.rn, rns, qn, setPs, rnOs, Ob.rn, List.set_cons_zero, List.set_cons_succ, encLE, Tryd.f31]) (by first | rfl | simp [bel_slZ, bel_M, fmN, fm0, belN, bel_Ns, bel_slN, belC, bel_Cs, bel_slC, bel_encLE]) (by first | rfl | simp [bel_slZ, bel_M, fmN, fm0, belN, bel_Ns, bel_slN, belC, bel_Cs, bel_slC, bel_encLE])
  · have h5 : ¬ x.op = 5 := by omega
    have c1 := pc47z (spc p).1 (spc q).1 (by omega) (by omega)
    have hput := put_M a (fin8 ((spc p).1.getD [] ++ (spc q).1.getD [])).1 (getM_none hM)
    have e2 : (spc (.bin x p q)).2 = (fin8 ((spc p).1.getD [] ++ (spc q).1.getD [])).2 := by
      rw [spc, if_neg (fun g => g he), if_neg (fun g => g he2), if_neg h5]
      by_cases hc : (fin8 ((spc p).1.getD [] ++ (spc q).1.getD [])).2 = 0
      · rw [if_neg (fun g => g hc), hc]
      · rw [if_pos hc]
    have e3 : (fin8 ((spc p).1.getD [] ++ (spc q).1.getD [])).2 = 0 → (spc (.bin x p q)).1 = some (fin8 ((spc p).1.getD [] ++ (spc q).1.getD [])).1 := fun hc => by
      rw [spc, if_neg (fun g => g he), if_neg (fun g => g he2), if_neg h5, if_neg (fun g => g hc)]
    generalize fin8 ((spc p).1.getD [] ++ (spc q).1.getD []) = R at c1 hput e2 e3
    simp only [slC] at hput
    refine ⟨(a : Int) + 1 + (flat p).length + (flat q).length, M ++ [(a, R.1)], ?_, fun h0 => ⟨by rw [hlen]; omega, by rw [e3 (by rw [← e2]; exact h0)]; rfl⟩⟩
    rw [e2]
    simp only [hpS] at g1 g2 k1 k2 ⊢
    rw [show ((a + 1 : Nat) : Int) = a + 1 from rfl] at g1
    refine GC.walk tok mixed  cfg31 Tryd.func31 rfl Tryd.call31 ?_; simp (config := { maxSteps := 2000000 }) -implicitDefEqProofs +contextual (disch := first | assumption | omega | decide +kernel) only [push_cast, ↓capI, br2_true, br2_false, frk_tt, frk_tf, frk_f, frkD_tt, frkD_tf, frkD_f, pk2_true, pk2_false, imp_true, seval, Nat.reduceLeDiff, Nat.reduceEqDiff, reduceCtorEq, ↓reduceIte, reduceCtorEq, fmN, fm0, take_N, toN1, slN_nil, encN, encC, slN, slC, cfg0, cfg31, get_flat_part lenN, get_flat_drop lenN, len_flat lenN, keys_M, get_M, del_M, os_slZ, st_slZ, rn_slZ, rn_N, rn_M, rn_C, keeps_cells, keeps_map, keeps_nil, V.rn, rns, qn, setPs, rnOs, Ob.rn, List.set_cons_zero, List.set_cons_succ, encLE, Tryd.ntmps31,  cfg31]
    simp (config := { maxSteps := 2000000 }) -implicitDefEqProofs +contextual (disch := first | assumption | omega | decide +kernel) only [push_cast, ↓capI, br2_true, br2_false, frk_tt, frk_tf, frk_f, frkD_tt, frkD_tf, frkD_f, pk2_true, pk2_false, imp_true, seval, Nat.reduceLeDiff, Nat.reduceEqDiff, reduceCtorEq, ↓reduceIte, reduceCtorEq, fmN, fm0, take_N, toN1, slN_nil, encN, encC, slN, slC, cfg0, cfg31, get_flat_part lenN, get_flat_drop lenN, len_flat lenN, keys_M, get_M, del_M, os_slZ, st_slZ, rn_slZ, rn_N, rn_M, rn_C, keeps_cells, keeps_map, keeps_nil, V.rn, rns, qn, setPs, rnOs, Ob.rn, List.set_cons_zero, List.set_cons_succ, encLE, hX, h31, h32, h33]
    refine callO.part0 [0, 1] g1 (by decide) rfl rfl ⟨by simp [rnOs, Ob.rn, rns, V.rn, qn, rn_N, slN, getO], by simp, by simp [rnOs, Ob.rn, rn_M, getO], by simp, trivial⟩ ?_
    simp (config := { maxSteps := 2000000 }) -implicitDefEqProofs +contextual (disch := first | assumption | omega | decide +kernel) only [push_cast, ↓capI, br2_true, br2_false, frk_tt, frk_tf, frk_f, frkD_tt, frkD_tf, frkD_f, pk2_true, pk2_false, imp_true, seval, Nat.reduceLeDiff, Nat.reduceEqDiff, reduceCtorEq, ↓reduceIte, reduceCtorEq, fmN, fm0, take_N, toN1, slN_nil, encN, encC, slN, slC, cfg0, cfg31, get_flat_part lenN, get_flat_drop lenN, len_flat lenN, keys_M, get_M, del_M, os_slZ, st_slZ, rn_slZ, rn_N, rn_M, rn_C, keeps_cells, keeps_map, keeps_nil, V.rn, rns, qn, setPs, rnOs, Ob.rn, List.set_cons_zero, List.set_cons_succ, encLE, h3]
    refine callO.part0 [0, 1] g2 (by decide) rfl rfl ⟨by simp [rnOs, Ob.rn, rns, V.rn, qn, rn_N, slN, getO], by simp, by simp [rnOs, Ob.rn, rn_M, getO], by simp, trivial⟩ ?_
    simp (config := { maxSteps := 2000000 }) -implicitDefEqProofs +contextual (disch := first | assumption | omega | decide +kernel) only [push_cast, ↓capI, br2_true, br2_false, frk_tt, frk_tf, frk_f, frkD_tt, frkD_tf, frkD_f, pk2_true, pk2_false, imp_true, seval, Nat.reduceLeDiff, Nat.reduceEqDiff, reduceCtorEq, ↓reduceIte, reduceCtorEq, fmN, fm0, take_N, toN1, slN_nil, encN, encC, slN, slC, cfg0, cfg31, get_flat_part lenN, get_flat_drop lenN, len_flat lenN, keys_M, get_M, del_M, os_slZ, st_slZ, rn_slZ, rn_N, rn_M, rn_C, keeps_cells, keeps_map, keeps_nil, V.rn, rns, qn, setPs, rnOs, Ob.rn, List.set_cons_zero, List.set_cons_succ, encLE]
    refine callO.part0 [0, 1] k1 (by decide) rfl rfl ⟨by simp [rnOs, Ob.rn, rns, V.rn, qn, rn_N, slN, getO], by simp, by simp [rnOs, Ob.rn, rn_M, getO], by simp, trivial⟩ ?_
    simp (config := { maxSteps := 2000000 }) -implicitDefEqProofs +contextual (disch := first | assumption | omega | decide +kernel) only [push_cast, ↓capI, br2_true, br2_false, frk_tt, frk_tf, frk_f, frkD_tt, frkD_tf, frkD_f, pk2_true, pk2_false, imp_true, seval, Nat.reduceLeDiff, Nat.reduceEqDiff, reduceCtorEq, ↓reduceIte, reduceCtorEq, fmN, fm0, take_N, toN1, slN_nil, encN, encC, slN, slC, cfg0, cfg31, get_flat_part lenN, get_flat_drop lenN, len_flat lenN, keys_M, get_M, del_M, os_slZ, st_slZ, rn_slZ, rn_N, rn_M, rn_C, keeps_cells, keeps_map, keeps_nil, V.rn, rns, qn, setPs, rnOs, Ob.rn, List.set_cons_zero, List.set_cons_succ, encLE]
    refine callO.part0 [0, 1] k2 (by decide) rfl rfl ⟨by simp [rnOs, Ob.rn, rns, V.rn, qn, rn_N, slN, getO], by simp, by simp [rnOs, Ob.rn, rn_M, getO], by simp, trivial⟩ ?_
    simp (config := { maxSteps := 2000000 }) -implicitDefEqProofs +contextual (disch := first | assumption | omega | decide +kernel) only [push_cast, ↓capI, br2_true, br2_false, frk_tt, frk_tf, frk_f, frkD_tt, frkD_tf, frkD_f, pk2_true, pk2_false, imp_true, seval, Nat.reduceLeDiff, Nat.reduceEqDiff, reduceCtorEq, ↓reduceIte, reduceCtorEq, fmN, fm0, take_N, toN1, slN_nil, encN, encC, slN, slC, cfg0, cfg31, get_flat_part lenN, get_flat_drop lenN, len_flat lenN, keys_M, get_M, del_M, os_slZ, st_slZ, rn_slZ, rn_N, rn_M, rn_C, keeps_cells, keeps_map, keeps_nil, V.rn, rns, qn, setPs, rnOs, Ob.rn, List.set_cons_zero, List.set_cons_succ, encLE, h]
    refine callG.pc1 c1 ?_
    simp (config := { maxSteps := 2000000 }) -implicitDefEqProofs +contextual (disch := first | assumption | omega | decide +kernel) only [push_cast, ↓capI, br2_true, br2_false, frk_tt, frk_tf, frk_f, frkD_tt, frkD_tf, frkD_f, pk2_true, pk2_false, imp_true, seval, Nat.reduceLeDiff, Nat.reduceEqDiff, reduceCtorEq, ↓reduceIte, reduceCtorEq, fmN, fm0, take_N, toN1, slN_nil, encN, encC, slN, slC, cfg0, cfg31, get_flat_part lenN, get_flat_drop lenN, len_flat lenN, keys_M, get_M, del_M, os_slZ, st_slZ, rn_slZ, rn_N, rn_M, rn_C, keeps_cells, keeps_map, keeps_nil, V.rn, rns, qn, setPs, rnOs, Ob.rn, List.set_cons_zero, List.set_cons_succ, encLE, hput]
    refine endG.ret (_) (by first | rfl | simp [bel_slZ, bel_M, fmN, fm0, belN, bel_Ns, bel_slN, belC, bel_Cs, bel_slC, bel_encLE, fzs_ok, getO, setO, fzs, fz, fzH, Nat.beq, fmN, fm0, take_N, toN1, slN_nil, tt_3, tt_4, tt_5, tt_9, tt_22, tt_24, tt_26, tt_29, tt_34, tt_46, tt_49, tt_57, tt_58, tt_60, tt_65, encN, encC, slN, slC, cfg0, cfg31, get_flat_part lenN, get_flat_drop lenN, len_flat lenN, keys_M, get_M, del_M, os_slZ, st_slZ, rn_slZ, rn_N, rn_M, rn_C, keeps_cells, keeps_map, keeps_nil, V.rn, rns, qn, setPs, rnOs, Ob.rn, List.set_cons_zero, List.set_cons_succ, encLE]) (by simp) (by simp [bel_slZ, bel_M, fmN, fm0, belN, bel_Ns, bel_slN, belC, bel_Cs, bel_slC, bel_encLE, fzs_ok, imp, lenOK_iff, List.take_of_length_le, evRes, getT, getO, setO, fzs, fz, fzH, Nat.beq, retV, Res.then, ldT, ldR, mkV, getV, fmN, fm0, take_N, toN1, slN_nil, tt_3, tt_4, tt_5, tt_9, tt_22, tt_24, tt_26, tt_29, tt_34, tt_46, tt_49, tt_57, tt_58, tt_60, tt_65, encN, encC, slN, slC, cfg0, cfg31, get_flat_part lenN, get_flat_drop lenN, len_flat lenN, keys_M, get_M, del_M, os_slZ, st_slZ, rn_slZ, rn_N, rn_M, rn_C, keeps_cells, keeps_map, keeps_nil, V.rn, rns, qn, setPs, rnOs, Ob.rn, List.set_cons_zero, List.set_cons_succ, encLE, Tryd.f31]) (by first | rfl | simp [bel_slZ, bel_M, fmN, fm0, belN, bel_Ns, bel_slN, belC, bel_Cs, bel_slC, bel_encLE]) (by first | rfl | simp [bel_slZ, bel_M, fmN, fm0, belN, bel_Ns, bel_slN, belC, bel_Cs, bel_slC, bel_encLE])
theorem pg31 (l : List Nd) (hm : l.length ≤ 4000000) : ∀ (p : Pr) (a : Nat) (r : List Nd) (M : List (Nat × List Cu)), okP p → l.drop a = flat p ++ r → (∀ q, q ∈ M → q.1 < a) → Done31 p l a M
  | .leaf x, a, r, M, hp, hl, hM => pg31l l hm x a r M hp hl hM
  | .un x p, a, r, M, hp, hl, hM => by
    obtain ⟨hlt, hX, h2⟩ := drop_cons (x := x) (r := flat p ++ r) (by rw [hl, flat, List.cons_append])
    exact pg31u l hm x p a r M hp hl hM (pg31 l hm p (a + 1) r M hp.2 h2 (fun q hq => by have := hM q hq; omega))
  | .bin x p q, a, r, M, hp, hl, hM => by
    obtain ⟨hlt, hX, h2⟩ := drop_cons (x := x) (r := flat p ++ (flat q ++ r)) (by rw [hl, flat, List.cons_append, List.append_assoc])
    refine pg31b l hm x p q a r M hp hl hM (pg31 l hm p (a + 1) _ M hp.2.1 h2 (fun q hq => by have := hM q hq; omega)) (fun _ => pg31 l hm q _ r _ hp.2.2 (drop_app h2) (fun e he => ?_))
    have hpos := flat_pos p
    rcases List.mem_append.1 he with he | he
    · have := hM e he
      omega
    · cases hs : (spc p).1 with
      | none => rw [hs] at he; cases he
      | some c =>
        rw [hs, ent] at he
        rw [List.mem_singleton.1 he]
        show a + 1 < a + 1 + (flat p).length
        omega
def enSp (r : Option (List Cu) × Int) : V := .tup [slZ r.1, .int .i64 r.2]
theorem bel_Sp {n : Nat} {r : Option (List Cu) × Int} : (enSp r).bel n = true := by simp [enSp, bel_tup, belAll_cons, belAll_nil, bel_slZ, bel_int]
end Go.Proofs.YtllfdnbnkncnhaaDoor

/- Chapter 44: Space, by the program. -/
set_option maxRecDepth 100000
set_option maxHeartbeats 4000000
set_option linter.all false
namespace Go.Proofs.YtllfdnbnkncnhaaDoor
open Go.Vm
def spaceL (l : List Nd) (R : Option (List Cu) × Int) : Prop := (checkP l ≠ 0 ∧ R = (none, checkP l)) ∨ (checkP l = 0 ∧ ∃ p, okP p ∧ l = flat p ∧ R = if (spc p).2 = 0 then ((spc p).1, 0) else (none, (spc p).2))
theorem pc18 (l : List Nd) (hl : l.length ≤ 4000000) (R : Option (List Cu) × Int) (h : spaceL l R) : PC Tryd.prog 18 [slN l] (enSp R) := by
  rcases h with ⟨hc, rfl⟩ | ⟨hc, p, hp, e, rfl⟩
  · refine PC.walk tok mixed cfg0 Tryd.func18 rfl Tryd.call18 (by simp [bel_slZ, bel_M, fmN, fm0, belN, bel_Ns, bel_slN, belC, bel_Cs, bel_slC, bel_encLE, bel_Sp]) (by first | rfl | simp [bel_slZ, bel_M, fmN, fm0, belN, bel_Ns, bel_slN, belC, bel_Cs, bel_slC, bel_encLE, bel_Sp]) ?_; simp (config := { maxSteps := 2000000 }) -implicitDefEqProofs +contextual (disch := first | assumption | omega | decide +kernel) only [push_cast, ↓capI, br2_true, br2_false, frk_tt, frk_tf, frk_f, frkD_tt, frkD_tf, frkD_f, pk2_true, pk2_false, imp_true, seval, Nat.reduceLeDiff, Nat.reduceEqDiff, reduceCtorEq, ↓reduceIte, reduceCtorEq, fmN, fm0, take_N, toN1, slN_nil, encN, encC, slN, slC, cfg0, cfg31, get_flat_part lenN, get_flat_drop lenN, len_flat lenN, keys_M, get_M, del_M, os_slZ, st_slZ, rn_slZ, rn_N, rn_M, rn_C, keeps_cells, keeps_map, keeps_nil, V.rn, rns, qn, setPs, rnOs, Ob.rn, List.set_cons_zero, List.set_cons_succ, encLE, Tryd.ntmps18]
    refine callO.pc (pc9 l hl) ?_
    simp (config := { maxSteps := 2000000 }) -implicitDefEqProofs +contextual (disch := first | assumption | omega | decide +kernel) only [push_cast, ↓capI, br2_true, br2_false, frk_tt, frk_tf, frk_f, frkD_tt, frkD_tf, frkD_f, pk2_true, pk2_false, imp_true, seval, Nat.reduceLeDiff, Nat.reduceEqDiff, reduceCtorEq, ↓reduceIte, reduceCtorEq, fmN, fm0, take_N, toN1, slN_nil, encN, encC, slN, slC, cfg0, cfg31, get_flat_part lenN, get_flat_drop lenN, len_flat lenN, keys_M, get_M, del_M, os_slZ, st_slZ, rn_slZ, rn_N, rn_M, rn_C, keeps_cells, keeps_map, keeps_nil, V.rn, rns, qn, setPs, rnOs, Ob.rn, List.set_cons_zero, List.set_cons_succ, encLE, hc]
    refine endK.ret ?_ (by first | rfl | simp [bel_slZ, bel_M, fmN, fm0, belN, bel_Ns, bel_slN, belC, bel_Cs, bel_slC, bel_encLE, bel_Sp]); simp [evRes, getT, retV, Tryd.f18,  enSp, slZ]
  · have i0 := pc9 l hl
    rw [hc] at i0
    obtain ⟨n, M', g, f⟩ := pg31 l hl p 0 [] [] hp (by rw [List.append_nil, List.drop_zero, e]) (fun q hq => by cases hq)
    simp only [hpS] at g
    by_cases h0 : (spc p).2 = 0
    · obtain ⟨rfl, rfl⟩ := f h0
      have k := pg32 l ([] ++ ent 0 (spc p).1) 0
      rw [List.nil_append, (getM_ent 0 (spc p).1).1, (getM_ent 0 (spc p).1).2] at k
      simp only [hpS] at k
      rw [List.nil_append] at g
      rw [if_pos h0]
      rw [h0] at g
      refine PC.walk tok mixed cfg0 Tryd.func18 rfl Tryd.call18 (by simp [bel_slZ, bel_M, fmN, fm0, belN, bel_Ns, bel_slN, belC, bel_Cs, bel_slC, bel_encLE, bel_Sp]) (by first | rfl | simp [bel_slZ, bel_M, fmN, fm0, belN, bel_Ns, bel_slN, belC, bel_Cs, bel_slC, bel_encLE, bel_Sp]) ?_; simp (config := { maxSteps := 2000000 }) -implicitDefEqProofs +contextual (disch := first | assumption | omega | decide +kernel) only [push_cast, ↓capI, br2_true, br2_false, frk_tt, frk_tf, frk_f, frkD_tt, frkD_tf, frkD_f, pk2_true, pk2_false, imp_true, seval, Nat.reduceLeDiff, Nat.reduceEqDiff, reduceCtorEq, ↓reduceIte, reduceCtorEq, fmN, fm0, take_N, toN1, slN_nil, encN, encC, slN, slC, cfg0, cfg31, get_flat_part lenN, get_flat_drop lenN, len_flat lenN, keys_M, get_M, del_M, os_slZ, st_slZ, rn_slZ, rn_N, rn_M, rn_C, keeps_cells, keeps_map, keeps_nil, V.rn, rns, qn, setPs, rnOs, Ob.rn, List.set_cons_zero, List.set_cons_succ, encLE, Tryd.ntmps18]
      refine callO.pc i0 ?_
      simp (config := { maxSteps := 2000000 }) -implicitDefEqProofs +contextual (disch := first | assumption | omega | decide +kernel) only [push_cast, ↓capI, br2_true, br2_false, frk_tt, frk_tf, frk_f, frkD_tt, frkD_tf, frkD_f, pk2_true, pk2_false, imp_true, seval, Nat.reduceLeDiff, Nat.reduceEqDiff, reduceCtorEq, ↓reduceIte, reduceCtorEq, fmN, fm0, take_N, toN1, slN_nil, encN, encC, slN, slC, cfg0, cfg31, get_flat_part lenN, get_flat_drop lenN, len_flat lenN, keys_M, get_M, del_M, os_slZ, st_slZ, rn_slZ, rn_N, rn_M, rn_C, keeps_cells, keeps_map, keeps_nil, V.rn, rns, qn, setPs, rnOs, Ob.rn, List.set_cons_zero, List.set_cons_succ, encLE]
      refine callO.part0 [1, 0] g (by decide) rfl rfl ⟨by simp [rnOs, Ob.rn, rns, V.rn, qn, rn_N, slN, getO, enM], by simp, by simp [rnOs, Ob.rn, rn_M, getO, enM], by simp, trivial⟩ ?_
      simp (config := { maxSteps := 2000000 }) -implicitDefEqProofs +contextual (disch := first | assumption | omega | decide +kernel) only [push_cast, ↓capI, br2_true, br2_false, frk_tt, frk_tf, frk_f, frkD_tt, frkD_tf, frkD_f, pk2_true, pk2_false, imp_true, seval, Nat.reduceLeDiff, Nat.reduceEqDiff, reduceCtorEq, ↓reduceIte, reduceCtorEq, fmN, fm0, take_N, toN1, slN_nil, encN, encC, slN, slC, cfg0, cfg31, get_flat_part lenN, get_flat_drop lenN, len_flat lenN, keys_M, get_M, del_M, os_slZ, st_slZ, rn_slZ, rn_N, rn_M, rn_C, keeps_cells, keeps_map, keeps_nil, V.rn, rns, qn, setPs, rnOs, Ob.rn, List.set_cons_zero, List.set_cons_succ, encLE, h0]
      refine callO.part0 [1, 0] k (by decide) rfl rfl ⟨by simp [rnOs, Ob.rn, rns, V.rn, qn, rn_N, slN, getO], by simp, by simp [rnOs, Ob.rn, rn_M, getO], by simp, trivial⟩ ?_
      simp (config := { maxSteps := 2000000 }) -implicitDefEqProofs +contextual (disch := first | assumption | omega | decide +kernel) only [push_cast, ↓capI, br2_true, br2_false, frk_tt, frk_tf, frk_f, frkD_tt, frkD_tf, frkD_f, pk2_true, pk2_false, imp_true, seval, Nat.reduceLeDiff, Nat.reduceEqDiff, reduceCtorEq, ↓reduceIte, reduceCtorEq, fmN, fm0, take_N, toN1, slN_nil, encN, encC, slN, slC, cfg0, cfg31, get_flat_part lenN, get_flat_drop lenN, len_flat lenN, keys_M, get_M, del_M, os_slZ, st_slZ, rn_slZ, rn_N, rn_M, rn_C, keeps_cells, keeps_map, keeps_nil, V.rn, rns, qn, setPs, rnOs, Ob.rn, List.set_cons_zero, List.set_cons_succ, encLE]
      refine endK.ret ?_ (by first | rfl | simp [bel_slZ, bel_M, fmN, fm0, belN, bel_Ns, bel_slN, belC, bel_Cs, bel_slC, bel_encLE, bel_Sp]); simp [evRes, getT, retV, Tryd.f18,  enSp]
    · rw [if_neg h0]
      refine PC.walk tok mixed cfg0 Tryd.func18 rfl Tryd.call18 (by simp [bel_slZ, bel_M, fmN, fm0, belN, bel_Ns, bel_slN, belC, bel_Cs, bel_slC, bel_encLE, bel_Sp]) (by first | rfl | simp [bel_slZ, bel_M, fmN, fm0, belN, bel_Ns, bel_slN, belC, bel_Cs, bel_slC, bel_encLE, bel_Sp]) ?_; simp (config := { maxSteps := 2000000 }) -implicitDefEqProofs +contextual (disch := first | assumption | omega | decide +kernel) only [push_cast, ↓capI, br2_true, br2_false, frk_tt, frk_tf, frk_f, frkD_tt, frkD_tf, frkD_f, pk2_true, pk2_false, imp_true, seval, Nat.reduceLeDiff, Nat.reduceEqDiff, reduceCtorEq, ↓reduceIte, reduceCtorEq, fmN, fm0, take_N, toN1, slN_nil, encN, encC, slN, slC, cfg0, cfg31, get_flat_part lenN, get_flat_drop lenN, len_flat lenN, keys_M, get_M, del_M, os_slZ, st_slZ, rn_slZ, rn_N, rn_M, rn_C, keeps_cells, keeps_map, keeps_nil, V.rn, rns, qn, setPs, rnOs, Ob.rn, List.set_cons_zero, List.set_cons_succ, encLE, Tryd.ntmps18]
      refine callO.pc i0 ?_
      simp (config := { maxSteps := 2000000 }) -implicitDefEqProofs +contextual (disch := first | assumption | omega | decide +kernel) only [push_cast, ↓capI, br2_true, br2_false, frk_tt, frk_tf, frk_f, frkD_tt, frkD_tf, frkD_f, pk2_true, pk2_false, imp_true, seval, Nat.reduceLeDiff, Nat.reduceEqDiff, reduceCtorEq, ↓reduceIte, reduceCtorEq, fmN, fm0, take_N, toN1, slN_nil, encN, encC, slN, slC, cfg0, cfg31, get_flat_part lenN, get_flat_drop lenN, len_flat lenN, keys_M, get_M, del_M, os_slZ, st_slZ, rn_slZ, rn_N, rn_M, rn_C, keeps_cells, keeps_map, keeps_nil, V.rn, rns, qn, setPs, rnOs, Ob.rn, List.set_cons_zero, List.set_cons_succ, encLE]
      refine callO.part0 [1, 0] g (by decide) rfl rfl ⟨by simp [rnOs, Ob.rn, rns, V.rn, qn, rn_N, slN, getO, enM], by simp, by simp [rnOs, Ob.rn, rn_M, getO, enM], by simp, trivial⟩ ?_
      simp (config := { maxSteps := 2000000 }) -implicitDefEqProofs +contextual (disch := first | assumption | omega | decide +kernel) only [push_cast, ↓capI, br2_true, br2_false, frk_tt, frk_tf, frk_f, frkD_tt, frkD_tf, frkD_f, pk2_true, pk2_false, imp_true, seval, Nat.reduceLeDiff, Nat.reduceEqDiff, reduceCtorEq, ↓reduceIte, reduceCtorEq, fmN, fm0, take_N, toN1, slN_nil, encN, encC, slN, slC, cfg0, cfg31, get_flat_part lenN, get_flat_drop lenN, len_flat lenN, keys_M, get_M, del_M, os_slZ, st_slZ, rn_slZ, rn_N, rn_M, rn_C, keeps_cells, keeps_map, keeps_nil, V.rn, rns, qn, setPs, rnOs, Ob.rn, List.set_cons_zero, List.set_cons_succ, encLE, h0]
      refine endK.ret ?_ (by first | rfl | simp [bel_slZ, bel_M, fmN, fm0, belN, bel_Ns, bel_slN, belC, bel_Cs, bel_slC, bel_encLE, bel_Sp]); simp [evRes, getT, retV, Tryd.f18,  enSp, slZ]
/-- an error of the space is not 0 and leaves no space -/
theorem spaceL_bad {l : List Nd} {R : Option (List Cu) × Int} (h : spaceL l R) (h0 : R.2 ≠ 0) : R.1 = none := by
  rcases h with ⟨hc, rfl⟩ | ⟨hc, p, hp, e, rfl⟩
  · rfl
  · split at h0
    · exact absurd rfl h0
    · rename_i h1
      rw [if_neg h1]
end Go.Proofs.YtllfdnbnkncnhaaDoor

/- Chapter 44: the space of a predicate holds the flows that satisfy it. -/
set_option maxRecDepth 100000
set_option maxHeartbeats 4000000
set_option linter.all false
namespace Go.Proofs.YtllfdnbnkncnhaaDoor
open Go.Vm

theorem encf_lt (f : Fl) : encf f < 16777216 := by
  have h1 := f.s.toNat_lt
  have h2 := f.d.toNat_lt
  have h3 := f.t.toNat_lt
  unfold encf
  omega
theorem dec_enc (f : Fl) : decf (encf f) = f := by
  have h1 := f.s.toNat_lt
  have h2 := f.d.toNat_lt
  have h3 := f.t.toNat_lt
  obtain ⟨s, d, t⟩ := f
  simp only at h1 h2 h3
  simp only [decf, encf]
  congr 1
  · apply UInt8.toNat_inj.1
    rw [UInt8.toNat_ofNat']
    omega
  · apply UInt8.toNat_inj.1
    rw [UInt8.toNat_ofNat']
    omega
  · apply UInt8.toNat_inj.1
    rw [UInt8.toNat_ofNat']
    omega
theorem enc_dec (n : Nat) : encf (decf n) = n % 16777216 := by
  simp only [decf, encf, UInt8.toNat_ofNat']
  omega
/-- the place of a field's lowest bit -/
def sh8 (i : Int) : Nat := (8 * (2 - i)).toNat
theorem fval_nat (n : Nat) {i : Int} (hi : 0 ≤ i ∧ i ≤ 2) : (fval (decf n) i).toNat = n / 2 ^ sh8 i % 256 := by
  have h3 : i = 0 ∨ i = 1 ∨ i = 2 := by omega
  rcases h3 with rfl | rfl | rfl
  · show (UInt8.ofNat (n / 65536)).toNat = n / 2 ^ 16 % 256
    rw [UInt8.toNat_ofNat']
  · show (UInt8.ofNat (n / 256)).toNat = n / 2 ^ 8 % 256
    rw [UInt8.toNat_ofNat']
  · show (UInt8.ofNat n).toNat = n / 2 ^ 0 % 256
    rw [UInt8.toNat_ofNat', Nat.pow_zero, Nat.div_one]
theorem fval_bit (n : Nat) {i : Int} (hi : 0 ≤ i ∧ i ≤ 2) {b : Nat} (hb : b < 8) : (fval (decf n) i).toNat.testBit b = n.testBit (sh8 i + b) := by
  rw [fval_nat n hi, show (256 : Nat) = 2 ^ 8 from rfl, Nat.testBit_mod_two_pow, decide_eq_true hb, Bool.true_and, ← Nat.shiftRight_eq_div_pow, Nat.testBit_shiftRight]
theorem u8_hi (a : UInt8) {b : Nat} (h : ¬ b < 8) : a.toNat.testBit b = false :=
  Nat.testBit_lt_two_pow (Nat.lt_of_lt_of_le a.toNat_lt (Nat.pow_le_pow_right (by omega) (by omega)))
theorem u8_iff (a v m : UInt8) : (a ^^^ v) &&& m = 0 ↔ ∀ b, b < 8 → m.toNat.testBit b = true → a.toNat.testBit b = v.toNat.testBit b := by
  rw [← UInt8.toNat_inj, UInt8.toNat_and, UInt8.toNat_xor]
  constructor
  · intro h b _ hm
    have := congrArg (fun x => Nat.testBit x b) h
    simp only [Nat.testBit_and, Nat.testBit_xor, hm, Bool.and_true] at this
    revert this
    cases a.toNat.testBit b <;> cases v.toNat.testBit b <;> simp
  · intro h
    apply Nat.eq_of_testBit_eq
    intro b
    simp only [Nat.testBit_and, Nat.testBit_xor]
    by_cases hb : b < 8
    · cases hm : m.toNat.testBit b
      · simp
      · rw [h b hb hm]; simp
    · rw [u8_hi m hb]; simp
theorem place_bit (v : UInt8) (i : Int) {j : Nat} (hj : j < 64) : (place8 v i).getLsbD j = (decide (sh8 i ≤ j) && v.toNat.testBit (j - sh8 i)) := by
  rw [place8, BitVec.getLsbD_shiftLeft, BitVec.getLsbD_ofNat]
  have h1 : decide (j < 64) = true := decide_eq_true hj
  have h2 : decide (j - sh8 i < 64) = true := decide_eq_true (by omega)
  show (decide (j < 64) && !decide (j < sh8 i) && (decide (j - sh8 i < 64) && v.toNat.testBit (j - sh8 i))) = _
  rw [h1, h2, Bool.true_and, Bool.true_and]
  congr 1
  by_cases h : sh8 i ≤ j
  · rw [decide_eq_true h, decide_eq_false (by omega)]; rfl
  · rw [decide_eq_false h, decide_eq_true (by omega)]; rfl
theorem sh8_le {i : Int} (hi : 0 ≤ i ∧ i ≤ 2) : sh8 i ≤ 16 := by unfold sh8; omega
theorem mem_cubeN (f : Fl) (x : Nd) (hi : 0 ≤ x.fd ∧ x.fd ≤ 2) : mem (cubeN x) (BitVec.ofNat 64 (encf f)) = decide ((fval f x.fd ^^^ x.v) &&& x.m = 0) := by
  have hs := sh8_le hi
  rw [Bool.eq_iff_iff, mem_iff, decide_eq_true_eq, u8_iff]
  constructor
  · intro h b hb hm
    have := h (sh8 x.fd + b) (by omega)
    simp only [cubeN] at this
    rw [place_bit x.m _ (by omega), place_bit x.v _ (by omega), BitVec.getLsbD_ofNat, decide_eq_true (by omega : sh8 x.fd ≤ sh8 x.fd + b), Nat.add_sub_cancel_left, decide_eq_true (by omega : sh8 x.fd + b < 64), Bool.true_and, Bool.true_and, Bool.true_and] at this
    have e := fval_bit (encf f) hi hb
    rw [dec_enc] at e
    rw [e]
    exact (this hm).symm
  · intro h j hj hm
    simp only [cubeN] at hm ⊢
    rw [place_bit _ _ hj] at hm ⊢
    simp only [Bool.and_eq_true, decide_eq_true_eq] at hm
    obtain ⟨h1, h2⟩ := hm
    have hb : j - sh8 x.fd < 8 := by
      apply Decidable.byContradiction
      intro hn
      rw [u8_hi x.m hn] at h2
      cases h2
    have e := fval_bit (encf f) hi hb
    rw [dec_enc, show sh8 x.fd + (j - sh8 x.fd) = j by omega] at e
    rw [decide_eq_true h1, Bool.true_and, BitVec.getLsbD_ofNat, decide_eq_true hj, Bool.true_and, ← e]
    exact (h _ hb h2).symm
theorem ok_cubeN {x : Nd} (hi : 0 ≤ x.fd ∧ x.fd ≤ 2) (hz : x.v &&& ~~~ x.m = 0) : Ok 24 (cubeN x) := by
  have hs := sh8_le hi
  refine ⟨fun j hj h => ?_, fun j hj h => ?_⟩
  · simp only [cubeN] at h ⊢
    rw [place_bit _ _ hj] at h ⊢
    simp only [Bool.and_eq_true, decide_eq_true_eq] at h ⊢
    refine ⟨h.1, ?_⟩
    have hb : j - sh8 x.fd < 8 := by
      apply Decidable.byContradiction
      intro hn
      rw [u8_hi x.v hn] at h
      cases h.2
    have h' := (mask8 x.m x.v x.m hz)
    have hq := UInt8.toBitVec_inj.2 hz
    have hq2 := congrArg (fun y => BitVec.getLsbD y (j - sh8 x.fd)) hq
    simp only [UInt8.toBitVec_and, UInt8.toBitVec_not, BitVec.getLsbD_and, BitVec.getLsbD_not, hb, decide_true, Bool.true_and] at hq2
    have hv : x.v.toBitVec.getLsbD (j - sh8 x.fd) = true := h.2
    show x.m.toBitVec.getLsbD (j - sh8 x.fd) = true
    rw [hv, Bool.true_and] at hq2
    simpa using hq2
  · simp only [cubeN] at h
    rw [place_bit _ _ hj] at h
    simp only [Bool.and_eq_true, decide_eq_true_eq] at h
    have hb : j - sh8 x.fd < 8 := by
      apply Decidable.byContradiction
      intro hn
      rw [u8_hi x.m hn] at h
      cases h.2
    have hge : 0 ≤ x.fd := hi.1
    unfold sh8 at hs hb h
    omega
theorem ok_all : Ok 24 ⟨0#64, 0#64⟩ := ⟨fun j _ h => by simp at h, fun j _ h => by simp at h⟩
theorem mem_all (n : W64) : mem ⟨0#64, 0#64⟩ n = true := mem_iff.2 fun j _ h => by simp at h
theorem spc_means : ∀ {p : Pr}, okP p → (spc p).2 = 0 → (∀ c, c ∈ (spc p).1.getD [] → Ok 24 c) ∧ ∀ f : Fl, anyMem ((spc p).1.getD []) (BitVec.ofNat 64 (encf f)) = evP f p
  | .leaf x, ⟨h0, hc⟩, _ => by
    rw [spc]
    rcases h0 with h | h | h
    · rw [if_pos h]
      refine ⟨fun c hc => ?_, fun f => ?_⟩
      · rw [List.mem_singleton.1 hc]
        exact ok_all
      · rw [evP, if_pos h]
        simp [anyMem, mem_all]
    · rw [if_neg (by omega), if_pos h]
      refine ⟨fun c hc => (by cases hc), fun f => ?_⟩
      rw [evP, if_neg (by omega), if_pos h]
      rfl
    · obtain ⟨hi, hz⟩ := leaf_bad h hc
      rw [if_neg (by omega), if_neg (by omega)]
      refine ⟨fun c hc => ?_, fun f => ?_⟩
      · rw [List.mem_singleton.1 hc]
        exact ok_cubeN hi hz
      · rw [evP, if_neg (by omega), if_neg (by omega), ← mem_cubeN f x hi]
        simp [anyMem]
  | .un x p, ⟨h4, hp⟩, he => by
    rw [spc] at he ⊢
    by_cases h1 : (spc p).2 = 0
    case neg => rw [if_pos h1] at he; exact absurd he h1
    rw [if_neg (fun g => g h1)] at he ⊢
    obtain ⟨i1, i2⟩ := spc_means hp h1
    generalize (spc p).1.getD [] = A at he i1 i2 ⊢
    by_cases h2 : (compl8 A 24).2 = 0
    case neg => rw [if_pos h2] at he; exact absurd he h2
    rw [if_neg (fun g => g h2)]
    have e : subt8 [⟨0#64, 0#64⟩] A ((24 : Nat) : Int) = ((compl8 A 24).1, 0) := pair_eq h2
    obtain ⟨g1, g2, _⟩ := subt8_spec (by decide) (by decide) e
    refine ⟨g1, fun f => ?_⟩
    rw [Option.getD_some, g2, map_cut (by decide) i1, i2, evP]
    have e0 : ([⟨0#64, 0#64⟩].map fun c => cutC c 24) = [⟨0#64, 0#64⟩] := map_cut (by decide) (fun c hc => by rw [List.mem_singleton.1 hc]; exact ok_all)
    rw [e0]
    simp [anyMem, mem_all]
  | .bin x p q, ⟨h56, hp, hq⟩, he => by
    rw [spc] at he ⊢
    by_cases h1 : (spc p).2 = 0
    case neg => rw [if_pos h1] at he; exact absurd he h1
    rw [if_neg (fun g => g h1)] at he ⊢
    by_cases h2 : (spc q).2 = 0
    case neg => rw [if_pos h2] at he; exact absurd he h2
    rw [if_neg (fun g => g h2)] at he ⊢
    obtain ⟨i1, i2⟩ := spc_means hp h1
    obtain ⟨j1, j2⟩ := spc_means hq h2
    generalize (spc p).1.getD [] = A at he i1 i2 ⊢
    generalize (spc q).1.getD [] = B at he j1 j2 ⊢
    by_cases h : x.op = 5
    · rw [if_pos h] at he ⊢
      by_cases h3 : (inter8 A B).2 = 0
      case neg => rw [if_pos h3] at he; exact absurd he h3
      rw [if_neg (fun g => g h3)]
      obtain ⟨g1, g2⟩ := inter8_spec (pair_eq h3)
      exact ⟨g2 24 i1 j1, fun f => by rw [Option.getD_some, g1, i2, j2, evP, if_pos h]⟩
    · rw [if_neg h] at he ⊢
      by_cases h3 : (fin8 (A ++ B)).2 = 0
      case neg => rw [if_pos h3] at he; exact absurd he h3
      rw [if_neg (fun g => g h3)]
      have g := fin8_spec (pair_eq h3)
      refine ⟨fun c hc => ?_, fun f => ?_⟩
      · rw [Option.getD_some, g] at hc
        exact ok_simp8 (fun c hc => (List.mem_append.1 hc).elim (i1 c) (j1 c)) c hc
      · rw [Option.getD_some, g, simp8_any, any_append, i2, j2, evP, if_neg h]
end Go.Proofs.YtllfdnbnkncnhaaDoor

/- Chapter 44: the chapter's examples. -/
set_option maxRecDepth 100000
set_option maxHeartbeats 4000000
set_option linter.all false
namespace Go.Proofs.YtllfdnbnkncnhaaDoor
open Go.Vm

theorem st_N {l : List Nd} : (slN l).st = slN l := rfl
theorem os_N {g : Bool} {l : List Nd} {xs : List V} {p : Prop} : optSide g (slN l :: xs) p = optSide g xs p := rfl
def p0 : Pr := .bin (op0 5) (.leaf ⟨3, 0, 5, 255⟩) (.un (op0 4) (.leaf ⟨3, 2, 0, 12⟩))
def n0 : List Nd := flat p0
def s0 : List UInt8 := [115, 114, 99, 61, 53, 38, 33, 116, 121, 112, 101, 61, 48, 47, 49, 50]
theorem tx0 : tx p0 = s0 := by decide +kernel
theorem chk0 : checkP n0 = 0 := by decide +kernel
theorem par0 : parP s0 = (n0, 0) := by decide +kernel
theorem par1 : parP [115, 114, 99, 61, 49, 47, 50, 53, 53] = ([], 23) := by decide +kernel
theorem par2 : parP [115, 114, 99, 61, 50, 53, 54] = ([], 5) := by decide +kernel
theorem spc0 : (spc p0).2 = 0 := by decide +kernel
theorem spc0l : ((spc p0).1.getD []).length ≠ 0 := by decide +kernel
theorem ok0 : okP p0 := ⟨.inl rfl, ⟨.inr (.inr rfl), by decide +kernel⟩, rfl, .inr (.inr rfl), by decide +kernel⟩
def f1 : Fl := ⟨5, 9, 4⟩
def f2 : Fl := ⟨5, 9, 3⟩
theorem ev1 : evP f1 p0 = true := by decide +kernel
theorem ev2 : evP f2 p0 = false := by decide +kernel
theorem n0_len : n0.length = 4 := rfl
theorem fs0 : PC Tryd.prog 24 [.sl true [] 0] (.tup [slN [⟨2, 0, 0, 0⟩], .int .i64 0]) := by
  refine PC.lax ?_
  have h := pc24 [] (Nat.zero_le _) (.tup [slN [⟨2, 0, 0, 0⟩], .int .i64 0]) ⟨fun _ => rfl, fun j hj h => absurd h (by rw [Nat.le_zero.1 hj]; decide)⟩ rfl
  exact h
theorem eq_refl26 (l : List Nd) (h : l.length ≤ 4000000) : PC Tryd.prog 26 [slN l, slN l] (.bool true) :=
  pc26 l l h h true ⟨fun _ => ⟨rfl, fun _ _ _ _ => ⟨rfl, fun _ => rfl⟩⟩, fun _ => rfl⟩
theorem pc8 : PC Tryd.prog 8 [] (.bool true) := by
  have hl : n0.length ≤ 4000000 := by decide
  have e0 : (V.sl false [.int .i64 5, .int .i64 0, .int .u8 0, .int .u8 0, .int .i64 3, .int .i64 0, .int .u8 5, .int .u8 255, .int .i64 4, .int .i64 0, .int .u8 0, .int .u8 0, .int .i64 3, .int .i64 2, .int .u8 0, .int .u8 12] 4) = slN n0 := rfl
  have eM : slM n0 = slN n0 := slM_cons (by decide)
  have h20 := pc20 n0 hl s0 0 ⟨chk0.symm, .inl ⟨chk0, p0, ok0, rfl, tx0.symm⟩⟩
  have h22 := pc22 s0
  rw [par0, encMI] at h22
  simp only [eM] at h22
  have h22a := pc22 [115, 114, 99, 61, 49, 47, 50, 53, 53]
  rw [par1, encMI] at h22a
  have h22b := pc22 [115, 114, 99, 61, 50, 53, 54]
  rw [par2, encMI] at h22b
  have h18 := pc18 n0 hl _ (.inr ⟨chk0, p0, ok0, rfl, rfl⟩)
  rw [if_pos spc0, enSp] at h18
  have hz := spc0l
  have h11a := pc11 f1 n0 hl true (.inl ⟨chk0, p0, ok0, rfl, ev1.symm⟩)
  have h11b := pc11 f2 n0 hl false (.inl ⟨chk0, p0, ok0, rfl, ev2.symm⟩)
  have e1 : (V.sl false [.int .i64 2, .int .i64 0, .int .u8 0, .int .u8 0] 1) = slN [⟨2, 0, 0, 0⟩] := rfl
  have h14 := pc14 ⟨1, 2, 3⟩
  rw [show ((encf ⟨1, 2, 3⟩ : Nat) : Int) = 66051 from rfl, show encF ⟨1, 2, 3⟩ = [.int .u8 1, .int .u8 2, .int .u8 3] from rfl] at h14
  have h13 := pc13 66051 (by decide)
  rw [show encF (decf 66051) = [.int .u8 1, .int .u8 2, .int .u8 3] from by rw [show decf 66051 = ⟨1, 2, 3⟩ from by decide +kernel]; rfl, show ((66051 : Nat) : Int) = 66051 from rfl] at h13
  rw [show encF f1 = [.int .u8 5, .int .u8 9, .int .u8 4] from rfl] at h11a
  rw [show encF f2 = [.int .u8 5, .int .u8 9, .int .u8 3] from rfl] at h11b
  have h26 := eq_refl26 n0 hl
  have h26b := eq_refl26 [⟨2, 0, 0, 0⟩] (by decide)
  unfold s0 at h20 h22
  refine PC.walk tok mixed cfg0 Tryd.func8 rfl Tryd.call8 (by simp [bel_LN, belN, bel_Ns, bel_slN, bel_slM, bel_MI, bel_Sp, bel_slZ]) (by first | rfl | simp [bel_LN, belN, bel_Ns, bel_slN, bel_slM, bel_MI, bel_Sp, bel_slZ]) ?_; simp (config := { maxSteps := 2000000 }) -implicitDefEqProofs +contextual (disch := first | assumption | omega | decide +kernel) only [push_cast, ↓capI, br2_true, br2_false, frk_tt, frk_tf, frk_f, frkD_tt, frkD_tf, frkD_f, pk2_true, pk2_false, imp_true, seval, Nat.reduceLeDiff, Nat.reduceEqDiff, reduceCtorEq, ↓reduceIte, reduceCtorEq, cfg0, st_N, os_N, st_slZ, os_slZ, st_M, os_M, slM_nil, Tryd.ntmps8]
  simp (config := { maxSteps := 2000000 }) -implicitDefEqProofs +contextual (disch := first | assumption | omega | decide +kernel) only [push_cast, ↓capI, br2_true, br2_false, frk_tt, frk_tf, frk_f, frkD_tt, frkD_tf, frkD_f, pk2_true, pk2_false, imp_true, seval, Nat.reduceLeDiff, Nat.reduceEqDiff, reduceCtorEq, ↓reduceIte, reduceCtorEq, cfg0, st_N, os_N, st_slZ, os_slZ, st_M, os_M, slM_nil, e0]
  refine callO.pc h20 ?_
  simp (config := { maxSteps := 2000000 }) -implicitDefEqProofs +contextual (disch := first | assumption | omega | decide +kernel) only [push_cast, ↓capI, br2_true, br2_false, frk_tt, frk_tf, frk_f, frkD_tt, frkD_tf, frkD_f, pk2_true, pk2_false, imp_true, seval, Nat.reduceLeDiff, Nat.reduceEqDiff, reduceCtorEq, ↓reduceIte, reduceCtorEq, cfg0, st_N, os_N, st_slZ, os_slZ, st_M, os_M, slM_nil]
  refine callO.pc h22 ?_
  simp (config := { maxSteps := 2000000 }) -implicitDefEqProofs +contextual (disch := first | assumption | omega | decide +kernel) only [push_cast, ↓capI, br2_true, br2_false, frk_tt, frk_tf, frk_f, frkD_tt, frkD_tf, frkD_f, pk2_true, pk2_false, imp_true, seval, Nat.reduceLeDiff, Nat.reduceEqDiff, reduceCtorEq, ↓reduceIte, reduceCtorEq, cfg0, st_N, os_N, st_slZ, os_slZ, st_M, os_M, slM_nil]
  refine callO.pc h22a ?_
  simp (config := { maxSteps := 2000000 }) -implicitDefEqProofs +contextual (disch := first | assumption | omega | decide +kernel) only [push_cast, ↓capI, br2_true, br2_false, frk_tt, frk_tf, frk_f, frkD_tt, frkD_tf, frkD_f, pk2_true, pk2_false, imp_true, seval, Nat.reduceLeDiff, Nat.reduceEqDiff, reduceCtorEq, ↓reduceIte, reduceCtorEq, cfg0, st_N, os_N, st_slZ, os_slZ, st_M, os_M, slM_nil]
  refine callO.pc h22b ?_
  simp (config := { maxSteps := 2000000 }) -implicitDefEqProofs +contextual (disch := first | assumption | omega | decide +kernel) only [push_cast, ↓capI, br2_true, br2_false, frk_tt, frk_tf, frk_f, frkD_tt, frkD_tf, frkD_f, pk2_true, pk2_false, imp_true, seval, Nat.reduceLeDiff, Nat.reduceEqDiff, reduceCtorEq, ↓reduceIte, reduceCtorEq, cfg0, st_N, os_N, st_slZ, os_slZ, st_M, os_M, slM_nil]
  refine callO.pc fs0 ?_
  simp (config := { maxSteps := 2000000 }) -implicitDefEqProofs +contextual (disch := first | assumption | omega | decide +kernel) only [push_cast, ↓capI, br2_true, br2_false, frk_tt, frk_tf, frk_f, frkD_tt, frkD_tf, frkD_f, pk2_true, pk2_false, imp_true, seval, Nat.reduceLeDiff, Nat.reduceEqDiff, reduceCtorEq, ↓reduceIte, reduceCtorEq, cfg0, st_N, os_N, st_slZ, os_slZ, st_M, os_M, slM_nil]
  refine callO.pc h18 ?_
  cases hs : (spc p0).1 with
  | none => rw [hs] at hz; exact absurd rfl hz
  | some z =>
  have hz2 : (0 : Int) < z.length := by rw [hs] at hz; simp only [Option.getD_some] at hz; omega
  simp (config := { maxSteps := 2000000 }) -implicitDefEqProofs +contextual (disch := first | assumption | omega | decide +kernel) only [push_cast, ↓capI, br2_true, br2_false, frk_tt, frk_tf, frk_f, frkD_tt, frkD_tf, frkD_f, pk2_true, pk2_false, imp_true, seval, Nat.reduceLeDiff, Nat.reduceEqDiff, reduceCtorEq, ↓reduceIte, reduceCtorEq, cfg0, st_N, os_N, st_slZ, os_slZ, st_M, os_M, slM_nil, slZ, slC]
  refine callO.pc h26 ?_
  simp (config := { maxSteps := 2000000 }) -implicitDefEqProofs +contextual (disch := first | assumption | omega | decide +kernel) only [push_cast, ↓capI, br2_true, br2_false, frk_tt, frk_tf, frk_f, frkD_tt, frkD_tf, frkD_f, pk2_true, pk2_false, imp_true, seval, Nat.reduceLeDiff, Nat.reduceEqDiff, reduceCtorEq, ↓reduceIte, reduceCtorEq, cfg0, st_N, os_N, st_slZ, os_slZ, st_M, os_M, slM_nil, e1]
  refine callO.pc h26b ?_
  simp (config := { maxSteps := 2000000 }) -implicitDefEqProofs +contextual (disch := first | assumption | omega | decide +kernel) only [push_cast, ↓capI, br2_true, br2_false, frk_tt, frk_tf, frk_f, frkD_tt, frkD_tf, frkD_f, pk2_true, pk2_false, imp_true, seval, Nat.reduceLeDiff, Nat.reduceEqDiff, reduceCtorEq, ↓reduceIte, reduceCtorEq, cfg0, st_N, os_N, st_slZ, os_slZ, st_M, os_M, slM_nil, hz2]
  refine callO.pc h11a ?_
  simp (config := { maxSteps := 2000000 }) -implicitDefEqProofs +contextual (disch := first | assumption | omega | decide +kernel) only [push_cast, ↓capI, br2_true, br2_false, frk_tt, frk_tf, frk_f, frkD_tt, frkD_tf, frkD_f, pk2_true, pk2_false, imp_true, seval, Nat.reduceLeDiff, Nat.reduceEqDiff, reduceCtorEq, ↓reduceIte, reduceCtorEq, cfg0, st_N, os_N, st_slZ, os_slZ, st_M, os_M, slM_nil]
  refine callO.pc h11b ?_
  simp (config := { maxSteps := 2000000 }) -implicitDefEqProofs +contextual (disch := first | assumption | omega | decide +kernel) only [push_cast, ↓capI, br2_true, br2_false, frk_tt, frk_tf, frk_f, frkD_tt, frkD_tf, frkD_f, pk2_true, pk2_false, imp_true, seval, Nat.reduceLeDiff, Nat.reduceEqDiff, reduceCtorEq, ↓reduceIte, reduceCtorEq, cfg0, st_N, os_N, st_slZ, os_slZ, st_M, os_M, slM_nil]
  refine callO.pc h14 ?_
  simp (config := { maxSteps := 2000000 }) -implicitDefEqProofs +contextual (disch := first | assumption | omega | decide +kernel) only [push_cast, ↓capI, br2_true, br2_false, frk_tt, frk_tf, frk_f, frkD_tt, frkD_tf, frkD_f, pk2_true, pk2_false, imp_true, seval, Nat.reduceLeDiff, Nat.reduceEqDiff, reduceCtorEq, ↓reduceIte, reduceCtorEq, cfg0, st_N, os_N, st_slZ, os_slZ, st_M, os_M, slM_nil]
  refine callO.pc h13 ?_
  simp (config := { maxSteps := 2000000 }) -implicitDefEqProofs +contextual (disch := first | assumption | omega | decide +kernel) only [push_cast, ↓capI, br2_true, br2_false, frk_tt, frk_tf, frk_f, frkD_tt, frkD_tf, frkD_f, pk2_true, pk2_false, imp_true, seval, Nat.reduceLeDiff, Nat.reduceEqDiff, reduceCtorEq, ↓reduceIte, reduceCtorEq, cfg0, st_N, os_N, st_slZ, os_slZ, st_M, os_M, slM_nil]
  refine endK.ret ?_ (by first | rfl | simp [bel_LN, belN, bel_Ns, bel_slN, bel_slM, bel_MI, bel_Sp, bel_slZ]); simp [evRes, getT, retV, Tryd.f8]
end Go.Proofs.YtllfdnbnkncnhaaDoor

/- Chapter 44: the arguments of the laws as plain data; from a contract to a statement. -/
set_option maxRecDepth 100000
set_option maxHeartbeats 4000000
set_option linter.all false
namespace Go.Proofs.YtllfdnbnkncnhaaDoor
open Go.Vm Go.ChangeShapes Go.WideShapes Go.ChangeAt Go.RowKit

theorem own : ownKnob Tryd.prog.godebug = none := by kernel_rfl
theorem laidOut : laidOutB Tryd.prog = true := by kernel_rfl
theorem u64_word {i : Int} (h1 : IntKind.u64.min ≤ i) (h2 : i ≤ IntKind.u64.max) : ∃ x : W64, i = (x.toNat : Int) := by
  have e1 : (0 : Int) ≤ i := h1
  have e2 : i ≤ 18446744073709551615 := h2
  refine ⟨BitVec.ofNat 64 i.toNat, ?_⟩
  rw [BitVec.toNat_ofNat, Nat.mod_eq_of_lt (by omega)]
  omega
theorem u8_byte {i : Int} (h1 : IntKind.u8.min ≤ i) (h2 : i ≤ IntKind.u8.max) : ∃ x : UInt8, i = (x.toNat : Int) := by
  have e1 : (0 : Int) ≤ i := h1
  have e2 : i ≤ 255 := h2
  refine ⟨UInt8.ofNat i.toNat, ?_⟩
  rw [UInt8.toNat_ofNat', Nat.mod_eq_of_lt (by omega)]
  omega
theorem typ_U {m : Nat} (c : List V) (h : Typ tt (m + 1) 29 c) : ∃ x : W64, laxs c = [.int .u64 x.toNat] ∧ True := by
  obtain ⟨a, rfl, h1, h2⟩ := typ_int (by rw [tt_29]) h
  obtain ⟨x, rfl⟩ := u64_word h1 h2
  exact ⟨x, rfl, trivial⟩
theorem typ_B {m : Nat} (c : List V) (h : Typ tt (m + 1) 5 c) : ∃ x : UInt8, laxs c = [.int .u8 x.toNat] ∧ True := by
  obtain ⟨a, rfl, h1, h2⟩ := typ_int (by rw [tt_5]) h
  obtain ⟨x, rfl⟩ := u8_byte h1 h2
  exact ⟨x, rfl, trivial⟩
theorem typ_I {m : Nat} (c : List V) (h : Typ tt (m + 1) 3 c) : ∃ x : Int, laxs c = [.int .i64 x] ∧ True := by
  obtain ⟨a, rfl, _⟩ := typ_int (by rw [tt_3]) h
  exact ⟨a, rfl, trivial⟩
theorem typ_C {m : Nat} (c : List V) (h : Typ tt (m + 2) 46 c) : ∃ x : Cu, laxs c = encC x ∧ True := by
  have h := typ_struct (by rw [tt_46]) h
  obtain ⟨c1, r1, rfl, h1, h⟩ := typF_cons h
  obtain ⟨c2, r2, rfl, h2, h⟩ := typF_cons h
  obtain rfl := typF_nil h
  obtain ⟨a, ha, _⟩ := typ_U _ h1
  obtain ⟨b, hb, _⟩ := typ_U _ h2
  refine ⟨⟨a, b⟩, ?_, trivial⟩
  rw [laxs_append, laxs_append, ha, hb]
  rfl
theorem typ_N {m : Nat} (c : List V) (h : Typ tt (m + 2) 49 c) : ∃ x : Nd, laxs c = encN x ∧ True := by
  have h := typ_struct (by rw [tt_49]) h
  obtain ⟨c1, r1, rfl, h1, h⟩ := typF_cons h
  obtain ⟨c2, r2, rfl, h2, h⟩ := typF_cons h
  obtain ⟨c3, r3, rfl, h3, h⟩ := typF_cons h
  obtain ⟨c4, r4, rfl, h4, h⟩ := typF_cons h
  obtain rfl := typF_nil h
  obtain ⟨a, ha, _⟩ := typ_I _ h1
  obtain ⟨b, hb, _⟩ := typ_I _ h2
  obtain ⟨v, hv, _⟩ := typ_B _ h3
  obtain ⟨w, hw, _⟩ := typ_B _ h4
  refine ⟨⟨a, b, v, w⟩, ?_, trivial⟩
  rw [laxs_append, laxs_append, laxs_append, laxs_append, ha, hb, hv, hw]
  rfl
theorem typ_F {m : Nat} (c : List V) (h : Typ tt (m + 2) 24 c) : ∃ x : Fl, laxs c = encF x ∧ True := by
  have h := typ_struct (by rw [tt_24]) h
  obtain ⟨c1, r1, rfl, h1, h⟩ := typF_cons h
  obtain ⟨c2, r2, rfl, h2, h⟩ := typF_cons h
  obtain ⟨c3, r3, rfl, h3, h⟩ := typF_cons h
  obtain rfl := typF_nil h
  obtain ⟨a, ha, _⟩ := typ_B _ h1
  obtain ⟨b, hb, _⟩ := typ_B _ h2
  obtain ⟨v, hv, _⟩ := typ_B _ h3
  refine ⟨⟨a, b, v⟩, ?_, trivial⟩
  rw [laxs_append, laxs_append, laxs_append, ha, hb, hv]
  rfl
theorem mk_F {c : List V} : mkV (tt 24) c = .agg c := by rw [tt_24]; rfl
theorem laxs_one {cs : List V} {y : V} (h : laxs cs = [y]) : ∃ x, cs = [x] ∧ lax x = y := by
  match cs, h with
  | [], h => cases h
  | [x], h => simp only [laxs, List.cons.injEq, and_true] at h; exact ⟨x, rfl, h⟩
  | x :: y :: r, h => simp [laxs] at h
theorem typ_slN {m : Nat} {c : List V} (h : Typ tt (m + 3) 22 c) : ∃ l : List Nd, lax (mkV (tt 22) c) = slN l := by
  obtain ⟨l, hl, _, _⟩ := typ_slice (by rw [tt_22]) typ_N h
  obtain ⟨x, rfl, hx⟩ := laxs_one hl
  refine ⟨l, ?_⟩
  rw [tt_22]
  exact hx
theorem typ_slC {m : Nat} {c : List V} (h : Typ tt (m + 3) 34 c) : ∃ l : List Cu, lax (mkV (tt 34) c) = slC l := by
  obtain ⟨l, hl, _, _⟩ := typ_slice (by rw [tt_34]) typ_C h
  obtain ⟨x, rfl, hx⟩ := laxs_one hl
  refine ⟨l, ?_⟩
  rw [tt_34]
  exact hx
theorem typ_W {m : Nat} {c : List V} (h : Typ tt (m + 1) 29 c) : ∃ x : W64, lax (mkV (tt 29) c) = .int .u64 x.toNat := by
  obtain ⟨a, rfl, h1, h2⟩ := typ_int (by rw [tt_29]) h
  obtain ⟨x, rfl⟩ := u64_word h1 h2
  exact ⟨x, by rw [tt_29]; rfl⟩
theorem spec_one {s : ChangeSpec} {H : Type} (h : s.fn H = fun | [d] => { results := [.lit (.bool true)], args := [d] } | _ => Rows.none) (ds : List (DataW H)) (hl : ds.length = 1) :
    s.fn H ds = { results := [.lit (.bool true)], args := ds } := by
  rw [h]
  match ds, hl with
  | [d], _ => rfl
theorem spec_two {s : ChangeSpec} {H : Type} (h : s.fn H = fun | [d, e] => { results := [.lit (.bool true)], args := [d, e] } | _ => Rows.none) (ds : List (DataW H)) (hl : ds.length = 2) :
    s.fn H ds = { results := [.lit (.bool true)], args := ds } := by
  rw [h]
  match ds, hl with
  | [d, e], _ => rfl
end Go.Proofs.YtllfdnbnkncnhaaDoor

/- Chapter 44: the predicate of a list of cubes is true for the flows in them. -/
set_option maxRecDepth 100000
set_option maxHeartbeats 4000000
set_option linter.all false
namespace Go.Proofs.YtllfdnbnkncnhaaDoor
open Go.Vm

/-- one field of a cube, asked of a flow -/
abbrev Nd0 (o : Int) : Nd := ⟨o, 0, 0, 0⟩
def fm (c : Cu) (f : Fl) (i : Nat) : Prop := (fval f i ^^^ (fval (decf c.v.toNat) i &&& mb c i)) &&& mb c i = 0
instance (c : Cu) (f : Fl) (i : Nat) : Decidable (fm c f i) := inferInstanceAs (Decidable ((fval f i ^^^ (fval (decf c.v.toNat) i &&& mb c i)) &&& mb c i = 0))
theorem fm_zero {c : Cu} {f : Fl} {i : Nat} (h : mb c i = 0) : fm c f i := by rw [fm, h]; exact UInt8.and_zero
theorem nd_ok (c : Cu) {i : Nat} (hi : i < 3) : okP (.leaf (nd c i)) := by
  refine ⟨.inr (.inr rfl), ?_⟩
  have ha : arity 3 = 0 := rfl
  rw [chk1]
  simp only [nd, ha]
  rw [if_neg (by decide), if_neg (by omega), if_neg]
  rintro ⟨_, h⟩
  rw [badN] at h
  have : (fval (decf c.v.toNat) i &&& mb c i) &&& ~~~ mb c i = 0 := by
    rw [UInt8.and_assoc]
    have e : mb c i &&& ~~~ mb c i = 0 := by
      apply UInt8.toBitVec_inj.1
      simp
    rw [e]
    exact UInt8.and_zero
  simp [this] at h
theorem nd_ev (c : Cu) (f : Fl) (i : Nat) : evP f (.leaf (nd c i)) = decide (fm c f i) := by
  have h1 : ¬ (nd c i).op = 1 := (by decide : ¬ (3 : Int) = 1)
  have h2 : ¬ (nd c i).op = 2 := (by decide : ¬ (3 : Int) = 2)
  rw [evP, if_neg h1, if_neg h2]
  rfl
theorem cj_tree (c : Cu) : ∀ n, n ≤ 3 → (cj c n = [] ∧ ∀ i, i < n → mb c i = 0) ∨ ∃ p, okP p ∧ cj c n = flat p ∧ ∀ f, evP f p = true ↔ ∀ i, i < n → fm c f i
  | 0, _ => .inl ⟨rfl, fun i h => absurd h (Nat.not_lt_zero i)⟩
  | n + 1, hn => by
    have ih := cj_tree c n (by omega)
    rw [cj]
    by_cases h0 : mb c n = 0
    · rw [if_pos h0]
      rcases ih with ⟨h1, h2⟩ | ⟨p, hp, h1, h2⟩
      · refine .inl ⟨h1, fun i hi => ?_⟩
        by_cases e : i = n
        · rw [e]; exact h0
        · exact h2 i (by omega)
      · refine .inr ⟨p, hp, h1, fun f => (h2 f).trans ⟨fun h i hi => ?_, fun h i hi => h i (by omega)⟩⟩
        by_cases e : i = n
        · rw [e]; exact fm_zero h0
        · exact h i (by omega)
    · rw [if_neg h0]
      rcases ih with ⟨h1, h2⟩ | ⟨p, hp, h1, h2⟩
      · rw [if_pos h1]
        refine .inr ⟨.leaf (nd c n), nd_ok c (by omega), rfl, fun f => ?_⟩
        rw [nd_ev, decide_eq_true_eq]
        refine ⟨fun h i hi => ?_, fun h => h n (Nat.lt_succ_self n)⟩
        by_cases e : i = n
        · rw [e]; exact h
        · exact fm_zero (h2 i (by omega))
      · have hne : cj c n ≠ [] := by
          rw [h1]
          have := flat_pos p
          intro e
          rw [e] at this
          cases this
        rw [if_neg hne]
        refine .inr ⟨.bin (Nd0 5) p (.leaf (nd c n)), ⟨.inl rfl, hp, nd_ok c (by omega)⟩, by rw [h1]; rfl, fun f => ?_⟩
        rw [evP, if_pos rfl, Bool.and_eq_true, h2, nd_ev, decide_eq_true_eq]
        refine ⟨fun h i hi => ?_, fun h => ⟨fun i hi => h i (by omega), h n (Nat.lt_succ_self n)⟩⟩
        by_cases e : i = n
        · rw [e]; exact h.2
        · exact h.1 i (by omega)
theorem conj_tree (c : Cu) : ∃ p, okP p ∧ conj c = flat p ∧ ∀ f, evP f p = true ↔ ∀ i, i < 3 → fm c f i := by
  rw [conj]
  rcases cj_tree c 3 (Nat.le_refl _) with ⟨h1, h2⟩ | ⟨p, hp, h1, h2⟩
  · rw [if_pos h1]
    exact ⟨.leaf ⟨1, 0, 0, 0⟩, ⟨.inl rfl, rfl⟩, rfl, fun f => ⟨fun _ i hi => fm_zero (h2 i hi), fun _ => rfl⟩⟩
  · have hne : cj c 3 ≠ [] := by
      rw [h1]
      have := flat_pos p
      intro e
      rw [e] at this
      cases this
    rw [if_neg hne]
    exact ⟨p, hp, h1, h2⟩
/-- a flow lies in a cube, as the law asks it -/
def inC (c : Cu) (f : Fl) : Prop := (encf f &&& (c.m.toNat % 16777216)) = c.v.toNat &&& (c.m.toNat % 16777216)
theorem fm_iff (c : Cu) (f : Fl) {i : Nat} (hi : i < 3) : fm c f i ↔ ∀ b, b < 8 → c.m.toNat.testBit (sh8 i + b) = true → (encf f).testBit (sh8 i + b) = c.v.toNat.testBit (sh8 i + b) := by
  have hi' : (0 : Int) ≤ (i : Int) ∧ (i : Int) ≤ 2 := by omega
  rw [fm, u8_iff]
  constructor
  · intro h b hb hm
    rw [← fval_bit _ hi' hb] at hm
    have := h b hb hm
    rw [UInt8.toNat_and, Nat.testBit_and, show (mb c i).toNat.testBit b = true from hm, Bool.and_true, fval_bit _ hi' hb] at this
    rw [← this, ← fval_bit _ hi' hb, dec_enc]
  · intro h b hb hm
    have hm' : (fval (decf c.m.toNat) i).toNat.testBit b = true := hm
    rw [fval_bit _ hi' hb] at hm'
    have := h b hb hm'
    rw [UInt8.toNat_and, Nat.testBit_and, hm, Bool.and_true, fval_bit _ hi' hb, ← this, ← fval_bit _ hi' hb, dec_enc]
theorem inC_iff (c : Cu) (f : Fl) : inC c f ↔ ∀ j, j < 24 → c.m.toNat.testBit j = true → (encf f).testBit j = c.v.toNat.testBit j := by
  rw [inC, show (16777216 : Nat) = 2 ^ 24 from rfl]
  constructor
  · intro h j hj hm
    have := congrArg (fun x => Nat.testBit x j) h
    simp only [Nat.testBit_and, Nat.testBit_mod_two_pow, hj, decide_true, Bool.true_and, hm, Bool.and_true] at this
    exact this
  · intro h
    apply Nat.eq_of_testBit_eq
    intro j
    simp only [Nat.testBit_and, Nat.testBit_mod_two_pow]
    by_cases hj : j < 24
    · cases hm : c.m.toNat.testBit j
      · simp
      · rw [h j hj hm]
    · simp [hj]
theorem fm_all (c : Cu) (f : Fl) : (∀ i, i < 3 → fm c f i) ↔ inC c f := by
  rw [inC_iff]
  constructor
  · intro h j hj hm
    have hi : 2 - j / 8 < 3 := by omega
    have e : sh8 ((2 - j / 8 : Nat) : Int) + j % 8 = j := by unfold sh8; omega
    have := (fm_iff c f hi).1 (h _ hi) (j % 8) (by omega)
    rw [e] at this
    exact this hm
  · intro h i hi
    rw [fm_iff c f hi]
    intro b hb hm
    exact h _ (by unfold sh8; omega) hm
theorem fs_tree (s : List Cu) : ∀ n, 0 < n → n ≤ s.length → ∃ p, okP p ∧ fsN s n = flat p ∧ ∀ f, evP f p = true ↔ ∃ c, c ∈ s.take n ∧ inC c f
  | 0, h, _ => absurd h (Nat.lt_irrefl _)
  | n + 1, _, hn => by
    have hget : s.getD n default = s[n] := by rw [List.getD_eq_getElem?_getD, List.getElem?_eq_getElem hn]; rfl
    rw [fsN]
    by_cases h0 : n = 0
    · subst h0
      rw [if_pos rfl, hget]
      obtain ⟨p, hp, h1, h2⟩ := conj_tree s[0]
      refine ⟨p, hp, h1, fun f => ?_⟩
      rw [h2, fm_all, List.take_succ_eq_append_getElem hn]
      simp
    · obtain ⟨p, hp, h1, h2⟩ := fs_tree s n (by omega) (by omega)
      obtain ⟨q, hq, h3, h4⟩ := conj_tree s[n]
      rw [if_neg h0, hget, h1, h3]
      refine ⟨.bin (Nd0 6) p q, ⟨.inr rfl, hp, hq⟩, rfl, fun f => ?_⟩
      rw [evP, if_neg (by decide), Bool.or_eq_true, h2, h4, fm_all, List.take_succ_eq_append_getElem hn]
      simp only [List.mem_append, List.mem_singleton]
      constructor
      · rintro (⟨c, hc, h⟩ | h)
        · exact ⟨c, .inl hc, h⟩
        · exact ⟨_, .inr rfl, h⟩
      · rintro ⟨c, hc | rfl, h⟩
        · exact .inl ⟨c, hc, h⟩
        · exact .inr h
theorem fs_all (s : List Cu) : ∃ p, okP p ∧ (if s = [] then [⟨2, 0, 0, 0⟩] else fsN s s.length) = flat p ∧ ∀ f, evP f p = true ↔ ∃ c, c ∈ s ∧ inC c f := by
  by_cases h : s = []
  · rw [if_pos h, h]
    exact ⟨.leaf ⟨2, 0, 0, 0⟩, ⟨.inr (.inl rfl), rfl⟩, rfl, fun f => ⟨fun h => (by cases h), fun ⟨c, hc, _⟩ => (by cases hc)⟩⟩
  · rw [if_neg h]
    obtain ⟨p, hp, h1, h2⟩ := fs_tree s s.length (List.length_pos_iff.2 h) (Nat.le_refl _)
    rw [List.take_length] at h2
    exact ⟨p, hp, h1, h2⟩
end Go.Proofs.YtllfdnbnkncnhaaDoor

/- Chapter 44: the laws PredicateChecks and PredicateFlows as contracts. -/
set_option maxRecDepth 100000
set_option maxHeartbeats 4000000
set_option linter.all false
namespace Go.Proofs.YtllfdnbnkncnhaaDoor
open Go.Vm Go.ChangeShapes Go.WideShapes Go.ChangeAt Go.RowKit

theorem evalL_ex (f : Fl) (l : List Nd) : ∃ b, evalL f l b := by
  by_cases h : checkP l = 0
  · obtain ⟨_, p, hp, e⟩ := checkP_tree h
    exact ⟨evP f p, .inl ⟨h, p, hp, e, rfl⟩⟩
  · exact ⟨false, .inr ⟨h, rfl⟩⟩
theorem pc3 (l : List Nd) (f : Fl) : PC Tryd.prog 3 [slN l, .agg (encF f)] (.bool true) := by
  by_cases hl : 200 < l.length
  · refine PC.walk tok mixed cfg0 Tryd.func3 rfl Tryd.call3 (by simp [bel_LN, belN, belF, bel_Ns, bel_slN]) (by first | rfl | simp [bel_LN, belN, belF, bel_Ns, bel_slN]) ?_; simp (config := { maxSteps := 2000000 }) -implicitDefEqProofs +contextual (disch := first | assumption | omega | decide +kernel) only [push_cast, ↓capI, br2_true, br2_false, frk_tt, frk_tf, frk_f, frkD_tt, frkD_tf, frkD_f, pk2_true, pk2_false, imp_true, seval, Nat.reduceLeDiff, Nat.reduceEqDiff, reduceCtorEq, ↓reduceIte, reduceCtorEq, cfg0, encN, slN, encF, Tryd.ntmps3]
    refine callO.pc pc8 ?_
    simp (config := { maxSteps := 2000000 }) -implicitDefEqProofs +contextual (disch := first | assumption | omega | decide +kernel) only [push_cast, ↓capI, br2_true, br2_false, frk_tt, frk_tf, frk_f, frkD_tt, frkD_tf, frkD_f, pk2_true, pk2_false, imp_true, seval, Nat.reduceLeDiff, Nat.reduceEqDiff, reduceCtorEq, ↓reduceIte, reduceCtorEq, cfg0, encN, slN, encF]
    refine endK.ret ?_ (by first | rfl | simp [bel_LN, belN, belF, bel_Ns, bel_slN]); simp [evRes, getT, retV, Tryd.f3]
  obtain ⟨b, hb⟩ := evalL_ex f l
  refine PC.walk tok mixed cfg0 Tryd.func3 rfl Tryd.call3 (by simp [bel_LN, belN, belF, bel_Ns, bel_slN]) (by first | rfl | simp [bel_LN, belN, belF, bel_Ns, bel_slN]) ?_; simp (config := { maxSteps := 2000000 }) -implicitDefEqProofs +contextual (disch := first | assumption | omega | decide +kernel) only [push_cast, ↓capI, br2_true, br2_false, frk_tt, frk_tf, frk_f, frkD_tt, frkD_tf, frkD_f, pk2_true, pk2_false, imp_true, seval, Nat.reduceLeDiff, Nat.reduceEqDiff, reduceCtorEq, ↓reduceIte, reduceCtorEq, cfg0, encN, slN, encF, Tryd.ntmps3]
  refine callG.pc1 (pc9 l (by omega)) ?_
  simp (config := { maxSteps := 2000000 }) -implicitDefEqProofs +contextual (disch := first | assumption | omega | decide +kernel) only [push_cast, ↓capI, br2_true, br2_false, frk_tt, frk_tf, frk_f, frkD_tt, frkD_tf, frkD_f, pk2_true, pk2_false, imp_true, seval, Nat.reduceLeDiff, Nat.reduceEqDiff, reduceCtorEq, ↓reduceIte, reduceCtorEq, cfg0, encN, slN, encF]
  refine callG.pc1 (pc10 l (by omega)) ?_
  simp (config := { maxSteps := 2000000 }) -implicitDefEqProofs +contextual (disch := first | assumption | omega | decide +kernel) only [push_cast, ↓capI, br2_true, br2_false, frk_tt, frk_tf, frk_f, frkD_tt, frkD_tf, frkD_f, pk2_true, pk2_false, imp_true, seval, Nat.reduceLeDiff, Nat.reduceEqDiff, reduceCtorEq, ↓reduceIte, reduceCtorEq, cfg0, encN, slN, encF]
  refine callG.pc1 (pc11 f l (by omega) b hb) ?_
  simp (config := { maxSteps := 2000000 }) -implicitDefEqProofs +contextual (disch := first | assumption | omega | decide +kernel) only [push_cast, ↓capI, br2_true, br2_false, frk_tt, frk_tf, frk_f, frkD_tt, frkD_tf, frkD_f, pk2_true, pk2_false, imp_true, seval, Nat.reduceLeDiff, Nat.reduceEqDiff, reduceCtorEq, ↓reduceIte, reduceCtorEq, cfg0, encN, slN, encF]
  refine callG.pc1 (pc12 f l (by omega) b hb) ?_
  simp (config := { maxSteps := 2000000 }) -implicitDefEqProofs +contextual (disch := first | assumption | omega | decide +kernel) only [push_cast, ↓capI, br2_true, br2_false, frk_tt, frk_tf, frk_f, frkD_tt, frkD_tf, frkD_f, pk2_true, pk2_false, imp_true, seval, Nat.reduceLeDiff, Nat.reduceEqDiff, reduceCtorEq, ↓reduceIte, reduceCtorEq, cfg0, encN, slN, encF]
  refine callG.pc1 pc8 ?_
  simp (config := { maxSteps := 2000000 }) -implicitDefEqProofs +contextual (disch := first | assumption | omega | decide +kernel) only [push_cast, ↓capI, br2_true, br2_false, frk_tt, frk_tf, frk_f, frkD_tt, frkD_tf, frkD_f, pk2_true, pk2_false, imp_true, seval, Nat.reduceLeDiff, Nat.reduceEqDiff, reduceCtorEq, ↓reduceIte, reduceCtorEq, cfg0, encN, slN, encF]
  refine endK.ret ?_ (by first | rfl | simp [bel_LN, belN, belF, bel_Ns, bel_slN]); simp [evRes, getT, retV, Tryd.f3]
theorem law3 (xs : List V) (h : TypA tt 8 [22, 24] xs) : PC Tryd.prog 3 xs (.bool true) := by
  obtain ⟨v, vs, cs, rfl, rfl, h1, h⟩ := typA_cons h
  obtain ⟨v, vs, ds, rfl, rfl, h2, h⟩ := typA_cons h
  obtain rfl := typA_nil h
  obtain ⟨a, ha⟩ := typ_slN h1
  obtain ⟨f, hf, _⟩ := typ_F _ h2
  refine PC.lax ?_
  rw [laxs, laxs, laxs, ha, mk_F, Go.Vm.lax, hf]
  exact pc3 a f
theorem pc4 (f : Fl) (n : W64) : PC Tryd.prog 4 [.agg (encF f), .int .u64 n.toNat] (.bool true) := by
  have hn := n.isLt
  have hf := encf_lt f
  have hr : (n.toNat : Int).tmod 16777216 = ((encf (decf n.toNat) : Nat) : Int) := by
    rw [enc_dec, Int.tmod_eq_emod_of_nonneg (by omega)]
    omega
  have hd := pc13 (encf f) (by omega)
  rw [dec_enc] at hd
  have e2 := encf_lt (decf n.toNat)
  have hw : IntKind.u64.wrap ((encf (decf n.toNat) : Nat) : Int) = ((encf (decf n.toNat) : Nat) : Int) := u64N (by omega)
  have h13 := pc13 n.toNat hn
  have h16 := pc16 n.toNat hn
  have h14 := pc14 (decf n.toNat)
  generalize decf n.toNat = g at h13 h16 h14 hr hw e2
  refine PC.walk tok mixed cfg0 Tryd.func4 rfl Tryd.call4 (by simp [bel_LN, belN, belF, bel_Ns, bel_slN]) (by first | rfl | simp [bel_LN, belN, belF, bel_Ns, bel_slN]) ?_; simp (config := { maxSteps := 2000000 }) -implicitDefEqProofs +contextual (disch := first | assumption | omega | decide +kernel) only [push_cast, ↓capI, br2_true, br2_false, frk_tt, frk_tf, frk_f, frkD_tt, frkD_tf, frkD_f, pk2_true, pk2_false, imp_true, seval, Nat.reduceLeDiff, Nat.reduceEqDiff, reduceCtorEq, ↓reduceIte, reduceCtorEq, cfg0, encN, slN, encF, Tryd.ntmps4]
  refine callO.pc h13 ?_
  simp (config := { maxSteps := 2000000 }) -implicitDefEqProofs +contextual (disch := first | assumption | omega | decide +kernel) only [push_cast, ↓capI, br2_true, br2_false, frk_tt, frk_tf, frk_f, frkD_tt, frkD_tf, frkD_f, pk2_true, pk2_false, imp_true, seval, Nat.reduceLeDiff, Nat.reduceEqDiff, reduceCtorEq, ↓reduceIte, reduceCtorEq, cfg0, encN, slN, encF]
  refine callG.pc1 (pc14 f) ?_
  simp (config := { maxSteps := 2000000 }) -implicitDefEqProofs +contextual (disch := first | assumption | omega | decide +kernel) only [push_cast, ↓capI, br2_true, br2_false, frk_tt, frk_tf, frk_f, frkD_tt, frkD_tf, frkD_f, pk2_true, pk2_false, imp_true, seval, Nat.reduceLeDiff, Nat.reduceEqDiff, reduceCtorEq, ↓reduceIte, reduceCtorEq, cfg0, encN, slN, encF]
  refine callG.pc1 (pc15 f) ?_
  simp (config := { maxSteps := 2000000 }) -implicitDefEqProofs +contextual (disch := first | assumption | omega | decide +kernel) only [push_cast, ↓capI, br2_true, br2_false, frk_tt, frk_tf, frk_f, frkD_tt, frkD_tf, frkD_f, pk2_true, pk2_false, imp_true, seval, Nat.reduceLeDiff, Nat.reduceEqDiff, reduceCtorEq, ↓reduceIte, reduceCtorEq, cfg0, encN, slN, encF]
  refine callG.pc1 h16 ?_
  simp (config := { maxSteps := 2000000 }) -implicitDefEqProofs +contextual (disch := first | assumption | omega | decide +kernel) only [push_cast, ↓capI, br2_true, br2_false, frk_tt, frk_tf, frk_f, frkD_tt, frkD_tf, frkD_f, pk2_true, pk2_false, imp_true, seval, Nat.reduceLeDiff, Nat.reduceEqDiff, reduceCtorEq, ↓reduceIte, reduceCtorEq, cfg0, encN, slN, encF]
  refine callG.pc1 (pc14 f) ?_
  simp (config := { maxSteps := 2000000 }) -implicitDefEqProofs +contextual (disch := first | assumption | omega | decide +kernel) only [push_cast, ↓capI, br2_true, br2_false, frk_tt, frk_tf, frk_f, frkD_tt, frkD_tf, frkD_f, pk2_true, pk2_false, imp_true, seval, Nat.reduceLeDiff, Nat.reduceEqDiff, reduceCtorEq, ↓reduceIte, reduceCtorEq, cfg0, encN, slN, encF]
  refine callG.pc1 hd ?_
  simp (config := { maxSteps := 2000000 }) -implicitDefEqProofs +contextual (disch := first | assumption | omega | decide +kernel) only [push_cast, ↓capI, br2_true, br2_false, frk_tt, frk_tf, frk_f, frkD_tt, frkD_tf, frkD_f, pk2_true, pk2_false, imp_true, seval, Nat.reduceLeDiff, Nat.reduceEqDiff, reduceCtorEq, ↓reduceIte, reduceCtorEq, cfg0, encN, slN, encF]
  refine callG.pc1 h14 ?_
  simp (config := { maxSteps := 2000000 }) -implicitDefEqProofs +contextual (disch := first | assumption | omega | decide +kernel) only [push_cast, ↓capI, br2_true, br2_false, frk_tt, frk_tf, frk_f, frkD_tt, frkD_tf, frkD_f, pk2_true, pk2_false, imp_true, seval, Nat.reduceLeDiff, Nat.reduceEqDiff, reduceCtorEq, ↓reduceIte, reduceCtorEq, cfg0, encN, slN, encF, hr, hw]
  refine callG.pc1 pc8 ?_
  simp (config := { maxSteps := 2000000 }) -implicitDefEqProofs +contextual (disch := first | assumption | omega | decide +kernel) only [push_cast, ↓capI, br2_true, br2_false, frk_tt, frk_tf, frk_f, frkD_tt, frkD_tf, frkD_f, pk2_true, pk2_false, imp_true, seval, Nat.reduceLeDiff, Nat.reduceEqDiff, reduceCtorEq, ↓reduceIte, reduceCtorEq, cfg0, encN, slN, encF]
  refine endK.ret ?_ (by first | rfl | simp [bel_LN, belN, belF, bel_Ns, bel_slN]); simp [evRes, getT, retV, Tryd.f4]
theorem law4 (xs : List V) (h : TypA tt 8 [24, 29] xs) : PC Tryd.prog 4 xs (.bool true) := by
  obtain ⟨v, vs, cs, rfl, rfl, h1, h⟩ := typA_cons h
  obtain ⟨v, vs, ds, rfl, rfl, h2, h⟩ := typA_cons h
  obtain rfl := typA_nil h
  obtain ⟨f, hf, _⟩ := typ_F _ h1
  obtain ⟨x, hx⟩ := typ_W h2
  refine PC.lax ?_
  rw [laxs, laxs, laxs, mk_F, Go.Vm.lax, hf, hx]
  exact pc4 f x
end Go.Proofs.YtllfdnbnkncnhaaDoor

/- Chapter 44: the law PredicateMeans as a contract. -/
set_option maxRecDepth 100000
set_option maxHeartbeats 4000000
set_option linter.all false
namespace Go.Proofs.YtllfdnbnkncnhaaDoor
open Go.Vm Go.ChangeShapes Go.WideShapes Go.ChangeAt Go.RowKit

theorem pc17w (l : List Nd) (hl : l.length ≤ 9223372036854775807) : PC Tryd.prog 17 [slN l] (.bool (heavy l)) := by
  refine PC.walk tok mixed cfg0 Tryd.func17 rfl Tryd.call17 (by simp [bel_LN, belN, belF, bel_Ns, bel_slN, bel_Sp, bel_slZ]) (by first | rfl | simp [bel_LN, belN, belF, bel_Ns, bel_slN, bel_Sp, bel_slZ]) ?_; simp (config := { maxSteps := 2000000 }) -implicitDefEqProofs +contextual (disch := first | assumption | omega | decide +kernel) only [push_cast, ↓capI, br2_true, br2_false, frk_tt, frk_tf, frk_f, frkD_tt, frkD_tf, frkD_f, pk2_true, pk2_false, imp_true, seval, Nat.reduceLeDiff, Nat.reduceEqDiff, reduceCtorEq, ↓reduceIte, reduceCtorEq, fmN, fm0, take_N, toN1, slN_nil, get_flat_part lenN, get_flat_drop lenN, len_flat lenN, cfg0, encN, slN, encF, st_slZ, os_slZ, Tryd.ntmps17]
  refine T.lp tok mixed cfg0 (fun (i : Nat) => kp 1 (dd 2 (sv (.int .i64 (cntN l 3 i)) (sv (.int .i64 (cntN l 4 i)) (sv (.int .i64 i) (dd 30 (nl))))))) (fun H0 (i : Nat) => []) (fun (i : Nat) => i ≤ l.length) (fun (i : Nat) => l.length - i) (0) ?_ ?_ ?_
  · exact Nat.zero_le _
  · exact Gn.canon (J := []) (by first | rfl | (simp [List.append_nil]; done) | (simp [List.append_nil]; rfl)) (by simp [wk, slN, cntN0, putT, kp, dd, sv, nl]) (by simp [List.length_append]) (by simp [bel_LN, belN, belF, bel_Ns, bel_slN, bel_Sp, bel_slZ, kp, dd, sv, nl]) (by simp [bel_LN, belN, belF, bel_Ns, bel_slN, bel_Sp, bel_slZ])
  rintro i hi
  have c1 := cntN_le l 3 i
  have c2 := cntN_le l 4 i
  by_cases hlt : i < l.length
  · have s1 := cntN_succ l 3 i hlt
    have s2 := cntN_succ l 4 i hlt
    by_cases h3 : l[i].op = 3
    · rw [if_pos h3] at s1
      rw [if_neg (by omega)] at s2
      simp (config := { maxSteps := 2000000 }) -implicitDefEqProofs +contextual (disch := first | assumption | omega | decide +kernel) only [push_cast, ↓capI, br2_true, br2_false, frk_tt, frk_tf, frk_f, frkD_tt, frkD_tf, frkD_f, pk2_true, pk2_false, imp_true, seval, Nat.reduceLeDiff, Nat.reduceEqDiff, reduceCtorEq, ↓reduceIte, reduceCtorEq, fmN, fm0, take_N, toN1, slN_nil, get_flat_part lenN, get_flat_drop lenN, len_flat lenN, cfg0, encN, slN, encF, st_slZ, os_slZ, h3]
      refine ⟨i + 1, by omega, by (try simp only); omega, ?_⟩; exact Gn.canon (by first | rfl | (simp [List.append_nil, s1, s2]; rfl)) (by simp [wk, slN, cntN0, s1, s2]) (by simp [List.length_append]) (by simp [bel_LN, belN, belF, bel_Ns, bel_slN, bel_Sp, bel_slZ]) (by simp [bel_LN, belN, belF, bel_Ns, bel_slN, bel_Sp, bel_slZ])
    rw [if_neg h3] at s1
    by_cases h4 : l[i].op = 4
    · rw [if_pos h4] at s2
      simp (config := { maxSteps := 2000000 }) -implicitDefEqProofs +contextual (disch := first | assumption | omega | decide +kernel) only [push_cast, ↓capI, br2_true, br2_false, frk_tt, frk_tf, frk_f, frkD_tt, frkD_tf, frkD_f, pk2_true, pk2_false, imp_true, seval, Nat.reduceLeDiff, Nat.reduceEqDiff, reduceCtorEq, ↓reduceIte, reduceCtorEq, fmN, fm0, take_N, toN1, slN_nil, get_flat_part lenN, get_flat_drop lenN, len_flat lenN, cfg0, encN, slN, encF, st_slZ, os_slZ, h4]
      refine ⟨i + 1, by omega, by (try simp only); omega, ?_⟩; exact Gn.canon (by first | rfl | (simp [List.append_nil, s1, s2]; rfl)) (by simp [wk, slN, cntN0, s1, s2]) (by simp [List.length_append]) (by simp [bel_LN, belN, belF, bel_Ns, bel_slN, bel_Sp, bel_slZ]) (by simp [bel_LN, belN, belF, bel_Ns, bel_slN, bel_Sp, bel_slZ])
    · rw [if_neg h4] at s2
      simp (config := { maxSteps := 2000000 }) -implicitDefEqProofs +contextual (disch := first | assumption | omega | decide +kernel) only [push_cast, ↓capI, br2_true, br2_false, frk_tt, frk_tf, frk_f, frkD_tt, frkD_tf, frkD_f, pk2_true, pk2_false, imp_true, seval, Nat.reduceLeDiff, Nat.reduceEqDiff, reduceCtorEq, ↓reduceIte, reduceCtorEq, fmN, fm0, take_N, toN1, slN_nil, get_flat_part lenN, get_flat_drop lenN, len_flat lenN, cfg0, encN, slN, encF, st_slZ, os_slZ, h3, h4]
      refine ⟨i + 1, by omega, by (try simp only); omega, ?_⟩; exact Gn.canon (by first | rfl | (simp [List.append_nil, s1, s2]; rfl)) (by simp [wk, slN, cntN0, s1, s2]) (by simp [List.length_append]) (by simp [bel_LN, belN, belF, bel_Ns, bel_slN, bel_Sp, bel_slZ]) (by simp [bel_LN, belN, belF, bel_Ns, bel_slN, bel_Sp, bel_slZ])
  · have hi' : i = l.length := by omega
    by_cases h60 : 60 < l.length
    · simp (config := { maxSteps := 2000000 }) -implicitDefEqProofs +contextual (disch := first | assumption | omega | decide +kernel) only [push_cast, ↓capI, br2_true, br2_false, frk_tt, frk_tf, frk_f, frkD_tt, frkD_tf, frkD_f, pk2_true, pk2_false, imp_true, seval, Nat.reduceLeDiff, Nat.reduceEqDiff, reduceCtorEq, ↓reduceIte, reduceCtorEq, fmN, fm0, take_N, toN1, slN_nil, get_flat_part lenN, get_flat_drop lenN, len_flat lenN, cfg0, encN, slN, encF, st_slZ, os_slZ, h60]
      refine endK.ret ?_ (by first | rfl | simp [bel_LN, belN, belF, bel_Ns, bel_slN, bel_Sp, bel_slZ]); simp [evRes, getT, retV, Tryd.f17,  heavy, h60]
    by_cases h0 : 0 < cntN l 4 i
    · simp (config := { maxSteps := 2000000 }) -implicitDefEqProofs +contextual (disch := first | assumption | omega | decide +kernel) only [push_cast, ↓capI, br2_true, br2_false, frk_tt, frk_tf, frk_f, frkD_tt, frkD_tf, frkD_f, pk2_true, pk2_false, imp_true, seval, Nat.reduceLeDiff, Nat.reduceEqDiff, reduceCtorEq, ↓reduceIte, reduceCtorEq, fmN, fm0, take_N, toN1, slN_nil, get_flat_part lenN, get_flat_drop lenN, len_flat lenN, cfg0, encN, slN, encF, st_slZ, os_slZ, h60, h0]
      subst hi'
      refine endK.ret ?_ (by first | rfl | simp [bel_LN, belN, belF, bel_Ns, bel_slN, bel_Sp, bel_slZ]); simp [evRes, getT, retV, Tryd.f17,  heavy, h60, h0]
      omega
    · simp (config := { maxSteps := 2000000 }) -implicitDefEqProofs +contextual (disch := first | assumption | omega | decide +kernel) only [push_cast, ↓capI, br2_true, br2_false, frk_tt, frk_tf, frk_f, frkD_tt, frkD_tf, frkD_f, pk2_true, pk2_false, imp_true, seval, Nat.reduceLeDiff, Nat.reduceEqDiff, reduceCtorEq, ↓reduceIte, reduceCtorEq, fmN, fm0, take_N, toN1, slN_nil, get_flat_part lenN, get_flat_drop lenN, len_flat lenN, cfg0, encN, slN, encF, st_slZ, os_slZ, h60, h0]
      subst hi'
      refine endK.ret ?_ (by first | rfl | simp [bel_LN, belN, belF, bel_Ns, bel_slN, bel_Sp, bel_slZ]); simp [evRes, getT, retV, Tryd.f17,  heavy, h60, h0]
theorem heavy_len {l : List Nd} (h : heavy l = false) : l.length ≤ 60 := by
  unfold heavy at h
  simp only [Bool.or_eq_false_iff, decide_eq_false_iff_not] at h
  omega
theorem pc19z (o : Option (List Cu)) (n : W64) (h : (o.getD []).length ≤ 1000000) : PC Tryd.prog 19 [slZ o, .int .u64 n.toNat] (.bool (anyMem (o.getD []) n)) := by
  refine PC.lax ?_
  rw [laxs, laxs, lax_Z]
  exact pc19 _ n (by omega)
theorem typ_slNb {m : Nat} {c : List V} (h : Typ tt (m + 3) 22 c) : ∃ l : List Nd, lax (mkV (tt 22) c) = slN l ∧ l.length ≤ 9223372036854775807 := by
  obtain ⟨l, hl, hn, _⟩ := typ_slice (by rw [tt_22]) typ_N h
  obtain ⟨x, rfl, hx⟩ := laxs_one hl
  refine ⟨l, ?_, Nat.le_trans hn (by decide)⟩
  rw [tt_22]
  exact hx
theorem pc5 (l : List Nd) (f : Fl) (hl0 : l.length ≤ 9223372036854775807) : PC Tryd.prog 5 [slN l, .agg (encF f)] (.bool true) := by
  cases hh : heavy l
  case true =>
    have h17 := pc17w l hl0
    rw [hh] at h17
    refine PC.walk tok mixed cfg0 Tryd.func5 rfl Tryd.call5 (by simp [bel_LN, belN, belF, bel_Ns, bel_slN, bel_Sp, bel_slZ]) (by first | rfl | simp [bel_LN, belN, belF, bel_Ns, bel_slN, bel_Sp, bel_slZ]) ?_; simp (config := { maxSteps := 2000000 }) -implicitDefEqProofs +contextual (disch := first | assumption | omega | decide +kernel) only [push_cast, ↓capI, br2_true, br2_false, frk_tt, frk_tf, frk_f, frkD_tt, frkD_tf, frkD_f, pk2_true, pk2_false, imp_true, seval, Nat.reduceLeDiff, Nat.reduceEqDiff, reduceCtorEq, ↓reduceIte, reduceCtorEq, fmN, fm0, take_N, toN1, slN_nil, get_flat_part lenN, get_flat_drop lenN, len_flat lenN, cfg0, encN, slN, encF, st_slZ, os_slZ, Tryd.ntmps5]
    refine callO.pc h17 ?_
    simp (config := { maxSteps := 2000000 }) -implicitDefEqProofs +contextual (disch := first | assumption | omega | decide +kernel) only [push_cast, ↓capI, br2_true, br2_false, frk_tt, frk_tf, frk_f, frkD_tt, frkD_tf, frkD_f, pk2_true, pk2_false, imp_true, seval, Nat.reduceLeDiff, Nat.reduceEqDiff, reduceCtorEq, ↓reduceIte, reduceCtorEq, fmN, fm0, take_N, toN1, slN_nil, get_flat_part lenN, get_flat_drop lenN, len_flat lenN, cfg0, encN, slN, encF, st_slZ, os_slZ]
    refine callO.pc pc8 ?_
    simp (config := { maxSteps := 2000000 }) -implicitDefEqProofs +contextual (disch := first | assumption | omega | decide +kernel) only [push_cast, ↓capI, br2_true, br2_false, frk_tt, frk_tf, frk_f, frkD_tt, frkD_tf, frkD_f, pk2_true, pk2_false, imp_true, seval, Nat.reduceLeDiff, Nat.reduceEqDiff, reduceCtorEq, ↓reduceIte, reduceCtorEq, fmN, fm0, take_N, toN1, slN_nil, get_flat_part lenN, get_flat_drop lenN, len_flat lenN, cfg0, encN, slN, encF, st_slZ, os_slZ]
    refine endK.ret ?_ (by first | rfl | simp [bel_LN, belN, belF, bel_Ns, bel_slN, bel_Sp, bel_slZ]); simp [evRes, getT, retV, Tryd.f5]
  have h17 := pc17w l hl0
  rw [hh] at h17
  have hl : l.length ≤ 4000000 := by have := heavy_len hh; omega
  by_cases hc : checkP l = 0
  case neg =>
    have h18 := pc18 l hl (none, checkP l) (.inl ⟨hc, rfl⟩)
    rw [enSp] at h18
    refine PC.walk tok mixed cfg0 Tryd.func5 rfl Tryd.call5 (by simp [bel_LN, belN, belF, bel_Ns, bel_slN, bel_Sp, bel_slZ]) (by first | rfl | simp [bel_LN, belN, belF, bel_Ns, bel_slN, bel_Sp, bel_slZ]) ?_; simp (config := { maxSteps := 2000000 }) -implicitDefEqProofs +contextual (disch := first | assumption | omega | decide +kernel) only [push_cast, ↓capI, br2_true, br2_false, frk_tt, frk_tf, frk_f, frkD_tt, frkD_tf, frkD_f, pk2_true, pk2_false, imp_true, seval, Nat.reduceLeDiff, Nat.reduceEqDiff, reduceCtorEq, ↓reduceIte, reduceCtorEq, fmN, fm0, take_N, toN1, slN_nil, get_flat_part lenN, get_flat_drop lenN, len_flat lenN, cfg0, encN, slN, encF, st_slZ, os_slZ, Tryd.ntmps5]
    refine callO.pc h17 ?_
    simp (config := { maxSteps := 2000000 }) -implicitDefEqProofs +contextual (disch := first | assumption | omega | decide +kernel) only [push_cast, ↓capI, br2_true, br2_false, frk_tt, frk_tf, frk_f, frkD_tt, frkD_tf, frkD_f, pk2_true, pk2_false, imp_true, seval, Nat.reduceLeDiff, Nat.reduceEqDiff, reduceCtorEq, ↓reduceIte, reduceCtorEq, fmN, fm0, take_N, toN1, slN_nil, get_flat_part lenN, get_flat_drop lenN, len_flat lenN, cfg0, encN, slN, encF, st_slZ, os_slZ]
    refine callO.pc h18 ?_
    simp (config := { maxSteps := 2000000 }) -implicitDefEqProofs +contextual (disch := first | assumption | omega | decide +kernel) only [push_cast, ↓capI, br2_true, br2_false, frk_tt, frk_tf, frk_f, frkD_tt, frkD_tf, frkD_f, pk2_true, pk2_false, imp_true, seval, Nat.reduceLeDiff, Nat.reduceEqDiff, reduceCtorEq, ↓reduceIte, reduceCtorEq, fmN, fm0, take_N, toN1, slN_nil, get_flat_part lenN, get_flat_drop lenN, len_flat lenN, cfg0, encN, slN, encF, st_slZ, os_slZ, hc, slZ]
    refine callO.pc pc8 ?_
    simp (config := { maxSteps := 2000000 }) -implicitDefEqProofs +contextual (disch := first | assumption | omega | decide +kernel) only [push_cast, ↓capI, br2_true, br2_false, frk_tt, frk_tf, frk_f, frkD_tt, frkD_tf, frkD_f, pk2_true, pk2_false, imp_true, seval, Nat.reduceLeDiff, Nat.reduceEqDiff, reduceCtorEq, ↓reduceIte, reduceCtorEq, fmN, fm0, take_N, toN1, slN_nil, get_flat_part lenN, get_flat_drop lenN, len_flat lenN, cfg0, encN, slN, encF, st_slZ, os_slZ]
    refine endK.ret ?_ (by first | rfl | simp [bel_LN, belN, belF, bel_Ns, bel_slN, bel_Sp, bel_slZ]); simp [evRes, getT, retV, Tryd.f5]
  obtain ⟨_, p, hp, e⟩ := checkP_tree hc
  have h18 := pc18 l hl _ (.inr ⟨hc, p, hp, e, rfl⟩)
  by_cases h0 : (spc p).2 = 0
  case neg =>
    rw [if_neg h0, enSp] at h18
    refine PC.walk tok mixed cfg0 Tryd.func5 rfl Tryd.call5 (by simp [bel_LN, belN, belF, bel_Ns, bel_slN, bel_Sp, bel_slZ]) (by first | rfl | simp [bel_LN, belN, belF, bel_Ns, bel_slN, bel_Sp, bel_slZ]) ?_; simp (config := { maxSteps := 2000000 }) -implicitDefEqProofs +contextual (disch := first | assumption | omega | decide +kernel) only [push_cast, ↓capI, br2_true, br2_false, frk_tt, frk_tf, frk_f, frkD_tt, frkD_tf, frkD_f, pk2_true, pk2_false, imp_true, seval, Nat.reduceLeDiff, Nat.reduceEqDiff, reduceCtorEq, ↓reduceIte, reduceCtorEq, fmN, fm0, take_N, toN1, slN_nil, get_flat_part lenN, get_flat_drop lenN, len_flat lenN, cfg0, encN, slN, encF, st_slZ, os_slZ, Tryd.ntmps5]
    refine callO.pc h17 ?_
    simp (config := { maxSteps := 2000000 }) -implicitDefEqProofs +contextual (disch := first | assumption | omega | decide +kernel) only [push_cast, ↓capI, br2_true, br2_false, frk_tt, frk_tf, frk_f, frkD_tt, frkD_tf, frkD_f, pk2_true, pk2_false, imp_true, seval, Nat.reduceLeDiff, Nat.reduceEqDiff, reduceCtorEq, ↓reduceIte, reduceCtorEq, fmN, fm0, take_N, toN1, slN_nil, get_flat_part lenN, get_flat_drop lenN, len_flat lenN, cfg0, encN, slN, encF, st_slZ, os_slZ]
    refine callO.pc h18 ?_
    simp (config := { maxSteps := 2000000 }) -implicitDefEqProofs +contextual (disch := first | assumption | omega | decide +kernel) only [push_cast, ↓capI, br2_true, br2_false, frk_tt, frk_tf, frk_f, frkD_tt, frkD_tf, frkD_f, pk2_true, pk2_false, imp_true, seval, Nat.reduceLeDiff, Nat.reduceEqDiff, reduceCtorEq, ↓reduceIte, reduceCtorEq, fmN, fm0, take_N, toN1, slN_nil, get_flat_part lenN, get_flat_drop lenN, len_flat lenN, cfg0, encN, slN, encF, st_slZ, os_slZ, h0, slZ]
    refine callO.pc pc8 ?_
    simp (config := { maxSteps := 2000000 }) -implicitDefEqProofs +contextual (disch := first | assumption | omega | decide +kernel) only [push_cast, ↓capI, br2_true, br2_false, frk_tt, frk_tf, frk_f, frkD_tt, frkD_tf, frkD_f, pk2_true, pk2_false, imp_true, seval, Nat.reduceLeDiff, Nat.reduceEqDiff, reduceCtorEq, ↓reduceIte, reduceCtorEq, fmN, fm0, take_N, toN1, slN_nil, get_flat_part lenN, get_flat_drop lenN, len_flat lenN, cfg0, encN, slN, encF, st_slZ, os_slZ]
    refine endK.ret ?_ (by first | rfl | simp [bel_LN, belN, belF, bel_Ns, bel_slN, bel_Sp, bel_slZ]); simp [evRes, getT, retV, Tryd.f5]
  rw [if_pos h0, enSp] at h18
  have hm := (spc_means hp h0).2 f
  have hlen := spc_len p
  have h19 := pc19z (spc p).1 (BitVec.ofNat 64 (encf f)) (by omega)
  have he := encf_lt f
  rw [hm, BitVec.toNat_ofNat, Nat.mod_eq_of_lt (by omega)] at h19
  have h11 := pc11 f l hl (evP f p) (.inl ⟨hc, p, hp, e, rfl⟩)
  refine PC.walk tok mixed cfg0 Tryd.func5 rfl Tryd.call5 (by simp [bel_LN, belN, belF, bel_Ns, bel_slN, bel_Sp, bel_slZ]) (by first | rfl | simp [bel_LN, belN, belF, bel_Ns, bel_slN, bel_Sp, bel_slZ]) ?_; simp (config := { maxSteps := 2000000 }) -implicitDefEqProofs +contextual (disch := first | assumption | omega | decide +kernel) only [push_cast, ↓capI, br2_true, br2_false, frk_tt, frk_tf, frk_f, frkD_tt, frkD_tf, frkD_f, pk2_true, pk2_false, imp_true, seval, Nat.reduceLeDiff, Nat.reduceEqDiff, reduceCtorEq, ↓reduceIte, reduceCtorEq, fmN, fm0, take_N, toN1, slN_nil, get_flat_part lenN, get_flat_drop lenN, len_flat lenN, cfg0, encN, slN, encF, st_slZ, os_slZ, Tryd.ntmps5]
  refine callO.pc h17 ?_
  simp (config := { maxSteps := 2000000 }) -implicitDefEqProofs +contextual (disch := first | assumption | omega | decide +kernel) only [push_cast, ↓capI, br2_true, br2_false, frk_tt, frk_tf, frk_f, frkD_tt, frkD_tf, frkD_f, pk2_true, pk2_false, imp_true, seval, Nat.reduceLeDiff, Nat.reduceEqDiff, reduceCtorEq, ↓reduceIte, reduceCtorEq, fmN, fm0, take_N, toN1, slN_nil, get_flat_part lenN, get_flat_drop lenN, len_flat lenN, cfg0, encN, slN, encF, st_slZ, os_slZ]
  refine callO.pc h18 ?_
  simp (config := { maxSteps := 2000000 }) -implicitDefEqProofs +contextual (disch := first | assumption | omega | decide +kernel) only [push_cast, ↓capI, br2_true, br2_false, frk_tt, frk_tf, frk_f, frkD_tt, frkD_tf, frkD_f, pk2_true, pk2_false, imp_true, seval, Nat.reduceLeDiff, Nat.reduceEqDiff, reduceCtorEq, ↓reduceIte, reduceCtorEq, fmN, fm0, take_N, toN1, slN_nil, get_flat_part lenN, get_flat_drop lenN, len_flat lenN, cfg0, encN, slN, encF, st_slZ, os_slZ]
  refine callG.pc1 h11 ?_
  simp (config := { maxSteps := 2000000 }) -implicitDefEqProofs +contextual (disch := first | assumption | omega | decide +kernel) only [push_cast, ↓capI, br2_true, br2_false, frk_tt, frk_tf, frk_f, frkD_tt, frkD_tf, frkD_f, pk2_true, pk2_false, imp_true, seval, Nat.reduceLeDiff, Nat.reduceEqDiff, reduceCtorEq, ↓reduceIte, reduceCtorEq, fmN, fm0, take_N, toN1, slN_nil, get_flat_part lenN, get_flat_drop lenN, len_flat lenN, cfg0, encN, slN, encF, st_slZ, os_slZ]
  refine callG.pc1 (pc15 f) ?_
  simp (config := { maxSteps := 2000000 }) -implicitDefEqProofs +contextual (disch := first | assumption | omega | decide +kernel) only [push_cast, ↓capI, br2_true, br2_false, frk_tt, frk_tf, frk_f, frkD_tt, frkD_tf, frkD_f, pk2_true, pk2_false, imp_true, seval, Nat.reduceLeDiff, Nat.reduceEqDiff, reduceCtorEq, ↓reduceIte, reduceCtorEq, fmN, fm0, take_N, toN1, slN_nil, get_flat_part lenN, get_flat_drop lenN, len_flat lenN, cfg0, encN, slN, encF, st_slZ, os_slZ]
  refine callG.pc1 h19 ?_
  simp (config := { maxSteps := 2000000 }) -implicitDefEqProofs +contextual (disch := first | assumption | omega | decide +kernel) only [push_cast, ↓capI, br2_true, br2_false, frk_tt, frk_tf, frk_f, frkD_tt, frkD_tf, frkD_f, pk2_true, pk2_false, imp_true, seval, Nat.reduceLeDiff, Nat.reduceEqDiff, reduceCtorEq, ↓reduceIte, reduceCtorEq, fmN, fm0, take_N, toN1, slN_nil, get_flat_part lenN, get_flat_drop lenN, len_flat lenN, cfg0, encN, slN, encF, st_slZ, os_slZ]
  refine callG.pc1 pc8 ?_
  simp (config := { maxSteps := 2000000 }) -implicitDefEqProofs +contextual (disch := first | assumption | omega | decide +kernel) only [push_cast, ↓capI, br2_true, br2_false, frk_tt, frk_tf, frk_f, frkD_tt, frkD_tf, frkD_f, pk2_true, pk2_false, imp_true, seval, Nat.reduceLeDiff, Nat.reduceEqDiff, reduceCtorEq, ↓reduceIte, reduceCtorEq, fmN, fm0, take_N, toN1, slN_nil, get_flat_part lenN, get_flat_drop lenN, len_flat lenN, cfg0, encN, slN, encF, st_slZ, os_slZ]
  refine endK.ret ?_ (by first | rfl | simp [bel_LN, belN, belF, bel_Ns, bel_slN, bel_Sp, bel_slZ]); simp [evRes, getT, retV, Tryd.f5]
theorem law5 (xs : List V) (h : TypA tt 8 [22, 24] xs) : PC Tryd.prog 5 xs (.bool true) := by
  obtain ⟨v, vs, cs, rfl, rfl, h1, h⟩ := typA_cons h
  obtain ⟨v, vs, ds, rfl, rfl, h2, h⟩ := typA_cons h
  obtain rfl := typA_nil h
  obtain ⟨a, ha, hn⟩ := typ_slNb h1
  obtain ⟨f, hf, _⟩ := typ_F _ h2
  refine PC.lax ?_
  rw [laxs, laxs, laxs, ha, mk_F, Go.Vm.lax, hf]
  exact pc5 a f hn
end Go.Proofs.YtllfdnbnkncnhaaDoor

/- Chapter 44: the law PredicateFormats as a contract. -/
set_option maxRecDepth 100000
set_option maxHeartbeats 4000000
set_option linter.all false
namespace Go.Proofs.YtllfdnbnkncnhaaDoor
open Go.Vm Go.ChangeShapes Go.WideShapes Go.ChangeAt Go.RowKit

theorem pc6 (l : List Nd) : PC Tryd.prog 6 [slN l] (.bool true) := by
  by_cases hl : 200 < l.length
  · refine PC.walk tok mixed cfg0 Tryd.func6 rfl Tryd.call6 (by simp [bel_LN, belN, belF, bel_Ns, bel_slN]) (by first | rfl | simp [bel_LN, belN, belF, bel_Ns, bel_slN]) ?_; simp (config := { maxSteps := 2000000 }) -implicitDefEqProofs +contextual (disch := first | assumption | omega | decide +kernel) only [push_cast, ↓capI, br2_true, br2_false, frk_tt, frk_tf, frk_f, frkD_tt, frkD_tf, frkD_f, pk2_true, pk2_false, imp_true, seval, Nat.reduceLeDiff, Nat.reduceEqDiff, reduceCtorEq, ↓reduceIte, reduceCtorEq, cfg0, encN, slN, encF, Tryd.ntmps6]
    refine callO.pc pc8 ?_
    simp (config := { maxSteps := 2000000 }) -implicitDefEqProofs +contextual (disch := first | assumption | omega | decide +kernel) only [push_cast, ↓capI, br2_true, br2_false, frk_tt, frk_tf, frk_f, frkD_tt, frkD_tf, frkD_f, pk2_true, pk2_false, imp_true, seval, Nat.reduceLeDiff, Nat.reduceEqDiff, reduceCtorEq, ↓reduceIte, reduceCtorEq, cfg0, encN, slN, encF]
    refine endK.ret ?_ (by first | rfl | simp [bel_LN, belN, belF, bel_Ns, bel_slN]); simp [evRes, getT, retV, Tryd.f6]
  by_cases hc : checkP l = 0
  case neg =>
    have hf : fmtL l [] (checkP l) := ⟨rfl, .inr ⟨hc, rfl⟩⟩
    refine PC.walk tok mixed cfg0 Tryd.func6 rfl Tryd.call6 (by simp [bel_LN, belN, belF, bel_Ns, bel_slN]) (by first | rfl | simp [bel_LN, belN, belF, bel_Ns, bel_slN]) ?_; simp (config := { maxSteps := 2000000 }) -implicitDefEqProofs +contextual (disch := first | assumption | omega | decide +kernel) only [push_cast, ↓capI, br2_true, br2_false, frk_tt, frk_tf, frk_f, frkD_tt, frkD_tf, frkD_f, pk2_true, pk2_false, imp_true, seval, Nat.reduceLeDiff, Nat.reduceEqDiff, reduceCtorEq, ↓reduceIte, reduceCtorEq, cfg0, encN, slN, encF, Tryd.ntmps6]
    refine callO.pc (pc20 l (by omega) [] _ hf) ?_
    simp (config := { maxSteps := 2000000 }) -implicitDefEqProofs +contextual (disch := first | assumption | omega | decide +kernel) only [push_cast, ↓capI, br2_true, br2_false, frk_tt, frk_tf, frk_f, frkD_tt, frkD_tf, frkD_f, pk2_true, pk2_false, imp_true, seval, Nat.reduceLeDiff, Nat.reduceEqDiff, reduceCtorEq, ↓reduceIte, reduceCtorEq, cfg0, encN, slN, encF]
    refine callO.pc (pc21 l (by omega) [] _ hf) ?_
    simp (config := { maxSteps := 2000000 }) -implicitDefEqProofs +contextual (disch := first | assumption | omega | decide +kernel) only [push_cast, ↓capI, br2_true, br2_false, frk_tt, frk_tf, frk_f, frkD_tt, frkD_tf, frkD_f, pk2_true, pk2_false, imp_true, seval, Nat.reduceLeDiff, Nat.reduceEqDiff, reduceCtorEq, ↓reduceIte, reduceCtorEq, cfg0, encN, slN, encF, hc]
    refine callO.pc pc8 ?_
    simp (config := { maxSteps := 2000000 }) -implicitDefEqProofs +contextual (disch := first | assumption | omega | decide +kernel) only [push_cast, ↓capI, br2_true, br2_false, frk_tt, frk_tf, frk_f, frkD_tt, frkD_tf, frkD_f, pk2_true, pk2_false, imp_true, seval, Nat.reduceLeDiff, Nat.reduceEqDiff, reduceCtorEq, ↓reduceIte, reduceCtorEq, cfg0, encN, slN, encF]
    refine endK.ret ?_ (by first | rfl | simp [bel_LN, belN, belF, bel_Ns, bel_slN]); simp [evRes, getT, retV, Tryd.f6]
  obtain ⟨h24, p, hp, e⟩ := checkP_tree hc
  have hf : fmtL l (tx p) 0 := ⟨hc.symm, .inl ⟨hc, p, hp, e, rfl⟩⟩
  have hq := pc22 (tx p)
  rw [parse_tx hp (by rw [← e]; exact h24), encMI, slM_cons (flat_ne (cl p))] at hq
  have hcl : (flat (cl p)).length = l.length := by rw [cl_len, ← e]
  have hc2 := tree_checkP (cl_ok hp) (by rw [hcl]; exact h24)
  have hf2 : fmtL (flat (cl p)) (tx p) 0 := ⟨hc2.symm, .inl ⟨hc2, cl p, cl_ok hp, rfl, (cl_tx hp).symm⟩⟩
  have h23 := pc23 (flat (cl p)) (by omega) (tx p) 0 hf2
  simp only [slN, hcl] at h23
  refine PC.walk tok mixed cfg0 Tryd.func6 rfl Tryd.call6 (by simp [bel_LN, belN, belF, bel_Ns, bel_slN]) (by first | rfl | simp [bel_LN, belN, belF, bel_Ns, bel_slN]) ?_; simp (config := { maxSteps := 2000000 }) -implicitDefEqProofs +contextual (disch := first | assumption | omega | decide +kernel) only [push_cast, ↓capI, br2_true, br2_false, frk_tt, frk_tf, frk_f, frkD_tt, frkD_tf, frkD_f, pk2_true, pk2_false, imp_true, seval, Nat.reduceLeDiff, Nat.reduceEqDiff, reduceCtorEq, ↓reduceIte, reduceCtorEq, cfg0, encN, slN, encF, Tryd.ntmps6]
  refine callO.pc (pc20 l (by omega) _ _ hf) ?_
  simp (config := { maxSteps := 2000000 }) -implicitDefEqProofs +contextual (disch := first | assumption | omega | decide +kernel) only [push_cast, ↓capI, br2_true, br2_false, frk_tt, frk_tf, frk_f, frkD_tt, frkD_tf, frkD_f, pk2_true, pk2_false, imp_true, seval, Nat.reduceLeDiff, Nat.reduceEqDiff, reduceCtorEq, ↓reduceIte, reduceCtorEq, cfg0, encN, slN, encF]
  refine callO.pc (pc21 l (by omega) _ _ hf) ?_
  simp (config := { maxSteps := 2000000 }) -implicitDefEqProofs +contextual (disch := first | assumption | omega | decide +kernel) only [push_cast, ↓capI, br2_true, br2_false, frk_tt, frk_tf, frk_f, frkD_tt, frkD_tf, frkD_f, pk2_true, pk2_false, imp_true, seval, Nat.reduceLeDiff, Nat.reduceEqDiff, reduceCtorEq, ↓reduceIte, reduceCtorEq, cfg0, encN, slN, encF]
  refine callO.pc hq ?_
  simp (config := { maxSteps := 2000000 }) -implicitDefEqProofs +contextual (disch := first | assumption | omega | decide +kernel) only [push_cast, ↓capI, br2_true, br2_false, frk_tt, frk_tf, frk_f, frkD_tt, frkD_tf, frkD_f, pk2_true, pk2_false, imp_true, seval, Nat.reduceLeDiff, Nat.reduceEqDiff, reduceCtorEq, ↓reduceIte, reduceCtorEq, cfg0, encN, slN, encF, hcl]
  refine callO.pc h23 ?_
  simp (config := { maxSteps := 2000000 }) -implicitDefEqProofs +contextual (disch := first | assumption | omega | decide +kernel) only [push_cast, ↓capI, br2_true, br2_false, frk_tt, frk_tf, frk_f, frkD_tt, frkD_tf, frkD_f, pk2_true, pk2_false, imp_true, seval, Nat.reduceLeDiff, Nat.reduceEqDiff, reduceCtorEq, ↓reduceIte, reduceCtorEq, cfg0, encN, slN, encF]
  refine callO.pc pc8 ?_
  simp (config := { maxSteps := 2000000 }) -implicitDefEqProofs +contextual (disch := first | assumption | omega | decide +kernel) only [push_cast, ↓capI, br2_true, br2_false, frk_tt, frk_tf, frk_f, frkD_tt, frkD_tf, frkD_f, pk2_true, pk2_false, imp_true, seval, Nat.reduceLeDiff, Nat.reduceEqDiff, reduceCtorEq, ↓reduceIte, reduceCtorEq, cfg0, encN, slN, encF]
  refine endK.ret ?_ (by first | rfl | simp [bel_LN, belN, belF, bel_Ns, bel_slN]); simp [evRes, getT, retV, Tryd.f6]
theorem law6 (xs : List V) (h : TypA tt 8 [22] xs) : PC Tryd.prog 6 xs (.bool true) := by
  obtain ⟨v, vs, cs, rfl, rfl, h1, h⟩ := typA_cons h
  obtain rfl := typA_nil h
  obtain ⟨a, ha⟩ := typ_slN h1
  refine PC.lax ?_
  rw [laxs, laxs, ha]
  exact pc6 a
end Go.Proofs.YtllfdnbnkncnhaaDoor

/- Chapter 44: the law PredicateFromSpace as a contract. -/
set_option maxRecDepth 100000
set_option maxHeartbeats 4000000
set_option linter.all false
namespace Go.Proofs.YtllfdnbnkncnhaaDoor
open Go.Vm Go.ChangeShapes Go.WideShapes Go.ChangeAt Go.RowKit

theorem fsE_ex (s : List Cu) : (fsE s (.tup [slN (if s = [] then [⟨2, 0, 0, 0⟩] else fsN s s.length), .int .i64 0]) ∧ ∀ j, j ≤ s.length → (fsN s j).length ≤ 24) ∨ fsE s (.tup [.sl true [] 0, .int .i64 12]) := by
  by_cases h : ∀ j, j ≤ s.length → (fsN s j).length ≤ 24
  · exact .inl ⟨⟨fun _ => rfl, fun j hj h2 => absurd (h j hj) (by omega)⟩, h⟩
  · refine .inr ⟨fun h2 => absurd h2 h, fun _ _ _ => rfl⟩
theorem nilEq : PC Tryd.prog 26 [.sl true [] 0, .sl true [] 0] (.bool true) := by
  refine PC.lax ?_
  exact eq_refl26 [] (by decide)
instance (c : Cu) (f : Fl) : Decidable (inC c f) := inferInstanceAs (Decidable (_ = _))
theorem andN {a b : Nat} (ha : a < 2 ^ 64) (hb : b < 2 ^ 64) : ibits BinOp.and IntKind.u64 (a : Int) (b : Int) = ((a &&& b : Nat) : Int) := by
  rw [ib_and, BitVec.toNat_and, BitVec.ofInt_natCast, BitVec.ofInt_natCast, BitVec.toNat_ofNat, BitVec.toNat_ofNat, Nat.mod_eq_of_lt ha, Nat.mod_eq_of_lt hb]
def inS (s : List Cu) (f : Fl) : Bool := s.any fun c => decide (inC c f)
theorem inS_nil {f : Fl} : inS [] f = false := rfl
theorem pc7 (s : List Cu) (f : Fl) : PC Tryd.prog 7 [slC s, .agg (encF f)] (.bool true) := by
  by_cases hl : 40 < s.length
  · refine PC.walk tok mixed cfg0 Tryd.func7 rfl Tryd.call7 (by simp [belF, bel_Ns, bel_slN, belC, bel_Cs, bel_slC]) (by first | rfl | simp [belF, bel_Ns, bel_slN, belC, bel_Cs, bel_slC]) ?_; simp (config := { maxSteps := 2000000 }) -implicitDefEqProofs +contextual (disch := first | assumption | omega | decide +kernel) only [push_cast, ↓capI, br2_true, br2_false, frk_tt, frk_tf, frk_f, frkD_tt, frkD_tf, frkD_f, pk2_true, pk2_false, imp_true, seval, Nat.reduceLeDiff, Nat.reduceEqDiff, reduceCtorEq, ↓reduceIte, reduceCtorEq, get_flat_part lenC, get_flat_drop lenC, len_flat lenC, cfg0, encF, encC, slC, slN, Tryd.ntmps7]
    refine callO.pc pc8 ?_
    simp (config := { maxSteps := 2000000 }) -implicitDefEqProofs +contextual (disch := first | assumption | omega | decide +kernel) only [push_cast, ↓capI, br2_true, br2_false, frk_tt, frk_tf, frk_f, frkD_tt, frkD_tf, frkD_f, pk2_true, pk2_false, imp_true, seval, Nat.reduceLeDiff, Nat.reduceEqDiff, reduceCtorEq, ↓reduceIte, reduceCtorEq, get_flat_part lenC, get_flat_drop lenC, len_flat lenC, cfg0, encF, encC, slC, slN]
    refine endK.ret ?_ (by first | rfl | simp [belF, bel_Ns, bel_slN, belC, bel_Cs, bel_slC]); simp [evRes, getT, retV, Tryd.f7]
  rcases fsE_ex s with ⟨hE, h24⟩ | hE
  case inr =>
    refine PC.walk tok mixed cfg0 Tryd.func7 rfl Tryd.call7 (by simp [belF, bel_Ns, bel_slN, belC, bel_Cs, bel_slC]) (by first | rfl | simp [belF, bel_Ns, bel_slN, belC, bel_Cs, bel_slC]) ?_; simp (config := { maxSteps := 2000000 }) -implicitDefEqProofs +contextual (disch := first | assumption | omega | decide +kernel) only [push_cast, ↓capI, br2_true, br2_false, frk_tt, frk_tf, frk_f, frkD_tt, frkD_tf, frkD_f, pk2_true, pk2_false, imp_true, seval, Nat.reduceLeDiff, Nat.reduceEqDiff, reduceCtorEq, ↓reduceIte, reduceCtorEq, get_flat_part lenC, get_flat_drop lenC, len_flat lenC, cfg0, encF, encC, slC, slN, Tryd.ntmps7]
    refine callO.pc (pc24 s (by omega) _ hE rfl) ?_
    simp (config := { maxSteps := 2000000 }) -implicitDefEqProofs +contextual (disch := first | assumption | omega | decide +kernel) only [push_cast, ↓capI, br2_true, br2_false, frk_tt, frk_tf, frk_f, frkD_tt, frkD_tf, frkD_f, pk2_true, pk2_false, imp_true, seval, Nat.reduceLeDiff, Nat.reduceEqDiff, reduceCtorEq, ↓reduceIte, reduceCtorEq, get_flat_part lenC, get_flat_drop lenC, len_flat lenC, cfg0, encF, encC, slC, slN]
    refine callO.pc (pc25 s (by omega) _ hE rfl) ?_
    simp (config := { maxSteps := 2000000 }) -implicitDefEqProofs +contextual (disch := first | assumption | omega | decide +kernel) only [push_cast, ↓capI, br2_true, br2_false, frk_tt, frk_tf, frk_f, frkD_tt, frkD_tf, frkD_f, pk2_true, pk2_false, imp_true, seval, Nat.reduceLeDiff, Nat.reduceEqDiff, reduceCtorEq, ↓reduceIte, reduceCtorEq, get_flat_part lenC, get_flat_drop lenC, len_flat lenC, cfg0, encF, encC, slC, slN]
    refine callO.pc nilEq ?_
    simp (config := { maxSteps := 2000000 }) -implicitDefEqProofs +contextual (disch := first | assumption | omega | decide +kernel) only [push_cast, ↓capI, br2_true, br2_false, frk_tt, frk_tf, frk_f, frkD_tt, frkD_tf, frkD_f, pk2_true, pk2_false, imp_true, seval, Nat.reduceLeDiff, Nat.reduceEqDiff, reduceCtorEq, ↓reduceIte, reduceCtorEq, get_flat_part lenC, get_flat_drop lenC, len_flat lenC, cfg0, encF, encC, slC, slN]
    refine callO.pc pc8 ?_
    simp (config := { maxSteps := 2000000 }) -implicitDefEqProofs +contextual (disch := first | assumption | omega | decide +kernel) only [push_cast, ↓capI, br2_true, br2_false, frk_tt, frk_tf, frk_f, frkD_tt, frkD_tf, frkD_f, pk2_true, pk2_false, imp_true, seval, Nat.reduceLeDiff, Nat.reduceEqDiff, reduceCtorEq, ↓reduceIte, reduceCtorEq, get_flat_part lenC, get_flat_drop lenC, len_flat lenC, cfg0, encF, encC, slC, slN]
    refine endK.ret ?_ (by first | rfl | simp [belF, bel_Ns, bel_slN, belC, bel_Cs, bel_slC]); simp [evRes, getT, retV, Tryd.f7]
  obtain ⟨p, hp, hN, hev⟩ := fs_all s
  have hlen : (flat p).length ≤ 24 := by
    rw [← hN]
    split
    · decide
    · exact h24 s.length (Nat.le_refl _)
  rw [hN] at hE
  have hck := tree_checkP hp hlen
  have h24c := pc24 s (by omega) _ hE (by simp [belF, bel_Ns, bel_slN, belC, bel_Cs, bel_slC])
  have h25c := pc25 s (by omega) _ hE (by simp [belF, bel_Ns, bel_slN, belC, bel_Cs, bel_slC])
  have h26c := eq_refl26 (flat p) (by omega)
  have h9 := pc9 (flat p) (by omega)
  rw [hck] at h9
  have hb : evP f p = inS s f := by
    rw [Bool.eq_iff_iff, hev, inS, List.any_eq_true]
    simp only [decide_eq_true_eq]
  have h11 := pc11 f (flat p) (by omega) (inS s f) (.inl ⟨hck, p, hp, rfl, hb.symm⟩)
  refine PC.walk tok mixed cfg0 Tryd.func7 rfl Tryd.call7 (by simp [belF, bel_Ns, bel_slN, belC, bel_Cs, bel_slC]) (by first | rfl | simp [belF, bel_Ns, bel_slN, belC, bel_Cs, bel_slC]) ?_; simp (config := { maxSteps := 2000000 }) -implicitDefEqProofs +contextual (disch := first | assumption | omega | decide +kernel) only [push_cast, ↓capI, br2_true, br2_false, frk_tt, frk_tf, frk_f, frkD_tt, frkD_tf, frkD_f, pk2_true, pk2_false, imp_true, seval, Nat.reduceLeDiff, Nat.reduceEqDiff, reduceCtorEq, ↓reduceIte, reduceCtorEq, get_flat_part lenC, get_flat_drop lenC, len_flat lenC, cfg0, encF, encC, slC, slN, Tryd.ntmps7]
  refine callO.pc h24c ?_
  simp (config := { maxSteps := 2000000 }) -implicitDefEqProofs +contextual (disch := first | assumption | omega | decide +kernel) only [push_cast, ↓capI, br2_true, br2_false, frk_tt, frk_tf, frk_f, frkD_tt, frkD_tf, frkD_f, pk2_true, pk2_false, imp_true, seval, Nat.reduceLeDiff, Nat.reduceEqDiff, reduceCtorEq, ↓reduceIte, reduceCtorEq, get_flat_part lenC, get_flat_drop lenC, len_flat lenC, cfg0, encF, encC, slC, slN]
  refine callO.pc h25c ?_
  simp (config := { maxSteps := 2000000 }) -implicitDefEqProofs +contextual (disch := first | assumption | omega | decide +kernel) only [push_cast, ↓capI, br2_true, br2_false, frk_tt, frk_tf, frk_f, frkD_tt, frkD_tf, frkD_f, pk2_true, pk2_false, imp_true, seval, Nat.reduceLeDiff, Nat.reduceEqDiff, reduceCtorEq, ↓reduceIte, reduceCtorEq, get_flat_part lenC, get_flat_drop lenC, len_flat lenC, cfg0, encF, encC, slC, slN]
  refine callO.pc h26c ?_
  simp (config := { maxSteps := 2000000 }) -implicitDefEqProofs +contextual (disch := first | assumption | omega | decide +kernel) only [push_cast, ↓capI, br2_true, br2_false, frk_tt, frk_tf, frk_f, frkD_tt, frkD_tf, frkD_f, pk2_true, pk2_false, imp_true, seval, Nat.reduceLeDiff, Nat.reduceEqDiff, reduceCtorEq, ↓reduceIte, reduceCtorEq, get_flat_part lenC, get_flat_drop lenC, len_flat lenC, cfg0, encF, encC, slC, slN]
  refine T.lp tok mixed cfg0 (fun (j : Nat) => kp 1 (dd 2 (kp 1 (dd 1 (kp 1 (dd 3 (sv (.bool (inS (s.take j) f)) (sv (.int .i64 j) (dd 67 (nl)))))))))) (fun H0 (j : Nat) => H0) (fun (j : Nat) => j ≤ s.length) (fun (j : Nat) => s.length - j) (0) ?_ ?_ ?_
  · exact Nat.zero_le _
  · exact Gn.canon (J := []) (by first | rfl | (simp [List.append_nil]; done) | (simp [List.append_nil]; rfl)) (by simp [wk, slC, inS_nil, putT, kp, dd, sv, nl]) (by simp [List.length_append]) (by simp [belF, bel_Ns, bel_slN, belC, bel_Cs, bel_slC, kp, dd, sv, nl]) (by simp [belF, bel_Ns, bel_slN, belC, bel_Cs, bel_slC])
  intro j hj
  have he := encf_lt f
  by_cases h : j < s.length
  case neg =>
    have hj' : j = s.length := by omega
    subst hj'
    have hA : inS (s.take s.length) f = inS s f := by rw [List.take_length]
    simp (config := { maxSteps := 2000000 }) -implicitDefEqProofs +contextual (disch := first | assumption | omega | decide +kernel) only [push_cast, ↓capI, br2_true, br2_false, frk_tt, frk_tf, frk_f, frkD_tt, frkD_tf, frkD_f, pk2_true, pk2_false, imp_true, seval, Nat.reduceLeDiff, Nat.reduceEqDiff, reduceCtorEq, ↓reduceIte, reduceCtorEq, get_flat_part lenC, get_flat_drop lenC, len_flat lenC, cfg0, encF, encC, slC, slN, hA]
    refine callO.pc h9 ?_
    simp (config := { maxSteps := 2000000 }) -implicitDefEqProofs +contextual (disch := first | assumption | omega | decide +kernel) only [push_cast, ↓capI, br2_true, br2_false, frk_tt, frk_tf, frk_f, frkD_tt, frkD_tf, frkD_f, pk2_true, pk2_false, imp_true, seval, Nat.reduceLeDiff, Nat.reduceEqDiff, reduceCtorEq, ↓reduceIte, reduceCtorEq, get_flat_part lenC, get_flat_drop lenC, len_flat lenC, cfg0, encF, encC, slC, slN]
    refine callO.pc h11 ?_
    simp (config := { maxSteps := 2000000 }) -implicitDefEqProofs +contextual (disch := first | assumption | omega | decide +kernel) only [push_cast, ↓capI, br2_true, br2_false, frk_tt, frk_tf, frk_f, frkD_tt, frkD_tf, frkD_f, pk2_true, pk2_false, imp_true, seval, Nat.reduceLeDiff, Nat.reduceEqDiff, reduceCtorEq, ↓reduceIte, reduceCtorEq, get_flat_part lenC, get_flat_drop lenC, len_flat lenC, cfg0, encF, encC, slC, slN]
    refine callO.pc pc8 ?_
    simp (config := { maxSteps := 2000000 }) -implicitDefEqProofs +contextual (disch := first | assumption | omega | decide +kernel) only [push_cast, ↓capI, br2_true, br2_false, frk_tt, frk_tf, frk_f, frkD_tt, frkD_tf, frkD_f, pk2_true, pk2_false, imp_true, seval, Nat.reduceLeDiff, Nat.reduceEqDiff, reduceCtorEq, ↓reduceIte, reduceCtorEq, get_flat_part lenC, get_flat_drop lenC, len_flat lenC, cfg0, encF, encC, slC, slN]
    refine endK.ret ?_ (by first | rfl | simp [belF, bel_Ns, bel_slN, belC, bel_Cs, bel_slC]); simp [evRes, getT, retV, Tryd.f7]
  have hsucc : inS (s.take (j + 1)) f = (inS (s.take j) f || decide (inC s[j] f)) := by
    rw [inS, List.take_succ_eq_append_getElem h, List.any_append, ← inS]
    simp
  have hm := s[j].m.isLt
  have hv := s[j].v.isLt
  obtain ⟨L, hL⟩ : ∃ L, L = s[j].m.toNat % 16777216 := ⟨_, rfl⟩
  have hLlt : L < 16777216 := by omega
  have hr : (s[j].m.toNat : Int).tmod 16777216 = (L : Int) := by
    rw [Int.tmod_eq_emod_of_nonneg (by omega)]
    omega
  have hw : IntKind.u64.wrap (L : Int) = (L : Int) := u64N (by omega)
  obtain ⟨A, hA⟩ : ∃ A, A = encf f &&& L := ⟨_, rfl⟩
  obtain ⟨B, hB⟩ : ∃ B, B = s[j].v.toNat &&& L := ⟨_, rfl⟩
  have hiA : ibits BinOp.and IntKind.u64 (encf f : Int) (L : Int) = (A : Int) := by rw [hA]; exact andN (by omega) (by omega)
  have hiB : ibits BinOp.and IntKind.u64 (s[j].v.toNat : Int) (L : Int) = (B : Int) := by rw [hB]; exact andN hv (by omega)
  have hq : (A = B) = inC s[j] f := by rw [hA, hB, hL]; rfl
  cases hb1 : inS (s.take j) f
  · rw [hb1, Bool.false_or] at hsucc
    have hd : decide ((A : Int) = (B : Int)) = inS (s.take (j + 1)) f := by
      rw [hsucc, decide_eq_decide, ← hq]
      omega
    simp (config := { maxSteps := 2000000 }) -implicitDefEqProofs +contextual (disch := first | assumption | omega | decide +kernel) only [push_cast, ↓capI, br2_true, br2_false, frk_tt, frk_tf, frk_f, frkD_tt, frkD_tf, frkD_f, pk2_true, pk2_false, imp_true, seval, Nat.reduceLeDiff, Nat.reduceEqDiff, reduceCtorEq, ↓reduceIte, reduceCtorEq, get_flat_part lenC, get_flat_drop lenC, len_flat lenC, cfg0, encF, encC, slC, slN, hr, hw]
    refine callG.pc1 (pc15 f) ?_
    simp (config := { maxSteps := 2000000 }) -implicitDefEqProofs +contextual (disch := first | assumption | omega | decide +kernel) only [push_cast, ↓capI, br2_true, br2_false, frk_tt, frk_tf, frk_f, frkD_tt, frkD_tf, frkD_f, pk2_true, pk2_false, imp_true, seval, Nat.reduceLeDiff, Nat.reduceEqDiff, reduceCtorEq, ↓reduceIte, reduceCtorEq, get_flat_part lenC, get_flat_drop lenC, len_flat lenC, cfg0, encF, encC, slC, slN, hiA, hiB, ibeq_dec]
    refine ⟨j + 1, by omega, by (try simp only); omega, ?_⟩; exact Gn.canon (by first | rfl | (simp [List.append_nil, hd]; rfl)) (by simp [wk, slC, inS_nil, hd]) (by simp [List.length_append]) (by simp [belF, bel_Ns, bel_slN, belC, bel_Cs, bel_slC]) (by simp [belF, bel_Ns, bel_slN, belC, bel_Cs, bel_slC])
  · rw [hb1, Bool.true_or] at hsucc
    simp (config := { maxSteps := 2000000 }) -implicitDefEqProofs +contextual (disch := first | assumption | omega | decide +kernel) only [push_cast, ↓capI, br2_true, br2_false, frk_tt, frk_tf, frk_f, frkD_tt, frkD_tf, frkD_f, pk2_true, pk2_false, imp_true, seval, Nat.reduceLeDiff, Nat.reduceEqDiff, reduceCtorEq, ↓reduceIte, reduceCtorEq, get_flat_part lenC, get_flat_drop lenC, len_flat lenC, cfg0, encF, encC, slC, slN, hr, hw]
    refine ⟨j + 1, by omega, by (try simp only); omega, ?_⟩; exact Gn.canon (by first | rfl | (simp [List.append_nil, hsucc]; rfl)) (by simp [wk, slC, inS_nil, hsucc]) (by simp [List.length_append]) (by simp [belF, bel_Ns, bel_slN, belC, bel_Cs, bel_slC]) (by simp [belF, bel_Ns, bel_slN, belC, bel_Cs, bel_slC])
theorem law7 (xs : List V) (h : TypA tt 8 [34, 24] xs) : PC Tryd.prog 7 xs (.bool true) := by
  obtain ⟨v, vs, cs, rfl, rfl, h1, h⟩ := typA_cons h
  obtain ⟨v, vs, ds, rfl, rfl, h2, h⟩ := typA_cons h
  obtain rfl := typA_nil h
  obtain ⟨a, ha⟩ := typ_slC h1
  obtain ⟨f, hf, _⟩ := typ_F _ h2
  refine PC.lax ?_
  rw [laxs, laxs, laxs, ha, mk_F, Go.Vm.lax, hf]
  exact pc7 a f
end Go.Proofs.YtllfdnbnkncnhaaDoor

/- Chapter 44: the listed package-level variables; from a contract to a given statement. -/
set_option maxRecDepth 100000
set_option maxHeartbeats 4000000
set_option linter.all false
namespace Go.Proofs.YtllfdnbnkncnhaaDoor
open Go Go.Vm Go.ChangeShapes Go.WideShapes Go.ChangeAt Go.RowKit

abbrev LL : List (String × DataW Unit) := Rows.predicateChecksRow.laid
theorem gPow : Tryd.prog.globalNamed "internal/strconv.uint64pow10" = some 0 := by kernel_rfl
theorem tPow : (Tryd.prog.globals[0]?).map (·.type) = some 116 := by kernel_rfl
theorem gFirst : Tryd.prog.globalNamed "unicode/utf8.first" = some 3 := by kernel_rfl
theorem gt_of_laid {W : World} (h : laidMetH Tryd.prog LL W) : GT (fun _ => False) W := by
  rw [MakeChecks.laidMetH_plain _ _ _ (by kernel_rfl)] at h
  obtain ⟨g', t', cs, fuel, p, hg', ht', hvar, hd⟩ := Lib.laidMet.reads h (n := "internal/strconv.uint64pow10") (d := Rows.laid_internal_strconv_uint64pow10) (by simp [LL, Rows.predicateChecksRow])
  obtain rfl := Option.some.inj (gPow.symm.trans hg')
  obtain rfl := Option.some.inj (tPow.symm.trans ht')
  have hc := Lib.cells_of_tab (k := .u64) (zs := [1, 10, 100, 1000, 10000, 100000, 1000000, 10000000, 100000000, 1000000000, 10000000000, 100000000000, 1000000000000, 10000000000000, 100000000000000, 1000000000000000, 10000000000000000, 100000000000000000, 1000000000000000000, 10000000000000000000])
    (show Tryd.prog.underlying 116 = some (.array 20 29) by kernel_rfl) (show Tryd.prog.underlying 29 = some (.int .u64) by kernel_rfl) (by kernel_rfl) (by kernel_rfl) hd
  have hcell := World.var?_cell hg' hvar
  intro g l hgl
  have h0 : g = 0 ∧ l = [(.u64, 1), (.u64, 10), (.u64, 100), (.u64, 1000), (.u64, 10000), (.u64, 100000), (.u64, 1000000), (.u64, 10000000), (.u64, 100000000), (.u64, 1000000000), (.u64, 10000000000), (.u64, 100000000000), (.u64, 1000000000000), (.u64, 10000000000000), (.u64, 100000000000000), (.u64, 1000000000000000), (.u64, 10000000000000000), (.u64, 100000000000000000), (.u64, 1000000000000000000), (.u64, 10000000000000000000)] := by
    match g, hgl with
    | 0, hgl => rw [gl0] at hgl; exact ⟨rfl, (Option.some.inj hgl).symm⟩
    | g + 1, hgl => cases hgl
  obtain ⟨rfl, rfl⟩ := h0
  have hcs : CellsAt W 0 0 cs.toList := by
    intro i v hv
    rw [Nat.zero_add, hcell i, ← hv, Array.getElem?_toList]
  refine ⟨?_, fun h => h, ?_⟩
  · have h1 := hcell 0
    have h2 : cs[0]? = some (.int .u64 1) := by rw [← Array.getElem?_toList, hc]; rfl
    rw [h2] at h1
    apply Decidable.byContradiction
    intro hn
    unfold World.cell? at h1
    rw [Array.getElem?_eq_none (by omega)] at h1
    cases h1
  · rw [hc] at hcs
    exact hcs
noncomputable def laidWorld (os : Os) : World :=
  { World.doorLaid Tryd.prog 34 os with heap := (World.doorLaid Tryd.prog 34 os).heap.modify 3 fun
      | .cells _ t frozen => .cells (Pinned.utf8FirstZ.map fun (n : Nat) => Value.int .u8 n).toArray t frozen
      | o => o }
theorem door_met (os : Os) (args : Array Value) : laidMetH Tryd.prog LL ((laidWorld os).forCall (fun _ _ => 0) ⟨#[], args, []⟩).memory :=
  laidMetH_of_parts3 (fuel := 8) (laidMet_of_run' 8 (by kernel_rfl) (by kernel_rfl)) (by kernel_rfl) (by kernel_rfl)
end Go.Proofs.YtllfdnbnkncnhaaDoor


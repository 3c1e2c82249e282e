/-
  Joined by a program from the texts Run Run2 Run3 Run4 Run5 Run6 Run7.
-/
import Derived.Test.YtafongdfnpnneaaGreatDoorMa
import Derived.Test.YtafongdfnpnneaaGreatDoorMc
import Derived.Test.YtafongdfnpnneaaGreatDoorVm10
/- Chapter 53: the state of a network after some events, by the program: its objects; what the functions make of it. -/
set_option maxRecDepth 100000
set_option maxHeartbeats 4000000
set_option linter.all false
namespace Go.Proofs.YtafongdfnpnneaaGreatDoor.Top
open Go.Vm

abbrev Hp := Int × Int × Int
def encH (h : Hp) : List V := [.int .i64 h.1, .int .i64 h.2.1, .int .i64 h.2.2]
structure Pk where
  st : Int
  at_ : Int × Int
  host : Int
  hops : List Hp
  deriving DecidableEq
instance : Inhabited Pk := ⟨⟨0, (0, 0), 0, []⟩⟩
structure Rn where
  t : Tp
  n : Nat
  pk : Nat → Pk
  pend : Int
def encK (x : Nat × Pk) : List V := [.int .i64 x.2.st, .int .i64 x.2.at_.1, .int .i64 x.2.at_.2, .int .i64 x.2.host, .buf (x.1 + 3) x.2.hops.length 0 x.2.hops.length 3]
def hopO (pk : Nat → Pk) (i : Nat) : Ob := .cells (pk i).hops.length ((pk i).hops.flatMap encH)
def runC (r : Rn) : List V := [slI r.t.ports, .buf 1 0 0 r.t.links.length 5, slP r.t.hosts, .buf 2 r.n 0 r.n 5, .int .i64 r.pend]
def pksOf (n : Nat) (pk : Nat → Pk) : List (Nat × Pk) := tab n fun i => (i, pk i)
def pks (r : Rn) : List (Nat × Pk) := pksOf r.n r.pk
/-- the objects of a run -/
def objs (r : Rn) : List Ob := .cells 0 (runC r) :: .cells 0 (r.t.links.flatMap encL) :: .cells r.n ((pks r).flatMap encK) :: tab r.n (hopO r.pk)
structure Rn.fit (r : Rn) : Prop where
  t : r.t.fit
  n : r.n ≤ 4000000
  hops : ∀ i, (r.pk i).hops.length ≤ 4000000

theorem lenK (x : Nat × Pk) : (encK x).length = 5 := rfl
theorem lenH (x : Hp) : (encH x).length = 3 := rfl
theorem pks_len {r : Rn} : (pks r).length = r.n := tab_length
theorem bel_H {n : Nat} (x : Hp) : belAll n (encH x) = true := rfl
theorem bel_Hs {n : Nat} (xs : List Hp) : belAll n (xs.flatMap encH) = true := belAll_flat bel_H xs
theorem bel_hopO {n i : Nat} {pk : Nat → Pk} : (hopO pk i).bel n = true := by rw [hopO, belO_cells]; exact bel_Hs _
theorem bel_hops {n m : Nat} {pk : Nat → Pk} : belObs m (tab n (hopO pk)) = true := belObs_tabN fun _ _ => bel_hopO
theorem bel_pks {r : Rn} {m : Nat} (h : r.n + 3 ≤ m) : belAll m ((pks r).flatMap encK) = true := by
  rw [belAll_iff]
  intro x hx
  obtain ⟨y, hy, hx⟩ := List.mem_flatMap.1 hx
  obtain ⟨i, hi, rfl⟩ := tab_mem.1 hy
  simp only [encK, List.mem_cons, List.not_mem_nil, or_false] at hx
  rcases hx with rfl | rfl | rfl | rfl | rfl <;> simp
  omega
theorem bel_objs {r : Rn} : belObs (objs r).length (objs r) = true := by
  have hl : (objs r).length = r.n + 3 := by simp [objs, tab_length]
  rw [hl, objs, belObs_cons, belObs_cons, belObs_cons, belO_cells, belO_cells, belO_cells, bel_hops, bel_pks (Nat.le_refl _), bel_Ls]
  simp [runC, bel_slI, bel_slP]
theorem len_objs {r : Rn} : (objs r).length = r.n + 3 := by simp [objs, tab_length]

def endsR (r : Rn) (e : Ev) : Bool := if e.a ≠ r.pend then false else if (r.pk r.pend.toNat).st = 1 then decide (e.k = 3) && decide (e.b = (r.pk r.pend.toNat).host) else decide (e.k = 4) && decide ((e.b, e.c) = (r.pk r.pend.toNat).at_)
def ckP (r : Rn) (e : Ev) : Int :=
  if e.a < 0 ∨ (r.n : Int) ≤ e.a then 8 else if (r.pk e.a.toNat).st = 3 then 25 else if e.k ≠ 2 ∨ (r.pk e.a.toNat).at_.1 ≠ e.b then 14 else if e.c < -1 ∨ 255 < e.c then 9 else 0
def ckR (r : Rn) (e : Ev) : Int :=
  if e.k < 1 ∨ 6 < e.k then 11
  else if 0 ≤ r.pend then (if endsR r e = true then 0 else 14)
  else if e.k = 1 then (if e.b < 0 ∨ (r.t.hosts.length : Int) ≤ e.b then 9 else if e.a ≠ r.n then 14 else 0)
  else if e.k = 5 then (if e.a < 1 ∨ 3 < e.a ∨ e.b < 0 then 9 else 0)
  else if e.k = 6 then (if e.a < 0 ∨ (r.t.links.length : Int) ≤ e.a then 8 else if e.b < 0 ∨ 1 < e.b then 9 else 0)
  else ckP r e
def setK (pk : Nat → Pk) (i : Nat) (p : Pk) : Nat → Pk := fun k => if k = i then p else pk k
def hopOf (p : Pk) (e : Ev) : List Hp := p.hops ++ [(e.b, p.at_.2, e.c)]
/-- a packet that is forwarded -/
def fwP (t : Tp) (p : Pk) (e : Ev) : Pk :=
  if e.c = -1 then { p with hops := hopOf p e, st := 3 }
  else if (hostAt t (e.b, e.c)).2 = true then { p with hops := hopOf p e, st := 1, host := (hostAt t (e.b, e.c)).1 }
  else if (peer t (e.b, e.c)).2 = 0 then { p with hops := hopOf p e, at_ := (peer t (e.b, e.c)).1 }
  else { p with hops := hopOf p e, st := 2, at_ := (e.b, e.c) }
def fwN (t : Tp) (pend : Int) (e : Ev) : Int := if e.c = -1 then pend else if (hostAt t (e.b, e.c)).2 = true then e.a else if (peer t (e.b, e.c)).2 = 0 then pend else e.a
def fwR (r : Rn) (e : Ev) : Rn := { r with pk := setK r.pk e.a.toNat (fwP r.t (r.pk e.a.toNat) e), pend := fwN r.t r.pend e }
def apR (r : Rn) (e : Ev) : Rn :=
  if e.k = 1 then { r with n := r.n + 1, pk := setK r.pk r.n ⟨0, r.t.hosts.getD e.b.toNat (0, 0), 0, []⟩ }
  else if e.k = 2 then fwR r e
  else if e.k = 3 ∨ e.k = 4 then { r with pk := setK r.pk e.a.toNat { r.pk e.a.toNat with st := 3 }, pend := -1 }
  else if e.k = 6 then { r with t := setDn r.t e.a.toNat (decide (e.b = 1)) }
  else r
end Go.Proofs.YtafongdfnpnneaaGreatDoor.Top

/- Chapter 53: what a run says of an event, by the program. -/
set_option maxRecDepth 100000
set_option maxHeartbeats 4000000
set_option linter.all false
namespace Go.Proofs.YtafongdfnpnneaaGreatDoor.Top
open Go.Vm

section
variable {α : Type} {enc : α → List V} {k : Nat}
theorem get_at (hk : ∀ x, (enc x).length = k) (xs : List α) (i : Nat) (h : i < xs.length) (o m : Nat) (hm : o + m ≤ k) : getV (xs.flatMap enc) (i * k + o) m = getV (enc xs[i]) o m := by
  rw [← get_flat_drop hk xs i h o m hm, getV, getV, List.drop_drop, List.drop_drop, Nat.add_zero]
theorem get_at0 (hk : ∀ x, (enc x).length = k) (xs : List α) (i : Nat) (h : i < xs.length) (m : Nat) (hm : m ≤ k) : getV (xs.flatMap enc) (i * k) m = getV (enc xs[i]) 0 m := get_at hk xs i h 0 m (by omega)
end
theorem pks_get {r : Rn} {i : Nat} {h : i < (pks r).length} : (pks r)[i] = (i, r.pk i) := tab_getE h
mutual
theorem V.bel_le {n m : Nat} (h : n ≤ m) : ∀ x : V, x.bel n = true → x.bel m = true
  | .buf i a b c d, hb => by rw [bel_buf, decide_eq_true_eq] at hb ⊢; omega
  | .ptr i a b, hb => by rw [bel_ptr, decide_eq_true_eq] at hb ⊢; omega
  | .mp i, hb => by rw [bel_mp, decide_eq_true_eq] at hb ⊢; omega
  | .agg vs, hb => by rw [bel_agg] at hb ⊢; exact belAll_le h vs hb
  | .tup vs, hb => by rw [bel_tup] at hb ⊢; exact belAll_le h vs hb
  | .sl b vs k, hb => by rw [bel_sl] at hb ⊢; exact belAll_le h vs hb
  | .fp vs, hb => by rw [bel_fp] at hb ⊢; exact belAll_le h vs hb
  | .ifc t v, hb => by rw [bel_ifc] at hb ⊢; exact V.bel_le h v hb
  | .opt t v, hb => by rw [bel_opt] at hb ⊢; exact V.bel_le h v hb
  | .fn f a b, hb => by
    rw [bel_fn, Bool.and_eq_true] at hb ⊢
    exact ⟨belAll_le h a hb.1, belAll_le h b hb.2⟩
  | .int _ _, _ => by simp only [V.bel]
  | .bool _, _ => by simp only [V.bel]
  | .str _, _ => by simp only [V.bel]
  | .nilp, _ => by simp only [V.bel]
  | .nili, _ => by simp only [V.bel]
  | .nilf, _ => by simp only [V.bel]
  | .nilm, _ => by simp only [V.bel]
  | .dead, _ => by simp only [V.bel]
theorem belAll_le {n m : Nat} (h : n ≤ m) : ∀ xs : List V, belAll n xs = true → belAll m xs = true
  | [], _ => belAll_nil
  | x :: xs, hb => by
    rw [belAll_cons, Bool.and_eq_true] at hb ⊢
    exact ⟨V.bel_le h x hb.1, belAll_le h xs hb.2⟩
end
theorem endR {rs : List ResultVar} {n0 : Nat} {v : V} {J J2 : List Ob} {r : Rn} {s : S} {e : Exit} (he : e = .ret ∨ e = .normal) (hJ : J = objs r) (hs : s.hp = objs r ++ J2) (hn : n0 = r.n + 3) (h : evRes tt rs s.tm s.hp fun vs => retV vs = v) (hv : v.bel 0 = true) : endG tt rs n0 v J e s := by
  have h1 : v.bel J.length = true := V.bel_le (Nat.zero_le _) _ hv
  have h2 : belObs J.length J = true := by rw [hJ]; exact bel_objs
  have h3 : n0 ≤ J.length := by rw [hJ, len_objs, hn]; exact Nat.le_refl _
  rcases he with rfl | rfl
  · exact endG.ret J2 (by rw [hJ]; exact hs) h3 h h1 h2
  · exact endG.normal J2 (by rw [hJ]; exact hs) h3 h h1 h2
theorem eqQ {a b : Int} {p : Int × Int} : (decide (a = p.1) && decide (b = p.2)) = decide ((a, b) = p) := by
  obtain ⟨x, y⟩ := p
  exact eqP (a := (a, b)) (b := (x, y))
theorem eqI {a b : Int} : (a == b) = decide (a = b) := rfl
theorem g50 (r : Rn) (hf : r.fit) (e : Ev) (p : Nat) (hp : r.pend = p) (hn : p < r.n) (J : List Ob) (hJ : J = objs r) : GCall Tryz.prog 33 [.ptr 0 0 0, agE e] (objs r) (.bool (endsR r e)) J := by
  have hfn := hf.n
  have hE : endsR r e = if e.a ≠ p then false else if (r.pk p).st = 1 then decide (e.k = 3) && decide (e.b = (r.pk p).host) else decide (e.k = 4) && decide ((e.b, e.c) = (r.pk p).at_) := by
    rw [endsR, hp, Int.toNat_natCast]
  rw [hE]
  clear hE
  obtain ⟨t, n, pk, pend⟩ := r
  simp only at hp hn hfn
  subst hp
  have hlt : (p : Int) < (n : Int) := by omega
  have hpl : p < (pks ⟨t, n, pk, p⟩).length := by rw [pks_len]; exact hn
  refine GC.walk tok mixed cfg0 Tryz.func33 rfl Tryz.call33 ?_; simp (maxSteps := 2000000) -implicitDefEqProofs +contextual (disch := first | assumption | omega | decide +kernel) only [push_cast, ↓capI, br2_true, br2_false, frk_tt, frk_tf, frk_f, frkD_tt, frkD_tf, frkD_f, pk2_true, pk2_false, imp_true, seval, Nat.reduceLeDiff, Nat.reduceEqDiff, reduceCtorEq, ↓reduceIte, encE, agE, encT, encP, encL, encK, encH, objs, runC, slI, slP, slL, cfg0, get_flat_part lenK, get_flat_drop lenK, len_flat lenK, get_flat0 lenK, get_flat lenK, get_at lenK, get_at0 lenK, List.append_assoc, setO_tabK, pks_get, pks_len, eqP, Nat.mul_one, tab_length, getO_tab, getO_tab0, getO_tabK, getO_tabN, place_tabN, place_tab0, place_tabK, setO_tab, setO_tab0, setO_tabN, Tryz.ntmps33]
  repeat' (first | intro _ | refine And.intro ?_ ?_)
  all_goals
    refine endR (.inl rfl) hJ (by rfl) (by rfl) ?_ (by rfl)
    (try simp [evRes, getT, retV, Tryz.f33, eqQ, eqI, *])
theorem g51 (r : Rn) (hf : r.fit) (e : Ev) (J : List Ob) (hJ : J = objs r) : GCall Tryz.prog 34 [.ptr 0 0 0, agE e] (objs r) (.int .i64 (ckP r e)) J := by
  have hfn := hf.n
  obtain ⟨t, n, pk, pend⟩ := r
  simp only at hfn
  by_cases h0 : e.a < 0 ∨ (n : Int) ≤ e.a
  · have hE : ckP ⟨t, n, pk, pend⟩ e = 8 := by rw [ckP, if_pos h0]
    rw [hE]
    by_cases h1 : e.a < 0
    · refine GC.walk tok mixed cfg0 Tryz.func34 rfl Tryz.call34 ?_; simp (maxSteps := 2000000) -implicitDefEqProofs +contextual (disch := first | assumption | omega | decide +kernel) only [push_cast, ↓capI, br2_true, br2_false, frk_tt, frk_tf, frk_f, frkD_tt, frkD_tf, frkD_f, pk2_true, pk2_false, imp_true, seval, Nat.reduceLeDiff, Nat.reduceEqDiff, reduceCtorEq, ↓reduceIte, encE, agE, encT, encP, encL, encK, encH, objs, runC, slI, slP, slL, cfg0, get_flat_part lenK, get_flat_drop lenK, len_flat lenK, get_flat0 lenK, get_flat lenK, get_at lenK, get_at0 lenK, List.append_assoc, setO_tabK, pks_get, pks_len, eqP, Nat.mul_one, tab_length, getO_tab, getO_tab0, getO_tabK, getO_tabN, place_tabN, place_tab0, place_tabK, setO_tab, setO_tab0, setO_tabN, Tryz.ntmps34]
      refine endR (.inl rfl) hJ (by rfl) (by rfl) ?_ (by rfl)
      simp [evRes, getT, retV, Tryz.f34]
    · have h2 : (n : Int) ≤ e.a := by omega
      refine GC.walk tok mixed cfg0 Tryz.func34 rfl Tryz.call34 ?_; simp (maxSteps := 2000000) -implicitDefEqProofs +contextual (disch := first | assumption | omega | decide +kernel) only [push_cast, ↓capI, br2_true, br2_false, frk_tt, frk_tf, frk_f, frkD_tt, frkD_tf, frkD_f, pk2_true, pk2_false, imp_true, seval, Nat.reduceLeDiff, Nat.reduceEqDiff, reduceCtorEq, ↓reduceIte, encE, agE, encT, encP, encL, encK, encH, objs, runC, slI, slP, slL, cfg0, get_flat_part lenK, get_flat_drop lenK, len_flat lenK, get_flat0 lenK, get_flat lenK, get_at lenK, get_at0 lenK, List.append_assoc, setO_tabK, pks_get, pks_len, eqP, Nat.mul_one, tab_length, getO_tab, getO_tab0, getO_tabK, getO_tabN, place_tabN, place_tab0, place_tabK, setO_tab, setO_tab0, setO_tabN, Tryz.ntmps34]
      refine endR (.inl rfl) hJ (by rfl) (by rfl) ?_ (by rfl)
      simp [evRes, getT, retV, Tryz.f34]
  obtain ⟨p, hp⟩ : ∃ p : Nat, e.a = p := ⟨e.a.toNat, by omega⟩
  have hE : ckP ⟨t, n, pk, pend⟩ e = if (pk p).st = 3 then 25 else if e.k ≠ 2 ∨ (pk p).at_.1 ≠ e.b then 14 else if e.c < -1 ∨ 255 < e.c then 9 else 0 := by
    rw [ckP, if_neg h0, hp, Int.toNat_natCast]
  rw [hE]
  clear hE
  obtain ⟨ek, ea, eb, ec⟩ := e
  simp only at hp h0
  subst hp
  have hn : p < n := by omega
  have hlt : (p : Int) < (n : Int) := by omega
  have hpl : p < (pks ⟨t, n, pk, pend⟩).length := by rw [pks_len]; exact hn
  refine GC.walk tok mixed cfg0 Tryz.func34 rfl Tryz.call34 ?_; simp (maxSteps := 2000000) -implicitDefEqProofs +contextual (disch := first | assumption | omega | decide +kernel) only [push_cast, ↓capI, br2_true, br2_false, frk_tt, frk_tf, frk_f, frkD_tt, frkD_tf, frkD_f, pk2_true, pk2_false, imp_true, seval, Nat.reduceLeDiff, Nat.reduceEqDiff, reduceCtorEq, ↓reduceIte, encE, agE, encT, encP, encL, encK, encH, objs, runC, slI, slP, slL, cfg0, get_flat_part lenK, get_flat_drop lenK, len_flat lenK, get_flat0 lenK, get_flat lenK, get_at lenK, get_at0 lenK, List.append_assoc, setO_tabK, pks_get, pks_len, eqP, Nat.mul_one, tab_length, getO_tab, getO_tab0, getO_tabK, getO_tabN, place_tabN, place_tab0, place_tabK, setO_tab, setO_tab0, setO_tabN, Tryz.ntmps34]
  repeat' (first | intro _ | refine And.intro ?_ ?_)
  all_goals
    refine endR (.inl rfl) hJ (by rfl) (by rfl) ?_ (by rfl)
    simp [evRes, getT, retV, Tryz.f34, *]
theorem app_ok {r : Rn} {e : Ev} : belAll (objs r).length ([] ++ [V.ptr 0 0 0, agE e] ++ []) = true := by
  rw [List.nil_append, List.append_nil, belAll_cons, bel_ptr, len_objs, belAll_cons, bel_agE, belAll_nil]
  simp
theorem g32 (r : Rn) (hf : r.fit) (e : Ev) (hp : r.pend = -1 ∨ ∃ p : Nat, r.pend = p ∧ p < r.n) (J : List Ob) (hJ : J = objs r) : GCall Tryz.prog 17 [.ptr 0 0 0, agE e] (objs r) (.int .i64 (ckR r e)) J := by
  have hfn := hf.n
  have h51 := g51 r hf e _ rfl
  by_cases hk : e.k < 1 ∨ 6 < e.k
  · have hE : ckR r e = 11 := by rw [ckR, if_pos hk]
    rw [hE]
    by_cases h1 : e.k < 1
    · refine GC.walk tok mixed cfg0 Tryz.func17 rfl Tryz.call17 ?_; simp (maxSteps := 2000000) -implicitDefEqProofs +contextual (disch := first | assumption | omega | decide +kernel) only [push_cast, ↓capI, br2_true, br2_false, frk_tt, frk_tf, frk_f, frkD_tt, frkD_tf, frkD_f, pk2_true, pk2_false, imp_true, seval, Nat.reduceLeDiff, Nat.reduceEqDiff, reduceCtorEq, ↓reduceIte, encE, agE, encT, encP, encL, encK, encH, objs, runC, slI, slP, slL, cfg0, get_flat_part lenK, get_flat_drop lenK, len_flat lenK, get_flat0 lenK, get_flat lenK, get_at lenK, get_at0 lenK, List.append_assoc, setO_tabK, pks_get, pks_len, eqP, Nat.mul_one, tab_length, getO_tab, getO_tab0, getO_tabK, getO_tabN, place_tabN, place_tab0, place_tabK, setO_tab, setO_tab0, setO_tabN, Tryz.ntmps17]
      refine endR (.inl rfl) hJ (by rfl) (by rfl) ?_ (by rfl)
      simp [evRes, getT, retV, Tryz.f17]
    · have h2 : 6 < e.k := by omega
      refine GC.walk tok mixed cfg0 Tryz.func17 rfl Tryz.call17 ?_; simp (maxSteps := 2000000) -implicitDefEqProofs +contextual (disch := first | assumption | omega | decide +kernel) only [push_cast, ↓capI, br2_true, br2_false, frk_tt, frk_tf, frk_f, frkD_tt, frkD_tf, frkD_f, pk2_true, pk2_false, imp_true, seval, Nat.reduceLeDiff, Nat.reduceEqDiff, reduceCtorEq, ↓reduceIte, encE, agE, encT, encP, encL, encK, encH, objs, runC, slI, slP, slL, cfg0, get_flat_part lenK, get_flat_drop lenK, len_flat lenK, get_flat0 lenK, get_flat lenK, get_at lenK, get_at0 lenK, List.append_assoc, setO_tabK, pks_get, pks_len, eqP, Nat.mul_one, tab_length, getO_tab, getO_tab0, getO_tabK, getO_tabN, place_tabN, place_tab0, place_tabK, setO_tab, setO_tab0, setO_tabN, Tryz.ntmps17]
      refine endR (.inl rfl) hJ (by rfl) (by rfl) ?_ (by rfl)
      simp [evRes, getT, retV, Tryz.f17]
  have h1 : ¬ e.k < 1 := by omega
  have h6 : ¬ 6 < e.k := by omega
  by_cases hpe : ∃ p : Nat, r.pend = p ∧ p < r.n
  · obtain ⟨p, hp, hn⟩ := hpe
    have h50 := g50 r hf e p hp hn _ rfl
    have hE : ckR r e = if endsR r e = true then 0 else 14 := by rw [ckR, if_neg hk, if_pos (by omega)]
    rw [hE]
    clear hE
    generalize endsR r e = b at h50 ⊢
    have h0 : 0 ≤ r.pend := by omega
    refine GC.walk tok mixed cfg0 Tryz.func17 rfl Tryz.call17 ?_; simp (maxSteps := 2000000) -implicitDefEqProofs +contextual (disch := first | assumption | omega | decide +kernel) only [push_cast, ↓capI, br2_true, br2_false, frk_tt, frk_tf, frk_f, frkD_tt, frkD_tf, frkD_f, pk2_true, pk2_false, imp_true, seval, Nat.reduceLeDiff, Nat.reduceEqDiff, reduceCtorEq, ↓reduceIte, encE, agE, encT, encP, encL, encK, encH, objs, runC, slI, slP, slL, cfg0, get_flat_part lenK, get_flat_drop lenK, len_flat lenK, get_flat0 lenK, get_flat lenK, get_at lenK, get_at0 lenK, List.append_assoc, setO_tabK, pks_get, pks_len, eqP, Nat.mul_one, tab_length, getO_tab, getO_tab0, getO_tabK, getO_tabN, place_tabN, place_tab0, place_tabK, setO_tab, setO_tab0, setO_tabN, Tryz.ntmps17]
    refine callO.app [.cells 0 (encE e)] h50 (by rfl) rfl app_ok bel_objs (by rfl) bel_objs ?_
    cases b <;> simp (maxSteps := 2000000) -implicitDefEqProofs +contextual (disch := first | assumption | omega | decide +kernel) only [push_cast, ↓capI, br2_true, br2_false, frk_tt, frk_tf, frk_f, frkD_tt, frkD_tf, frkD_f, pk2_true, pk2_false, imp_true, seval, Nat.reduceLeDiff, Nat.reduceEqDiff, reduceCtorEq, ↓reduceIte, encE, agE, encT, encP, encL, encK, encH, objs, runC, slI, slP, slL, cfg0, get_flat_part lenK, get_flat_drop lenK, len_flat lenK, get_flat0 lenK, get_flat lenK, get_at lenK, get_at0 lenK, List.append_assoc, setO_tabK, pks_get, pks_len, eqP, Nat.mul_one, tab_length, getO_tab, getO_tab0, getO_tabK, getO_tabN, place_tabN, place_tab0, place_tabK, setO_tab, setO_tab0, setO_tabN]
    · refine endR (.inl rfl) hJ (by rfl) (by rfl) ?_ (by rfl)
      simp [evRes, getT, retV, Tryz.f17]
    · refine endR (.inl rfl) hJ (by rfl) (by rfl) ?_ (by rfl)
      simp [evRes, getT, retV, Tryz.f17]
  have hpm : r.pend = -1 := by
    rcases hp with h | h
    · exact h
    · exact absurd h hpe
  have h0 : ¬ 0 ≤ r.pend := by omega
  have hE : ckR r e = if e.k = 1 then (if e.b < 0 ∨ (r.t.hosts.length : Int) ≤ e.b then 9 else if e.a ≠ r.n then 14 else 0)
    else if e.k = 5 then (if e.a < 1 ∨ 3 < e.a ∨ e.b < 0 then 9 else 0)
    else if e.k = 6 then (if e.a < 0 ∨ (r.t.links.length : Int) ≤ e.a then 8 else if e.b < 0 ∨ 1 < e.b then 9 else 0)
    else ckP r e := by rw [ckR, if_neg hk, if_neg h0]
  rw [hE]
  clear hE
  by_cases k1 : e.k = 1
  · rw [if_pos k1]
    refine GC.walk tok mixed cfg0 Tryz.func17 rfl Tryz.call17 ?_; simp (maxSteps := 2000000) -implicitDefEqProofs +contextual (disch := first | assumption | omega | decide +kernel) only [push_cast, ↓capI, br2_true, br2_false, frk_tt, frk_tf, frk_f, frkD_tt, frkD_tf, frkD_f, pk2_true, pk2_false, imp_true, seval, Nat.reduceLeDiff, Nat.reduceEqDiff, reduceCtorEq, ↓reduceIte, encE, agE, encT, encP, encL, encK, encH, objs, runC, slI, slP, slL, cfg0, get_flat_part lenK, get_flat_drop lenK, len_flat lenK, get_flat0 lenK, get_flat lenK, get_at lenK, get_at0 lenK, List.append_assoc, setO_tabK, pks_get, pks_len, eqP, Nat.mul_one, tab_length, getO_tab, getO_tab0, getO_tabK, getO_tabN, place_tabN, place_tab0, place_tabK, setO_tab, setO_tab0, setO_tabN, Tryz.ntmps17]
    repeat' (first | intro _ | refine And.intro ?_ ?_)
    all_goals
      refine endR (.inl rfl) hJ (by rfl) (by rfl) ?_ (by rfl)
      simp [evRes, getT, retV, Tryz.f17, *]
  rw [if_neg k1]
  by_cases k5 : e.k = 5
  · rw [if_pos k5]
    refine GC.walk tok mixed cfg0 Tryz.func17 rfl Tryz.call17 ?_; simp (maxSteps := 2000000) -implicitDefEqProofs +contextual (disch := first | assumption | omega | decide +kernel) only [push_cast, ↓capI, br2_true, br2_false, frk_tt, frk_tf, frk_f, frkD_tt, frkD_tf, frkD_f, pk2_true, pk2_false, imp_true, seval, Nat.reduceLeDiff, Nat.reduceEqDiff, reduceCtorEq, ↓reduceIte, encE, agE, encT, encP, encL, encK, encH, objs, runC, slI, slP, slL, cfg0, get_flat_part lenK, get_flat_drop lenK, len_flat lenK, get_flat0 lenK, get_flat lenK, get_at lenK, get_at0 lenK, List.append_assoc, setO_tabK, pks_get, pks_len, eqP, Nat.mul_one, tab_length, getO_tab, getO_tab0, getO_tabK, getO_tabN, place_tabN, place_tab0, place_tabK, setO_tab, setO_tab0, setO_tabN, Tryz.ntmps17]
    repeat' (first | intro _ | refine And.intro ?_ ?_)
    all_goals
      refine endR (.inl rfl) hJ (by rfl) (by rfl) ?_ (by rfl)
      simp [evRes, getT, retV, Tryz.f17, *]
  rw [if_neg k5]
  by_cases k6 : e.k = 6
  · rw [if_pos k6]
    refine GC.walk tok mixed cfg0 Tryz.func17 rfl Tryz.call17 ?_; simp (maxSteps := 2000000) -implicitDefEqProofs +contextual (disch := first | assumption | omega | decide +kernel) only [push_cast, ↓capI, br2_true, br2_false, frk_tt, frk_tf, frk_f, frkD_tt, frkD_tf, frkD_f, pk2_true, pk2_false, imp_true, seval, Nat.reduceLeDiff, Nat.reduceEqDiff, reduceCtorEq, ↓reduceIte, encE, agE, encT, encP, encL, encK, encH, objs, runC, slI, slP, slL, cfg0, get_flat_part lenK, get_flat_drop lenK, len_flat lenK, get_flat0 lenK, get_flat lenK, get_at lenK, get_at0 lenK, List.append_assoc, setO_tabK, pks_get, pks_len, eqP, Nat.mul_one, tab_length, getO_tab, getO_tab0, getO_tabK, getO_tabN, place_tabN, place_tab0, place_tabK, setO_tab, setO_tab0, setO_tabN, Tryz.ntmps17]
    repeat' (first | intro _ | refine And.intro ?_ ?_)
    all_goals
      refine endR (.inl rfl) hJ (by rfl) (by rfl) ?_ (by rfl)
      simp [evRes, getT, retV, Tryz.f17, *]
  rw [if_neg k6]
  generalize ckP r e = c at h51
  refine GC.walk tok mixed cfg0 Tryz.func17 rfl Tryz.call17 ?_; simp (maxSteps := 2000000) -implicitDefEqProofs +contextual (disch := first | assumption | omega | decide +kernel) only [push_cast, ↓capI, br2_true, br2_false, frk_tt, frk_tf, frk_f, frkD_tt, frkD_tf, frkD_f, pk2_true, pk2_false, imp_true, seval, Nat.reduceLeDiff, Nat.reduceEqDiff, reduceCtorEq, ↓reduceIte, encE, agE, encT, encP, encL, encK, encH, objs, runC, slI, slP, slL, cfg0, get_flat_part lenK, get_flat_drop lenK, len_flat lenK, get_flat0 lenK, get_flat lenK, get_at lenK, get_at0 lenK, List.append_assoc, setO_tabK, pks_get, pks_len, eqP, Nat.mul_one, tab_length, getO_tab, getO_tab0, getO_tabK, getO_tabN, place_tabN, place_tab0, place_tabK, setO_tab, setO_tab0, setO_tabN, Tryz.ntmps17]
  refine callO.app [.cells 0 (encE e)] h51 (by rfl) rfl app_ok bel_objs (by rfl) bel_objs ?_
  simp (maxSteps := 2000000) -implicitDefEqProofs +contextual (disch := first | assumption | omega | decide +kernel) only [push_cast, ↓capI, br2_true, br2_false, frk_tt, frk_tf, frk_f, frkD_tt, frkD_tf, frkD_f, pk2_true, pk2_false, imp_true, seval, Nat.reduceLeDiff, Nat.reduceEqDiff, reduceCtorEq, ↓reduceIte, encE, agE, encT, encP, encL, encK, encH, objs, runC, slI, slP, slL, cfg0, get_flat_part lenK, get_flat_drop lenK, len_flat lenK, get_flat0 lenK, get_flat lenK, get_at lenK, get_at0 lenK, List.append_assoc, setO_tabK, pks_get, pks_len, eqP, Nat.mul_one, tab_length, getO_tab, getO_tab0, getO_tabK, getO_tabN, place_tabN, place_tab0, place_tabK, setO_tab, setO_tab0, setO_tabN]
  refine endR (.inl rfl) hJ (by rfl) (by rfl) ?_ (by rfl)
  simp [evRes, getT, retV, Tryz.f17]
end Go.Proofs.YtafongdfnpnneaaGreatDoor.Top

/- Chapter 53: a packet forwarded, by the program. -/
set_option maxRecDepth 100000
set_option maxHeartbeats 4000000
set_option linter.all false
namespace Go.Proofs.YtafongdfnpnneaaGreatDoor.Top
open Go.Vm

theorem putV_len : ∀ (l : List V) (n : Nat) (cs : List V), (putV l n cs).length = l.length
  | [], 0, [] => rfl
  | [], 0, _ :: _ => by simp [putV]
  | [], _ + 1, _ => by simp [putV]
  | x :: xs, 0, [] => by simp [putV]
  | x :: xs, 0, c :: cs => by simp [putV, putV_len xs 0 cs]
  | x :: xs, n + 1, cs => by simp [putV, putV_len xs n cs]
theorem get_at2 {α : Type} {enc : α → List V} {k : Nat} (hk : ∀ x, (enc x).length = k) (xs : List α) (i : Nat) (h : i < xs.length) (a b m : Nat) (hm : a + b + m ≤ k) : getV (xs.flatMap enc) (i * k + a + b) m = getV (enc xs[i]) (a + b) m := by
  rw [Nat.add_assoc]; exact get_at hk xs i h (a + b) m hm
theorem ones_H {g : Bool} {p : Prop} : ∀ {xs : List Hp}, ones g (xs.flatMap encH) p = p
  | [] => rfl
  | x :: xs => by simp only [List.flatMap_cons, encH, List.cons_append, List.nil_append, ones, V.one]; exact ones_H
theorem pksOf_set {n p : Nat} {pk : Nat → Pk} {x : Pk} : (pksOf n pk).set p (p, x) = pksOf n (setK pk p x) := by
  rw [pksOf, tab_set, pksOf]
  refine tab_ext fun i _ => ?_
  by_cases h : i = p
  · subst h; simp [setK]
  · simp [setK, h]
theorem put_pk {n p o : Nat} {pk : Nat → Pk} {x : Pk} {cs : List V} (h : p < n) (ho : o + cs.length ≤ 5) (hx : putV (encK (p, pk p)) o cs = encK (p, x)) :
    putV ((pksOf n pk).flatMap encK) (p * 5 + o) cs = (pksOf n (setK pk p x)).flatMap encK := by
  have hl : p < (pksOf n pk).length := by rw [pksOf, tab_length]; exact h
  have hg : (pksOf n pk)[p] = (p, pk p) := tab_getE hl
  rw [put_flat lenK ho (pksOf n pk) p hl (x' := (p, x)) (by rw [hg]; exact hx), pksOf_set]
theorem setK_same {pk : Nat → Pk} {p : Nat} {x : Pk} : setK pk p x p = x := if_pos rfl
theorem setK_setK {pk : Nat → Pk} {p : Nat} {x y : Pk} : setK (setK pk p x) p y = setK pk p y := by
  funext k
  unfold setK
  split <;> rfl
theorem hop_set {n p : Nat} {pk : Nat → Pk} {x : Pk} : (tab n fun k => if k = p then Ob.cells x.hops.length (x.hops.flatMap encH) else hopO pk k) = tab n (hopO (setK pk p x)) := by
  refine tab_ext fun i _ => ?_
  by_cases h : i = p
  · subst h; simp [setK, hopO]
  · simp [setK, hopO, h]
theorem put_pk2 {n p o o2 : Nat} {pk : Nat → Pk} {x y : Pk} {cs cs2 : List V} (h : p < n) (ho : o + cs.length ≤ 5) (hx : putV (encK (p, pk p)) o cs = encK (p, x)) (ho2 : o2 + cs2.length ≤ 5) (hy : putV (encK (p, x)) o2 cs2 = encK (p, y)) :
    putV (putV ((pksOf n pk).flatMap encK) (p * 5 + o) cs) (p * 5 + o2) cs2 = (pksOf n (setK pk p y)).flatMap encK := by
  rw [put_pk h ho hx, put_pk (x := y) h ho2 (by rw [setK_same]; exact hy), setK_setK]
theorem put_pk3 {n p o o2 o3 : Nat} {pk : Nat → Pk} {x y z : Pk} {cs cs2 cs3 : List V} (h : p < n) (ho : o + cs.length ≤ 5) (hx : putV (encK (p, pk p)) o cs = encK (p, x)) (ho2 : o2 + cs2.length ≤ 5) (hy : putV (encK (p, x)) o2 cs2 = encK (p, y)) (ho3 : o3 + cs3.length ≤ 5) (hz : putV (encK (p, y)) o3 cs3 = encK (p, z)) :
    putV (putV (putV ((pksOf n pk).flatMap encK) (p * 5 + o) cs) (p * 5 + o2) cs2) (p * 5 + o3) cs3 = (pksOf n (setK pk p z)).flatMap encK := by
  rw [put_pk2 h ho hx ho2 hy, put_pk (x := z) h ho3 (by rw [setK_same]; exact hz), setK_setK]
theorem objs_of {t : Tp} {n : Nat} {pk : Nat → Pk} {pend : Int} {C : List V} {L K : List Ob} (hC : C = (pksOf n pk).flatMap encK) (hL : L = tab n (hopO pk)) :
    Ob.cells 0 [.sl false (t.ports.map (V.int .i64)) t.ports.length, .buf 1 0 0 t.links.length 5, .sl false (t.hosts.flatMap encP) t.hosts.length, .buf 2 n 0 n 5, .int .i64 pend] :: .cells 0 (t.links.flatMap encL) :: .cells n C :: (L ++ K) = objs ⟨t, n, pk, pend⟩ ++ K := by
  subst hC hL; rfl
theorem hop_set' {n p : Nat} {pk : Nat → Pk} {x : Pk} {v : Nat} {l : List V} (hv : v = x.hops.length) (hl : l = x.hops.flatMap encH) : (tab n fun k => if k = p then Ob.cells v l else Ob.cells (pk k).hops.length ((pk k).hops.flatMap encH)) = tab n (hopO (setK pk p x)) := by
  subst hv hl; exact hop_set
theorem brw_T {t : Tp} {X : Ob} {Y : List Ob} {a b : Int} : brws (X :: .cells 0 (t.links.flatMap encL) :: Y) [.agg [.sl false (t.ports.map (V.int .i64)) t.ports.length, .buf 1 0 0 t.links.length 5, .sl false (t.hosts.flatMap encP) t.hosts.length], .agg [.int .i64 a, .int .i64 b]] = [.agg (encT t), .agg (encP (a, b))] := by
  simp only [brws, brw, getO, Nat.beq, List.drop_zero, take_L]
  rfl
theorem bel_TP {t : Tp} {p : Int × Int} : belAll 0 [.agg (encT t), .agg (encP p)] = true := by
  rw [belAll_cons, bel_agg, belT, belAll_cons, bel_agg, belP, belAll_nil]; rfl
theorem cut_fz {n : Nat} {tm tm2 tm' : List V} {hp H : List Ob} {l : List V} (hh : hp = H ++ [.cells 0 l]) (hn : n ≤ H.length) (hb : belObs H.length H = true) (hw : wk tm tm2) (ht : fzs H.length 0 l tm2 = tm') (h2 : belAll H.length tm' = true) : Gn n ⟨tm, hp⟩ ⟨tm', H⟩ := by
  subst hh
  refine (Gn.weak hw).trans ?_
  have hg : getO (H ++ [Ob.cells 0 l]) H.length = .cells 0 l := by
    have := getO_appK (J := [Ob.cells 0 l]) (i := 0) (rfl : H.length = H.length)
    rw [Nat.add_zero] at this
    rw [this]; rfl
  refine (Gn.freeze (id := H.length) hg).trans ?_
  have e1 : fzH H.length 0 l H = H := fzH_lt hb
  have e2 : setO (fzH H.length 0 l (H ++ [.cells 0 l])) H.length .dead = H ++ [.dead] := by
    rw [fzH_append, e1, fzH, fzH]
    have := setO_appK (H := H) (J := [Ob.cells 0 (fzs H.length 0 l l)]) (o := .dead) (i := 0) rfl
    rw [Nat.add_zero] at this
    rw [this]; rfl
  rw [ht, e2]
  exact Gn.trim hn h2 hb
def cfgF : Cfg := { lv := [], ef := [], ord := [], em := [], fl := [84, 68, 70] }
theorem g52 (r : Rn) (hf : r.fit) (e : Ev) (p : Nat) (hp : e.a = p) (hn : p < r.n) (J : List Ob) (hJ : J = objs (fwR r e)) : GCall Tryz.prog 35 [.ptr 0 0 0, agE e] (objs r) (.tup []) J := by
  have hfn := hf.n
  have hfh := hf.hops p
  have hft := hf.t
  obtain ⟨t, n, pk, pend⟩ := r
  obtain ⟨ek, ea, eb, ec⟩ := e
  simp only at hfn hn hp hft hfh
  subst hp
  have hlt : (p : Int) < (n : Int) := by omega
  have hpl : p < (pks ⟨t, n, pk, pend⟩).length := by rw [pks_len]; exact hn
  have h61 := pc50 t (eb, ec) hft
  have h62 := pc51 t (eb, ec) hft
  simp only [fwR, fwP, fwN, Int.toNat_natCast] at hJ
  have e1 : putV (encK (p, pk p)) 4 [.buf (p + 3) ((pk p).hops.length + 1) 0 ((pk p).hops.length + 1) 3] = encK (p, ⟨(pk p).st, (pk p).at_, (pk p).host, hopOf (pk p) ⟨ek, p, eb, ec⟩⟩) := by simp [encK, putV, hopOf]
  have hv : (pk p).hops.length + 1 = (hopOf (pk p) ⟨ek, p, eb, ec⟩).length := by simp [hopOf]
  have hl : (pk p).hops.flatMap encH ++ [V.int .i64 eb, .int .i64 (pk p).at_.snd, .int .i64 ec] = (hopOf (pk p) ⟨ek, p, eb, ec⟩).flatMap encH := by simp [hopOf, encH]
  by_cases hc : ec = -1
  · rw [if_pos hc, if_pos hc] at hJ
    refine GC.walk tok mixed cfg0 Tryz.func35 rfl Tryz.call35 ?_; simp (maxSteps := 2000000) -implicitDefEqProofs +contextual (disch := first | assumption | omega | decide +kernel) only [push_cast, ↓capI, br2_true, br2_false, frk_tt, frk_tf, frk_f, frkD_tt, frkD_tf, frkD_f, pk2_true, pk2_false, imp_true, seval, Nat.reduceLeDiff, Nat.reduceEqDiff, reduceCtorEq, ↓reduceIte, encE, agE, encT, encP, encL, encK, encH, objs, runC, slI, slP, slL, cfg0, get_flat_part lenK, get_flat_drop lenK, len_flat lenK, get_flat0 lenK, get_flat lenK, get_at lenK, get_at0 lenK, get_at2 lenK, List.append_assoc, setO_tabK, pks_get, pks_len, eqP, Nat.mul_one, tab_length, getO_tab, getO_tab0, getO_tabK, getO_tabN, place_tabN, place_tab0, place_tabK, setO_tab, setO_tab0, setO_tabN, putV_len, hopO, len_flat lenH, ones_H, Tryz.ntmps35]
    refine endR (.inl rfl) hJ (J2 := [.cells 0 (encE ⟨ek, p, eb, ec⟩)]) ?_ rfl ?_ rfl
    · refine objs_of ?_ (hop_set' hv hl)
      exact put_pk2 (o2 := 0) hn (by simp) e1 (by simp) (by simp [encK, putV])
    · simp [evRes, getT, retV, Tryz.f35]
  rw [if_neg hc, if_neg hc] at hJ
  generalize hostAt t (eb, ec) = ho at h61 hJ
  generalize peer t (eb, ec) = pe at h62 hJ
  obtain ⟨h, b⟩ := ho
  obtain ⟨⟨q1, q2⟩, er⟩ := pe
  simp only at hJ
  refine GC.cutN tok mixed cfg0 0 Tryz.func35 rfl Tryz.call35 ?_
  simp (maxSteps := 2000000) -implicitDefEqProofs +contextual (disch := first | assumption | omega | decide +kernel) only [push_cast, ↓capI, br2_true, br2_false, frk_tt, frk_tf, frk_f, frkD_tt, frkD_tf, frkD_f, pk2_true, pk2_false, imp_true, seval, Nat.reduceLeDiff, Nat.reduceEqDiff, reduceCtorEq, ↓reduceIte, encE, agE, encT, encP, encL, encK, encH, objs, runC, slI, slP, slL, cfg0, get_flat_part lenK, get_flat_drop lenK, len_flat lenK, get_flat0 lenK, get_flat lenK, get_at lenK, get_at0 lenK, get_at2 lenK, List.append_assoc, setO_tabK, pks_get, pks_len, eqP, Nat.mul_one, tab_length, getO_tab, getO_tab0, getO_tabK, getO_tabN, place_tabN, place_tab0, place_tabK, setO_tab, setO_tab0, setO_tabN, putV_len, hopO, len_flat lenH, ones_H, Tryz.ntmps35, cutAt_z, cutAt_s]
  refine cutK.gn (cut_fz (H := objs ⟨t, n, pk, pend⟩) (l := encE ⟨ek, p, eb, ec⟩) (tm2 := (.ptr 0 0 0 :: .dead :: .dead :: .ptr (n + 3) 0 0 :: .dead :: .dead :: .dead :: .dead :: .dead :: .dead :: .dead :: .dead :: .dead :: .dead :: .dead :: .dead :: .dead :: .dead :: .dead :: .dead :: .dead :: .dead :: .dead :: .dead :: .dead :: .dead :: .dead :: .dead :: .dead :: .dead :: .dead :: .dead :: .dead :: .dead :: .dead :: .dead :: .dead :: .dead :: .dead :: .dead :: .dead :: .dead :: .dead :: .dead :: .dead :: .dead :: .dead :: .dead :: .dead :: .dead :: .dead :: .dead :: .dead :: .dead :: .dead :: .dead :: .dead :: .dead :: .dead :: .dead :: .dead :: .dead :: .dead :: .dead :: .dead :: .dead :: .dead :: .dead :: .dead :: .dead :: .dead :: .dead :: .dead :: .dead :: .dead :: .dead :: .dead :: .dead :: .dead :: .dead :: .dead :: .dead :: .dead :: .dead :: .dead :: .dead :: .dead :: .dead :: .dead :: .dead :: .dead :: .dead :: .dead :: .dead :: .dead :: .dead :: .dead :: .dead :: [])) (tm' := (.ptr 0 0 0 :: .dead :: .dead :: .fp (encE ⟨ek, p, eb, ec⟩) :: .dead :: .dead :: .dead :: .dead :: .dead :: .dead :: .dead :: .dead :: .dead :: .dead :: .dead :: .dead :: .dead :: .dead :: .dead :: .dead :: .dead :: .dead :: .dead :: .dead :: .dead :: .dead :: .dead :: .dead :: .dead :: .dead :: .dead :: .dead :: .dead :: .dead :: .dead :: .dead :: .dead :: .dead :: .dead :: .dead :: .dead :: .dead :: .dead :: .dead :: .dead :: .dead :: .dead :: .dead :: .dead :: .dead :: .dead :: .dead :: .dead :: .dead :: .dead :: .dead :: .dead :: .dead :: .dead :: .dead :: .dead :: .dead :: .dead :: .dead :: .dead :: .dead :: .dead :: .dead :: .dead :: .dead :: .dead :: .dead :: .dead :: .dead :: .dead :: .dead :: .dead :: .dead :: .dead :: .dead :: .dead :: .dead :: .dead :: .dead :: .dead :: .dead :: .dead :: .dead :: .dead :: .dead :: .dead :: .dead :: .dead :: .dead :: .dead :: .dead :: .dead :: .dead :: [])) (by rfl) (by simp [objs, tab_length]) bel_objs (by simp [wk, slP, slL, slI]) (by simp [fzs, fz, len_objs, beq_dec]) (by rw [len_objs]; simp [encE])) (cutK.goN (cfg := cfgF) tok mixed 3 ?_)
  simp (maxSteps := 2000000) -implicitDefEqProofs +contextual (disch := first | assumption | omega | decide +kernel) only [push_cast, ↓capI, br2_true, br2_false, frk_tt, frk_tf, frk_f, frkD_tt, frkD_tf, frkD_f, pk2_true, pk2_false, imp_true, seval, Nat.reduceLeDiff, Nat.reduceEqDiff, reduceCtorEq, ↓reduceIte, encE, agE, encT, encP, encL, encK, encH, objs, runC, slI, slP, slL, cfg0, get_flat_part lenK, get_flat_drop lenK, len_flat lenK, get_flat0 lenK, get_flat lenK, get_at lenK, get_at0 lenK, get_at2 lenK, List.append_assoc, setO_tabK, pks_get, pks_len, eqP, Nat.mul_one, tab_length, getO_tab, getO_tab0, getO_tabK, getO_tabN, place_tabN, place_tab0, place_tabK, setO_tab, setO_tab0, setO_tabN, putV_len, hopO, len_flat lenH, ones_H, cutAt_z, cutAt_s, cfgF]
  -- the objects by now
  obtain ⟨x, hx⟩ : ∃ x : Pk, x = ⟨(pk p).st, (pk p).at_, (pk p).host, hopOf (pk p) ⟨ek, p, eb, ec⟩⟩ := ⟨_, rfl⟩
  obtain ⟨pk', hpk'⟩ : ∃ pk', pk' = setK pk p x := ⟨_, rfl⟩
  have hpp : pk' p = x := by rw [hpk', setK_same]
  refine cutK.gn (cut_fz (H := objs ⟨t, n, pk', pend⟩) (l := [.int .i64 eb, .int .i64 ec]) (tm2 := (.ptr 0 0 0 :: .dead :: .dead :: .fp (encE ⟨ek, p, eb, ec⟩) :: .ptr 2 n (p * 5) :: .ptr (n + 3) 0 0 :: .dead :: .dead :: .dead :: .dead :: .dead :: .dead :: .dead :: .dead :: .dead :: .dead :: .dead :: .dead :: .dead :: .dead :: .dead :: .dead :: .dead :: .dead :: .dead :: .dead :: .dead :: .dead :: .dead :: .dead :: .dead :: .dead :: .dead :: .dead :: .dead :: .dead :: .dead :: .dead :: .dead :: .dead :: .dead :: .dead :: .dead :: .dead :: .dead :: .dead :: .dead :: .dead :: .dead :: .dead :: .dead :: .dead :: .dead :: .dead :: .dead :: .dead :: .dead :: .dead :: .dead :: .dead :: .dead :: .dead :: .dead :: .dead :: .dead :: .dead :: .dead :: .dead :: .dead :: .dead :: .dead :: .dead :: .dead :: .dead :: .dead :: .dead :: .dead :: .dead :: .dead :: .dead :: .dead :: .dead :: .dead :: .dead :: .dead :: .dead :: .dead :: .dead :: .dead :: .dead :: .dead :: .dead :: .dead :: .dead :: .dead :: .dead :: .dead :: .dead :: [])) (tm' := (.ptr 0 0 0 :: .dead :: .dead :: .fp (encE ⟨ek, p, eb, ec⟩) :: .ptr 2 n (p * 5) :: .fp [.int .i64 eb, .int .i64 ec] :: .dead :: .dead :: .dead :: .dead :: .dead :: .dead :: .dead :: .dead :: .dead :: .dead :: .dead :: .dead :: .dead :: .dead :: .dead :: .dead :: .dead :: .dead :: .dead :: .dead :: .dead :: .dead :: .dead :: .dead :: .dead :: .dead :: .dead :: .dead :: .dead :: .dead :: .dead :: .dead :: .dead :: .dead :: .dead :: .dead :: .dead :: .dead :: .dead :: .dead :: .dead :: .dead :: .dead :: .dead :: .dead :: .dead :: .dead :: .dead :: .dead :: .dead :: .dead :: .dead :: .dead :: .dead :: .dead :: .dead :: .dead :: .dead :: .dead :: .dead :: .dead :: .dead :: .dead :: .dead :: .dead :: .dead :: .dead :: .dead :: .dead :: .dead :: .dead :: .dead :: .dead :: .dead :: .dead :: .dead :: .dead :: .dead :: .dead :: .dead :: .dead :: .dead :: .dead :: .dead :: .dead :: .dead :: .dead :: .dead :: .dead :: .dead :: .dead :: .dead :: [])) ?_ (by simp [objs, tab_length]) bel_objs (by simp [wk, slP, slL, slI, encE]) (by simp [fzs, fz, len_objs, beq_dec]) (by rw [len_objs]; simp [encE])) (cutK.go (cfg := cfgF) tok mixed ?_)
  · refine objs_of ?_ (hpk' ▸ hop_set' (hx ▸ hv) (hx ▸ hl))
    rw [hpk']
    exact put_pk hn (by simp) (hx ▸ e1)
  have hpl2 : p < (pks ⟨t, n, pk', pend⟩).length := by rw [pks_len]; exact hn
  have hfin : ∀ y : Pk, y.hops = x.hops → setK pk' p y = setK pk p y ∧ tab n (hopO pk') = tab n (hopO (setK pk p y)) := fun y hy => by
    refine ⟨by rw [hpk', setK_setK], tab_ext fun i _ => ?_⟩
    by_cases h : i = p
    · subst h; rw [hopO, hopO, hpp, setK_same, hy]
    · rw [hopO, hopO, hpk', setK, setK, if_neg h, if_neg h]
  rw [← hx] at e1
  simp (maxSteps := 2000000) -implicitDefEqProofs +contextual (disch := first | assumption | omega | decide +kernel) only [push_cast, ↓capI, br2_true, br2_false, frk_tt, frk_tf, frk_f, frkD_tt, frkD_tf, frkD_f, pk2_true, pk2_false, imp_true, seval, Nat.reduceLeDiff, Nat.reduceEqDiff, reduceCtorEq, ↓reduceIte, encE, agE, encT, encP, encL, encK, encH, objs, runC, slI, slP, slL, cfg0, get_flat_part lenK, get_flat_drop lenK, len_flat lenK, get_flat0 lenK, get_flat lenK, get_at lenK, get_at0 lenK, get_at2 lenK, List.append_assoc, setO_tabK, pks_get, pks_len, eqP, Nat.mul_one, tab_length, getO_tab, getO_tab0, getO_tabK, getO_tabN, place_tabN, place_tab0, place_tabK, setO_tab, setO_tab0, setO_tabN, putV_len, hopO, len_flat lenH, ones_H, cfgF]
  refine callG.lent (v := encIB (h, b)) (fun _ => by rw [List.nil_append, List.append_nil, brw_T]; exact h61) (fun _ => by rw [List.nil_append, List.append_nil, brw_T]; exact bel_TP) (by rfl) (by rfl) ?_
  simp (maxSteps := 2000000) -implicitDefEqProofs +contextual (disch := first | assumption | omega | decide +kernel) only [push_cast, ↓capI, br2_true, br2_false, frk_tt, frk_tf, frk_f, frkD_tt, frkD_tf, frkD_f, pk2_true, pk2_false, imp_true, seval, Nat.reduceLeDiff, Nat.reduceEqDiff, reduceCtorEq, ↓reduceIte, encE, agE, encT, encP, encL, encK, encH, objs, runC, slI, slP, slL, cfg0, get_flat_part lenK, get_flat_drop lenK, len_flat lenK, get_flat0 lenK, get_flat lenK, get_at lenK, get_at0 lenK, get_at2 lenK, List.append_assoc, setO_tabK, pks_get, pks_len, eqP, Nat.mul_one, tab_length, getO_tab, getO_tab0, getO_tabK, getO_tabN, place_tabN, place_tab0, place_tabK, setO_tab, setO_tab0, setO_tabN, putV_len, hopO, len_flat lenH, ones_H, encIB]
  refine callG.lent (v := encPE ((q1, q2), er)) (fun _ => by rw [List.nil_append, List.append_nil, brw_T]; exact h62) (fun _ => by rw [List.nil_append, List.append_nil, brw_T]; exact bel_TP) (by rfl) (by rfl) ?_
  simp (maxSteps := 2000000) -implicitDefEqProofs +contextual (disch := first | assumption | omega | decide +kernel) only [push_cast, ↓capI, br2_true, br2_false, frk_tt, frk_tf, frk_f, frkD_tt, frkD_tf, frkD_f, pk2_true, pk2_false, imp_true, seval, Nat.reduceLeDiff, Nat.reduceEqDiff, reduceCtorEq, ↓reduceIte, encE, agE, encT, encP, encL, encK, encH, objs, runC, slI, slP, slL, cfg0, get_flat_part lenK, get_flat_drop lenK, len_flat lenK, get_flat0 lenK, get_flat lenK, get_at lenK, get_at0 lenK, get_at2 lenK, List.append_assoc, setO_tabK, pks_get, pks_len, eqP, Nat.mul_one, tab_length, getO_tab, getO_tab0, getO_tabK, getO_tabN, place_tabN, place_tab0, place_tabK, setO_tab, setO_tab0, setO_tabN, putV_len, hopO, len_flat lenH, ones_H, encPE]
  cases b with
  | true =>
    simp only [if_true] at hJ
    simp (maxSteps := 2000000) -implicitDefEqProofs +contextual (disch := first | assumption | omega | decide +kernel) only [push_cast, ↓capI, br2_true, br2_false, frk_tt, frk_tf, frk_f, frkD_tt, frkD_tf, frkD_f, pk2_true, pk2_false, imp_true, seval, Nat.reduceLeDiff, Nat.reduceEqDiff, reduceCtorEq, ↓reduceIte, encE, agE, encT, encP, encL, encK, encH, objs, runC, slI, slP, slL, cfg0, get_flat_part lenK, get_flat_drop lenK, len_flat lenK, get_flat0 lenK, get_flat lenK, get_at lenK, get_at0 lenK, get_at2 lenK, List.append_assoc, setO_tabK, pks_get, pks_len, eqP, Nat.mul_one, tab_length, getO_tab, getO_tab0, getO_tabK, getO_tabN, place_tabN, place_tab0, place_tabK, setO_tab, setO_tab0, setO_tabN, putV_len, hopO, len_flat lenH, ones_H]
    refine endR (.inr rfl) hJ (J2 := [.cells 0 [.int .i64 q1, .int .i64 q2]]) ?_ rfl ?_ rfl
    · refine objs_of ?_ (hfin ⟨1, (pk p).at_, h, hopOf (pk p) ⟨ek, p, eb, ec⟩⟩ (by rw [hx])).2
      rw [← (hfin ⟨1, (pk p).at_, h, hopOf (pk p) ⟨ek, p, eb, ec⟩⟩ (by rw [hx])).1]
      exact put_pk2 (o := 0) (x := ⟨1, (pk p).at_, (pk p).host, hopOf (pk p) ⟨ek, p, eb, ec⟩⟩) hn (by simp) (by (try simp only); rw [hpp, hx]; simp [encK, putV]) (by simp) (by simp [encK, putV])
    · simp [evRes, getT, retV, Tryz.f35]
  | false =>
    simp only [Bool.false_eq_true, if_false] at hJ
    by_cases her : er = 0
    · rw [if_pos her, if_pos her] at hJ
      simp (maxSteps := 2000000) -implicitDefEqProofs +contextual (disch := first | assumption | omega | decide +kernel) only [push_cast, ↓capI, br2_true, br2_false, frk_tt, frk_tf, frk_f, frkD_tt, frkD_tf, frkD_f, pk2_true, pk2_false, imp_true, seval, Nat.reduceLeDiff, Nat.reduceEqDiff, reduceCtorEq, ↓reduceIte, encE, agE, encT, encP, encL, encK, encH, objs, runC, slI, slP, slL, cfg0, get_flat_part lenK, get_flat_drop lenK, len_flat lenK, get_flat0 lenK, get_flat lenK, get_at lenK, get_at0 lenK, get_at2 lenK, List.append_assoc, setO_tabK, pks_get, pks_len, eqP, Nat.mul_one, tab_length, getO_tab, getO_tab0, getO_tabK, getO_tabN, place_tabN, place_tab0, place_tabK, setO_tab, setO_tab0, setO_tabN, putV_len, hopO, len_flat lenH, ones_H, her]
      refine endR (.inr rfl) hJ (J2 := [.cells 0 [.int .i64 q1, .int .i64 q2]]) ?_ rfl ?_ rfl
      · refine objs_of ?_ (hfin ⟨(pk p).st, (q1, q2), (pk p).host, hopOf (pk p) ⟨ek, p, eb, ec⟩⟩ (by rw [hx])).2
        rw [← (hfin ⟨(pk p).st, (q1, q2), (pk p).host, hopOf (pk p) ⟨ek, p, eb, ec⟩⟩ (by rw [hx])).1]
        exact put_pk hn (by simp) (by (try simp only); rw [hpp, hx]; simp [encK, putV])
      · simp [evRes, getT, retV, Tryz.f35]
    · rw [if_neg her, if_neg her] at hJ
      simp (maxSteps := 2000000) -implicitDefEqProofs +contextual (disch := first | assumption | omega | decide +kernel) only [push_cast, ↓capI, br2_true, br2_false, frk_tt, frk_tf, frk_f, frkD_tt, frkD_tf, frkD_f, pk2_true, pk2_false, imp_true, seval, Nat.reduceLeDiff, Nat.reduceEqDiff, reduceCtorEq, ↓reduceIte, encE, agE, encT, encP, encL, encK, encH, objs, runC, slI, slP, slL, cfg0, get_flat_part lenK, get_flat_drop lenK, len_flat lenK, get_flat0 lenK, get_flat lenK, get_at lenK, get_at0 lenK, get_at2 lenK, List.append_assoc, setO_tabK, pks_get, pks_len, eqP, Nat.mul_one, tab_length, getO_tab, getO_tab0, getO_tabK, getO_tabN, place_tabN, place_tab0, place_tabK, setO_tab, setO_tab0, setO_tabN, putV_len, hopO, len_flat lenH, ones_H, her]
      refine endR (.inr rfl) hJ (J2 := [.cells 0 [.int .i64 q1, .int .i64 q2]]) ?_ rfl ?_ rfl
      · refine objs_of ?_ (hfin ⟨2, (eb, ec), (pk p).host, hopOf (pk p) ⟨ek, p, eb, ec⟩⟩ (by rw [hx])).2
        rw [← (hfin ⟨2, (eb, ec), (pk p).host, hopOf (pk p) ⟨ek, p, eb, ec⟩⟩ (by rw [hx])).1]
        exact put_pk2 (o := 0) (x := ⟨2, (pk p).at_, (pk p).host, hopOf (pk p) ⟨ek, p, eb, ec⟩⟩) hn (by simp) (by (try simp only); rw [hpp, hx]; simp [encK, putV]) (by simp) (by simp [encK, putV])
      · simp [evRes, getT, retV, Tryz.f35]
end Go.Proofs.YtafongdfnpnneaaGreatDoor.Top

/- Chapter 53: an event applied, by the program. -/
set_option maxRecDepth 100000
set_option maxHeartbeats 4000000
set_option linter.all false
namespace Go.Proofs.YtafongdfnpnneaaGreatDoor.Top
open Go.Vm

theorem endRle {rs : List ResultVar} {n0 : Nat} {v : V} {J J2 : List Ob} {r : Rn} {s : S} (hJ : J = objs r) (hs : s.hp = objs r ++ J2) (hn : n0 ≤ r.n + 3) (h : evRes tt rs s.tm s.hp fun vs => retV vs = v) (hv : v.bel 0 = true) : endG tt rs n0 v J .normal s := by
  have h1 : v.bel J.length = true := V.bel_le (Nat.zero_le _) _ hv
  have h2 : belObs J.length J = true := by rw [hJ]; exact bel_objs
  have h3 : n0 ≤ J.length := by rw [hJ, len_objs]; exact hn
  exact endG.normal J2 (by rw [hJ]; exact hs) h3 h h1 h2
theorem ap_ok {r : Rn} {e : Ev} (h : e.k ≠ 1 ∧ e.k ≠ 2 ∧ e.k ≠ 3 ∧ e.k ≠ 4 ∧ e.k ≠ 6) : apR r e = r := by
  obtain ⟨h1, h2, h3, h4, h6⟩ := h
  rw [apR, if_neg h1, if_neg h2, if_neg (by omega), if_neg h6]
theorem g33_2 (r : Rn) (hf : r.fit) (e : Ev) (p : Nat) (hk : e.k = 2) (hp : e.a = p) (hn : p < r.n) (J : List Ob) (hJ : J = objs (apR r e)) : GCall Tryz.prog 18 [.ptr 0 0 0, agE e] (objs r) (.tup []) J := by
  have hE : apR r e = fwR r e := by rw [apR, if_neg (by omega), if_pos hk]
  rw [hE] at hJ
  have h52 := g52 r hf e p hp hn _ rfl
  have hlen : (objs (fwR r e)).length = (objs r).length := by rw [len_objs, len_objs]; rfl
  have hb : belObs (objs r).length (objs (fwR r e)) = true := by rw [← hlen]; exact bel_objs
  generalize hX : objs (fwR r e) = X at h52 hlen hb
  refine GC.walk tok mixed cfg0 Tryz.func18 rfl Tryz.call18 ?_; simp (maxSteps := 2000000) -implicitDefEqProofs +contextual (disch := first | assumption | omega | decide +kernel) only [push_cast, ↓capI, br2_true, br2_false, frk_tt, frk_tf, frk_f, frkD_tt, frkD_tf, frkD_f, pk2_true, pk2_false, imp_true, seval, Nat.reduceLeDiff, Nat.reduceEqDiff, reduceCtorEq, ↓reduceIte, encE, agE, encT, encP, encL, encK, encH, objs, runC, slI, slP, slL, cfg0, get_flat_part lenK, get_flat_drop lenK, len_flat lenK, get_flat0 lenK, get_flat lenK, get_at lenK, get_at0 lenK, get_at2 lenK, List.append_assoc, setO_tabK, pks_get, pks_len, eqP, Nat.mul_one, tab_length, getO_tab, getO_tab0, getO_tabK, getO_tabN, place_tabN, place_tab0, place_tabK, setO_tab, setO_tab0, setO_tabN, putV_len, hopO, len_flat lenH, ones_H, get_flat0 lenP, get_flat_part lenP, len_flat lenP, len_flat lenL, get_flat lenP, Tryz.ntmps18]
  refine callO.app [.cells 0 (encE e)] h52 (by rfl) hlen app_ok bel_objs (by rfl) hb ?_
  simp (maxSteps := 2000000) -implicitDefEqProofs +contextual (disch := first | assumption | omega | decide +kernel) only [push_cast, ↓capI, br2_true, br2_false, frk_tt, frk_tf, frk_f, frkD_tt, frkD_tf, frkD_f, pk2_true, pk2_false, imp_true, seval, Nat.reduceLeDiff, Nat.reduceEqDiff, reduceCtorEq, ↓reduceIte, encE, agE, encT, encP, encL, encK, encH, objs, runC, slI, slP, slL, cfg0, get_flat_part lenK, get_flat_drop lenK, len_flat lenK, get_flat0 lenK, get_flat lenK, get_at lenK, get_at0 lenK, get_at2 lenK, List.append_assoc, setO_tabK, pks_get, pks_len, eqP, Nat.mul_one, tab_length, getO_tab, getO_tab0, getO_tabK, getO_tabN, place_tabN, place_tab0, place_tabK, setO_tab, setO_tab0, setO_tabN, putV_len, hopO, len_flat lenH, ones_H, get_flat0 lenP, get_flat_part lenP, len_flat lenP, len_flat lenL, get_flat lenP]
  refine endR (.inr rfl) hJ (J2 := [.cells 0 (encE e)]) (by rw [hX]; rfl) (by rfl) ?_ (by rfl)
  simp [evRes, getT, retV, Tryz.f18]
theorem g33_3 (r : Rn) (hf : r.fit) (e : Ev) (p : Nat) (hk : e.k = 3 ∨ e.k = 4) (hp : e.a = p) (hn : p < r.n) (J : List Ob) (hJ : J = objs (apR r e)) : GCall Tryz.prog 18 [.ptr 0 0 0, agE e] (objs r) (.tup []) J := by
  have hE : apR r e = { r with pk := setK r.pk p { r.pk p with st := 3 }, pend := -1 } := by rw [apR, if_neg (by omega), if_neg (by omega), if_pos hk, hp, Int.toNat_natCast]
  rw [hE] at hJ
  have hfn := hf.n
  obtain ⟨t, n, pk, pend⟩ := r
  obtain ⟨ek, ea, eb, ec⟩ := e
  simp only at hfn hn hp hk hJ
  subst hp
  have hlt : (p : Int) < (n : Int) := by omega
  have hpl : p < (pks ⟨t, n, pk, pend⟩).length := by rw [pks_len]; exact hn
  have hH : tab n (hopO pk) = tab n (hopO (setK pk p { pk p with st := 3 })) := tab_ext fun i _ => by
    by_cases h : i = p
    · subst h; simp [hopO, setK]
    · simp [hopO, setK, h]
  rcases hk with rfl | rfl
  · refine GC.walk tok mixed cfg0 Tryz.func18 rfl Tryz.call18 ?_; simp (maxSteps := 2000000) -implicitDefEqProofs +contextual (disch := first | assumption | omega | decide +kernel) only [push_cast, ↓capI, br2_true, br2_false, frk_tt, frk_tf, frk_f, frkD_tt, frkD_tf, frkD_f, pk2_true, pk2_false, imp_true, seval, Nat.reduceLeDiff, Nat.reduceEqDiff, reduceCtorEq, ↓reduceIte, encE, agE, encT, encP, encL, encK, encH, objs, runC, slI, slP, slL, cfg0, get_flat_part lenK, get_flat_drop lenK, len_flat lenK, get_flat0 lenK, get_flat lenK, get_at lenK, get_at0 lenK, get_at2 lenK, List.append_assoc, setO_tabK, pks_get, pks_len, eqP, Nat.mul_one, tab_length, getO_tab, getO_tab0, getO_tabK, getO_tabN, place_tabN, place_tab0, place_tabK, setO_tab, setO_tab0, setO_tabN, putV_len, hopO, len_flat lenH, ones_H, get_flat0 lenP, get_flat_part lenP, len_flat lenP, len_flat lenL, get_flat lenP, Tryz.ntmps18]
    refine endR (.inr rfl) hJ (J2 := [.cells 0 (encE ⟨3, p, eb, ec⟩)]) ?_ (by rfl) ?_ (by rfl)
    · refine objs_of ?_ hH
      exact put_pk (o := 0) hn (by simp) (by simp [encK, putV])
    · simp [evRes, getT, retV, Tryz.f18]
  · refine GC.walk tok mixed cfg0 Tryz.func18 rfl Tryz.call18 ?_; simp (maxSteps := 2000000) -implicitDefEqProofs +contextual (disch := first | assumption | omega | decide +kernel) only [push_cast, ↓capI, br2_true, br2_false, frk_tt, frk_tf, frk_f, frkD_tt, frkD_tf, frkD_f, pk2_true, pk2_false, imp_true, seval, Nat.reduceLeDiff, Nat.reduceEqDiff, reduceCtorEq, ↓reduceIte, encE, agE, encT, encP, encL, encK, encH, objs, runC, slI, slP, slL, cfg0, get_flat_part lenK, get_flat_drop lenK, len_flat lenK, get_flat0 lenK, get_flat lenK, get_at lenK, get_at0 lenK, get_at2 lenK, List.append_assoc, setO_tabK, pks_get, pks_len, eqP, Nat.mul_one, tab_length, getO_tab, getO_tab0, getO_tabK, getO_tabN, place_tabN, place_tab0, place_tabK, setO_tab, setO_tab0, setO_tabN, putV_len, hopO, len_flat lenH, ones_H, get_flat0 lenP, get_flat_part lenP, len_flat lenP, len_flat lenL, get_flat lenP, Tryz.ntmps18]
    refine endR (.inr rfl) hJ (J2 := [.cells 0 (encE ⟨4, p, eb, ec⟩)]) ?_ (by rfl) ?_ (by rfl)
    · refine objs_of ?_ hH
      exact put_pk (o := 0) hn (by simp) (by simp [encK, putV])
    · simp [evRes, getT, retV, Tryz.f18]
theorem g33_6 (r : Rn) (hf : r.fit) (e : Ev) (i : Nat) (hk : e.k = 6) (hp : e.a = i) (hn : i < r.t.links.length) (J : List Ob) (hJ : J = objs (apR r e)) : GCall Tryz.prog 18 [.ptr 0 0 0, agE e] (objs r) (.tup []) J := by
  have hE : apR r e = { r with t := setDn r.t i (decide (e.b = 1)) } := by rw [apR, if_neg (by omega), if_neg (by omega), if_neg (by omega), if_pos hk, hp, Int.toNat_natCast]
  rw [hE] at hJ
  have hfn := hf.n
  have hfl := hf.t.links
  obtain ⟨t, n, pk, pend⟩ := r
  obtain ⟨ek, ea, eb, ec⟩ := e
  simp only at hfn hn hp hk hJ hfl
  subst hp hk
  have hlt : (i : Int) < (t.links.length : Int) := by omega
  have hput : ∀ b : Bool, putV (t.links.flatMap encL) (i * 5 + 4) [.bool b] = (setDn t i b).links.flatMap encL := fun b => by
    have hg : t.links.getD i default = t.links[i] := by rw [List.getD_eq_getElem?_getD, List.getElem?_eq_getElem hn]; rfl
    rw [put_flat lenL (x' := { t.links[i] with dn := b }) (by simp) t.links i hn (by simp [encL, putV])]
    simp only [setDn, hg]
  have hll : (setDn t i (decide (eb = 1))).links.length = t.links.length := by simp [setDn]
  refine GC.walk tok mixed cfg0 Tryz.func18 rfl Tryz.call18 ?_; simp (maxSteps := 2000000) -implicitDefEqProofs +contextual (disch := first | assumption | omega | decide +kernel) only [push_cast, ↓capI, br2_true, br2_false, frk_tt, frk_tf, frk_f, frkD_tt, frkD_tf, frkD_f, pk2_true, pk2_false, imp_true, seval, Nat.reduceLeDiff, Nat.reduceEqDiff, reduceCtorEq, ↓reduceIte, encE, agE, encT, encP, encL, encK, encH, objs, runC, slI, slP, slL, cfg0, get_flat_part lenK, get_flat_drop lenK, len_flat lenK, get_flat0 lenK, get_flat lenK, get_at lenK, get_at0 lenK, get_at2 lenK, List.append_assoc, setO_tabK, pks_get, pks_len, eqP, Nat.mul_one, tab_length, getO_tab, getO_tab0, getO_tabK, getO_tabN, place_tabN, place_tab0, place_tabK, setO_tab, setO_tab0, setO_tabN, putV_len, hopO, len_flat lenH, ones_H, get_flat0 lenP, get_flat_part lenP, len_flat lenP, len_flat lenL, get_flat lenP, Tryz.ntmps18]
  refine endR (.inr rfl) hJ (J2 := [.cells 0 (encE ⟨6, i, eb, ec⟩)]) ?_ (by rfl) ?_ (by rfl)
  · have e1 : (eb == 1) = decide (eb = 1) := rfl
    simp only [objs, runC, slI, slP, hll, List.cons_append, hput, e1]
    rfl
  · simp [evRes, getT, retV, Tryz.f18]
/-- the objects behind a packet sent, its hops still nil -/
def obsN (t : Tp) (n : Nat) (pk : Nat → Pk) (pend : Int) (h : Int × Int) : List Ob :=
  .cells 0 [.sl false (t.ports.map (V.int .i64)) t.ports.length, .buf 1 0 0 t.links.length 5, .sl false (t.hosts.flatMap encP) t.hosts.length, .buf 2 (n + 1) 0 (n + 1) 5, .int .i64 pend] :: .cells 0 (t.links.flatMap encL) :: .cells (n + 1) ((pksOf n pk).flatMap encK ++ [V.int .i64 0, .int .i64 h.1, .int .i64 h.2, .int .i64 0, .sl true [] 0]) :: tab n (hopO pk)
theorem obsN_len {t : Tp} {n : Nat} {pk : Nat → Pk} {pend : Int} {h : Int × Int} : (obsN t n pk pend h).length = n + 3 := by simp [obsN, tab_length]
theorem bel_obsN {t : Tp} {n : Nat} {pk : Nat → Pk} {pend : Int} {h : Int × Int} : belObs (n + 3) (obsN t n pk pend h) = true := by
  have hb : belAll (n + 3) ((pksOf n pk).flatMap encK) = true := bel_pks (r := ⟨t, n, pk, pend⟩) (Nat.le_refl _)
  simp [obsN, bel_ints, bel_Ps, bel_Ls, bel_hops, belAll_append, hb]
theorem own_obsN {t : Tp} {n m : Nat} {pk : Nat → Pk} {pend : Int} {h : Int × Int} {tm : List V} : Gn m ⟨tm, obsN t n pk pend h⟩ ⟨tm, objs ⟨t, n + 1, setK pk n ⟨0, h, 0, []⟩, pend⟩⟩ := by
  have hlen : (pksOf n pk).length = n := by rw [pksOf, tab_length]
  have hcell : (pksOf n pk).flatMap encK ++ [V.int .i64 0, .int .i64 h.1, .int .i64 h.2, .int .i64 0, .buf (n + 3) 0 0 0 3] = (pksOf (n + 1) (setK pk n ⟨0, h, 0, []⟩)).flatMap encK := by
    rw [pksOf, pksOf, tab_succ, List.flatMap_append]
    congr 1
    · congr 1
      exact tab_ext fun k hk => by simp only [setK]; rw [if_neg (by omega)]
    · simp [encK, setK]
  have hhop : tab n (hopO pk) ++ [Ob.cells 0 []] = tab (n + 1) (hopO (setK pk n ⟨0, h, 0, []⟩)) := by
    rw [tab_succ]
    congr 1
    · exact tab_ext fun k hk => by rw [hopO, hopO, setK, if_neg (by omega)]
    · simp [hopO, setK]
  have hget : ((pksOf n pk).flatMap encK ++ [V.int .i64 0, .int .i64 h.1, .int .i64 h.2, .int .i64 0, .sl true [] 0])[n * 5 + 4]? = some (.sl true [] 0) := by
    rw [List.getElem?_append_right (by rw [len_flat lenK, hlen]; omega), len_flat lenK, hlen, Nat.add_sub_cancel_left]
    rfl
  have hset : ((pksOf n pk).flatMap encK ++ [V.int .i64 0, .int .i64 h.1, .int .i64 h.2, .int .i64 0, .sl true [] 0]).set (n * 5 + 4) (.buf (n + 3) 0 0 0 3) = (pksOf n pk).flatMap encK ++ [V.int .i64 0, .int .i64 h.1, .int .i64 h.2, .int .i64 0, .buf (n + 3) 0 0 0 3] := by
    rw [List.set_append_right _ _ (by rw [len_flat lenK, hlen]; omega), len_flat lenK, hlen, Nat.add_sub_cancel_left]
    rfl
  have hg := Gn.ownCell (n := m) (tm := tm) (H := obsN t n pk pend h) (id := 2) (ver := n + 1) (i := n * 5 + 4) (sz := 3) rfl hget
  rw [obsN_len, hset, hcell] at hg
  have e : setO (obsN t n pk pend h) 2 (.cells (n + 1) ((pksOf (n + 1) (setK pk n ⟨0, h, 0, []⟩)).flatMap encK)) ++ [.cells 0 []] = objs ⟨t, n + 1, setK pk n ⟨0, h, 0, []⟩, pend⟩ := by
    simp only [obsN, setO, List.cons_append, hhop]
    rfl
  rw [e] at hg
  exact hg
theorem g33_1 (r : Rn) (hf : r.fit) (e : Ev) (i : Nat) (hk : e.k = 1) (hp : e.b = i) (hn : i < r.t.hosts.length) : GCall Tryz.prog 18 [.ptr 0 0 0, agE e] (objs r) (.tup []) (obsN r.t r.n r.pk r.pend r.t.hosts[i]) := by
  have hfn := hf.n
  have hfl := hf.t.hosts
  obtain ⟨t, n, pk, pend⟩ := r
  obtain ⟨ek, ea, eb, ec⟩ := e
  simp only at hfn hn hp hk hfl
  subst hp hk
  have hlt : (i : Int) < (t.hosts.length : Int) := by omega
  obtain ⟨J, hJ⟩ : ∃ J, J = obsN t n pk pend t.hosts[i] := ⟨_, rfl⟩
  simp only
  rw [← hJ]
  refine GC.walk tok mixed cfg0 Tryz.func18 rfl Tryz.call18 ?_; simp (maxSteps := 2000000) -implicitDefEqProofs +contextual (disch := first | assumption | omega | decide +kernel) only [push_cast, ↓capI, br2_true, br2_false, frk_tt, frk_tf, frk_f, frkD_tt, frkD_tf, frkD_f, pk2_true, pk2_false, imp_true, seval, Nat.reduceLeDiff, Nat.reduceEqDiff, reduceCtorEq, ↓reduceIte, encE, agE, encT, encP, encL, encK, encH, objs, runC, slI, slP, slL, cfg0, get_flat_part lenK, get_flat_drop lenK, len_flat lenK, get_flat0 lenK, get_flat lenK, get_at lenK, get_at0 lenK, get_at2 lenK, List.append_assoc, setO_tabK, pks_get, pks_len, eqP, Nat.mul_one, tab_length, getO_tab, getO_tab0, getO_tabK, getO_tabN, place_tabN, place_tab0, place_tabK, setO_tab, setO_tab0, setO_tabN, putV_len, hopO, len_flat lenH, ones_H, get_flat0 lenP, get_flat_part lenP, len_flat lenP, len_flat lenL, get_flat lenP, Tryz.ntmps18]
  refine endG.normal (J := J) [.cells 0 (encE ⟨1, ea, i, ec⟩)] (by rw [hJ]; rfl) (by rw [hJ, obsN_len]; exact Nat.le_refl _) (by simp [evRes, getT, retV, Tryz.f18]) (by simp) (by rw [hJ, obsN_len]; exact bel_obsN)
theorem g33_0 (r : Rn) (e : Ev) (h : e.k ≠ 1 ∧ e.k ≠ 2 ∧ e.k ≠ 3 ∧ e.k ≠ 4 ∧ e.k ≠ 6) (J : List Ob) (hJ : J = objs (apR r e)) : GCall Tryz.prog 18 [.ptr 0 0 0, agE e] (objs r) (.tup []) J := by
  rw [ap_ok h] at hJ
  obtain ⟨h1, h2, h3, h4, h6⟩ := h
  refine GC.walk tok mixed cfg0 Tryz.func18 rfl Tryz.call18 ?_; simp (maxSteps := 2000000) -implicitDefEqProofs +contextual (disch := first | assumption | omega | decide +kernel) only [push_cast, ↓capI, br2_true, br2_false, frk_tt, frk_tf, frk_f, frkD_tt, frkD_tf, frkD_f, pk2_true, pk2_false, imp_true, seval, Nat.reduceLeDiff, Nat.reduceEqDiff, reduceCtorEq, ↓reduceIte, encE, agE, encT, encP, encL, encK, encH, objs, runC, slI, slP, slL, cfg0, get_flat_part lenK, get_flat_drop lenK, len_flat lenK, get_flat0 lenK, get_flat lenK, get_at lenK, get_at0 lenK, get_at2 lenK, List.append_assoc, setO_tabK, pks_get, pks_len, eqP, Nat.mul_one, tab_length, getO_tab, getO_tab0, getO_tabK, getO_tabN, place_tabN, place_tab0, place_tabK, setO_tab, setO_tab0, setO_tabN, putV_len, hopO, len_flat lenH, ones_H, get_flat0 lenP, get_flat_part lenP, len_flat lenP, len_flat lenL, get_flat lenP, Tryz.ntmps18]
  refine endR (.inr rfl) hJ (J2 := [.cells 0 (encE e)]) (by rfl) (by rfl) ?_ (by rfl)
  simp [evRes, getT, retV, Tryz.f18]
/-- what a run is like: the packet that is pending is one of its own -/
structure Rn.ok (r : Rn) : Prop where
  pend : r.pend = -1 ∨ ∃ p : Nat, r.pend = p ∧ p < r.n
/-- the objects behind an event applied, before a new packet's hops may be appended to -/
def apO (r : Rn) (e : Ev) : List Ob := if e.k = 1 then obsN r.t r.n r.pk r.pend (r.t.hosts.getD e.b.toNat (0, 0)) else objs (apR r e)
theorem apO_own {r : Rn} {e : Ev} {m : Nat} {tm : List V} : Gn m ⟨tm, apO r e⟩ ⟨tm, objs (apR r e)⟩ := by
  unfold apO
  split
  · rename_i h
    rw [apR, if_pos h]
    exact own_obsN
  · exact Gn.refl _ _
theorem apR_n {r : Rn} {e : Ev} (h : e.k ≠ 1) : (apR r e).n = r.n := by
  unfold apR
  rw [if_neg h]
  repeat' split
  all_goals rfl
theorem apO_len {r : Rn} {e : Ev} : (apO r e).length = (objs r).length := by
  unfold apO
  split
  · rw [obsN_len, len_objs]
  · rename_i h
    rw [len_objs, len_objs, apR_n h]
theorem bel_apO {r : Rn} {e : Ev} : belObs (objs r).length (apO r e) = true := by
  rw [← apO_len (r := r) (e := e)]
  unfold apO
  split
  · rw [obsN_len]; exact bel_obsN
  · exact bel_objs
theorem g33 (r : Rn) (hf : r.fit) (ho : r.ok) (e : Ev) (hc : ckR r e = 0) : GCall Tryz.prog 18 [.ptr 0 0 0, agE e] (objs r) (.tup []) (apO r e) := by
  have hE := hc
  unfold ckR at hE
  split at hE
  · simp at hE
  rename_i hk
  split at hE
  · rename_i hp0
    have hends : endsR r e = true := by
      cases h : endsR r e with
      | true => rfl
      | false => rw [h] at hE; simp at hE
    rcases ho.pend with h | ⟨p, hp, hn⟩
    · omega
    · unfold endsR at hends
      split at hends
      · simp at hends
      rename_i ha
      have ha : e.a = r.pend := Decidable.not_not.1 ha
      split at hends
      · simp only [Bool.and_eq_true, decide_eq_true_eq] at hends
        rw [apO, if_neg (by omega)]
        exact g33_3 r hf e p (.inl hends.1) (by rw [ha, hp]) hn _ rfl
      · simp only [Bool.and_eq_true, decide_eq_true_eq] at hends
        rw [apO, if_neg (by omega)]
        exact g33_3 r hf e p (.inr hends.1) (by rw [ha, hp]) hn _ rfl
  split at hE
  · rename_i h1
    split at hE
    · simp at hE
    · rename_i hb
      have hb2 : e.b.toNat < r.t.hosts.length := by omega
      have hg : r.t.hosts.getD e.b.toNat (0, 0) = r.t.hosts[e.b.toNat] := by rw [List.getD_eq_getElem?_getD, List.getElem?_eq_getElem hb2]; rfl
      rw [apO, if_pos h1, hg]
      exact g33_1 r hf e e.b.toNat h1 (by omega) hb2
  split at hE
  · rw [apO, if_neg (by omega)]
    exact g33_0 r e (by omega) _ rfl
  split at hE
  · rename_i h6
    split at hE
    · simp at hE
    · rename_i ha
      rw [apO, if_neg (by omega)]
      exact g33_6 r hf e e.a.toNat h6 (by omega) (by omega) _ rfl
  · unfold ckP at hE
    split at hE
    · simp at hE
    rename_i ha
    split at hE
    · simp at hE
    split at hE
    · simp at hE
    rename_i hk2
    have h2 : e.k = 2 := by
      apply Decidable.byContradiction
      intro h
      exact hk2 (.inl h)
    rw [apO, if_neg (by omega)]
    exact g33_2 r hf e e.a.toNat h2 (by omega) (by omega) _ rfl
end Go.Proofs.YtafongdfnpnneaaGreatDoor.Top

/- Chapter 53: a run from its start, by the program. -/
set_option maxRecDepth 100000
set_option maxHeartbeats 4000000
set_option linter.all false
namespace Go.Proofs.YtafongdfnpnneaaGreatDoor.Top
open Go.Vm

def r0 (t : Tp) : Rn := ⟨t, 0, fun _ => default, -1⟩
theorem fzI {id ver : Nat} {l : List V} {xs : List Int} : fzs id ver l (xs.map (V.int .i64)) = xs.map (V.int .i64) := fzs_ok (bel_ints xs)
theorem fzL {id ver : Nat} {l : List V} {xs : List Lk} : fzs id ver l (xs.flatMap encL) = xs.flatMap encL := fzs_ok (bel_Ls xs)
theorem fzP {id ver : Nat} {l : List V} {xs : List (Int × Int)} : fzs id ver l (xs.flatMap encP) = xs.flatMap encP := fzs_ok (bel_Ps xs)
theorem rnI {q : Nat → Nat} {xs : List Int} : rns q (xs.map (V.int .i64)) = xs.map (V.int .i64) := rns_ok (bel_ints xs)
theorem rnL {q : Nat → Nat} {xs : List Lk} : rns q (xs.flatMap encL) = xs.flatMap encL := rns_ok (bel_Ls xs)
theorem rnP {q : Nat → Nat} {xs : List (Int × Int)} : rns q (xs.flatMap encP) = xs.flatMap encP := rns_ok (bel_Ps xs)
theorem shI {k : Nat} {xs : List Int} : shs k (xs.map (V.int .i64)) = xs.map (V.int .i64) := shs_ok (bel_ints xs)
theorem shL {k : Nat} {xs : List Lk} : shs k (xs.flatMap encL) = xs.flatMap encL := shs_ok (bel_Ls xs)
theorem shP {k : Nat} {xs : List (Int × Int)} : shs k (xs.flatMap encP) = xs.flatMap encP := shs_ok (bel_Ps xs)
theorem pcj16 (t : Tp) (hf : t.fit) (hp : t.ports.length ≤ 4000000000) : PCJ Tryz.prog 16 [.agg (encT t)] (.ptr 0 0 0) (objs (r0 t)) := by
  have h49 := pcj32 t hf hp
  refine PCJ.walk tok mixed cfg0 Tryz.func16 rfl Tryz.call16 (by simp [belT, belP, bel_slI, bel_slL, bel_slP, bel_ints, bel_Ps, bel_Ls, bel_encE, bel_agE, bel_hops, bel_pks, tab_length, objs, runC]) ?_; simp (maxSteps := 2000000) -implicitDefEqProofs +contextual (disch := first | assumption | omega | decide +kernel) only [push_cast, ↓capI, br2_true, br2_false, frk_tt, frk_tf, frk_f, frkD_tt, frkD_tf, frkD_f, pk2_true, pk2_false, imp_true, seval, Nat.reduceLeDiff, Nat.reduceEqDiff, reduceCtorEq, ↓reduceIte, encE, agE, encT, encP, encL, encK, encH, objs, runC, slI, slP, slL, cfg0, get_flat_part lenK, get_flat_drop lenK, len_flat lenK, get_flat0 lenK, get_flat lenK, get_at lenK, get_at0 lenK, get_at2 lenK, List.append_assoc, setO_tabK, pks_get, pks_len, eqP, Nat.mul_one, tab_length, getO_tab, getO_tab0, getO_tabK, getO_tabN, place_tabN, place_tab0, place_tabK, setO_tab, setO_tab0, setO_tabN, putV_len, hopO, len_flat lenH, ones_H, get_flat0 lenP, get_flat_part lenP, len_flat lenP, len_flat lenL, get_flat lenP, Tryz.ntmps16]
  refine callO.pcj h49 ?_
  simp (maxSteps := 2000000) -implicitDefEqProofs +contextual (disch := first | assumption | omega | decide +kernel) only [push_cast, ↓capI, br2_true, br2_false, frk_tt, frk_tf, frk_f, frkD_tt, frkD_tf, frkD_f, pk2_true, pk2_false, imp_true, seval, Nat.reduceLeDiff, Nat.reduceEqDiff, reduceCtorEq, ↓reduceIte, encE, agE, encT, encP, encL, encK, encH, objs, runC, slI, slP, slL, cfg0, get_flat_part lenK, get_flat_drop lenK, len_flat lenK, get_flat0 lenK, get_flat lenK, get_at lenK, get_at0 lenK, get_at2 lenK, List.append_assoc, setO_tabK, pks_get, pks_len, eqP, Nat.mul_one, tab_length, getO_tab, getO_tab0, getO_tabK, getO_tabN, place_tabN, place_tab0, place_tabK, setO_tab, setO_tab0, setO_tabN, putV_len, hopO, len_flat lenH, ones_H, get_flat0 lenP, get_flat_part lenP, len_flat lenP, len_flat lenL, get_flat lenP, bufT, obsT, V.sh, shs, shOs, Ob.sh, shI, shL, shP]
  refine endJ.gn (Gn.freeze (id := 3) rfl) ?_
  refine endJ.gn (Gn.freeze (id := 5) rfl) ?_
  simp only [fzs, fz, fzH, Nat.beq, setO, fzI, fzL, fzP, take_I, take_P, List.drop_zero]
  refine endJ.gn (Gn.swap (i := 0) (j := 6) (Nat.zero_le _) (Nat.zero_le _) (by simp) (by simp)) ?_
  simp only [swpH, swp, rns, V.rn, rnOs, Ob.rn, Nat.beq, setO, getO, rnI, rnL, rnP]
  refine endJ.gn (Gn.swap (i := 1) (j := 4) (Nat.zero_le _) (Nat.zero_le _) (by simp) (by simp)) ?_
  simp only [swpH, swp, rns, V.rn, rnOs, Ob.rn, Nat.beq, setO, getO, rnI, rnL, rnP]
  refine endJ.gn (Gn.ownCell (id := 0) (ver := 0) (i := 3) (sz := 5) rfl rfl) ?_
  simp only [List.length_cons, List.length_nil, List.set_cons_succ, List.set_cons_zero, setO, List.cons_append, List.nil_append]
  refine endJ.gn (Gn.swap (i := 2) (j := 7) (Nat.zero_le _) (Nat.zero_le _) (by simp) (by simp)) ?_
  simp only [swpH, swp, rns, V.rn, rnOs, Ob.rn, Nat.beq, setO, getO, rnI, rnL, rnP]
  refine endJ.ret _ (by rfl) (by simp [evRes, getT, retV, Tryz.f16]) (by rfl) (bel_objs (r := r0 t))
/-- what a run of j events is like -/
structure Rn.inv (r : Rn) (t0 : Tp) (j : Nat) : Prop where
  ports : r.t.ports = t0.ports
  hosts : r.t.hosts = t0.hosts
  links : r.t.links.length = t0.links.length
  n : r.n ≤ j
  hops : ∀ i, (r.pk i).hops.length ≤ j
  ok : r.ok
theorem inv0 (t : Tp) : (r0 t).inv t 0 := ⟨rfl, rfl, rfl, Nat.le_refl _, fun _ => Nat.le_refl _, ⟨.inl rfl⟩⟩
theorem Rn.inv.fit {r : Rn} {t : Tp} {j : Nat} (h : r.inv t j) (hf : t.fit) (hj : j ≤ 4000000) : r.fit := by
  refine ⟨⟨by rw [h.ports]; exact hf.ports, by rw [h.links]; exact hf.links, by rw [h.hosts]; exact hf.hosts⟩, by have := h.n; omega, fun i => by have := h.hops i; omega⟩
theorem setK_hops {pk : Nat → Pk} {p j : Nat} {x : Pk} (h : ∀ i, (pk i).hops.length ≤ j) (hx : x.hops.length ≤ j + 1) (i : Nat) : (setK pk p x i).hops.length ≤ j + 1 := by
  rw [setK]
  split
  · exact hx
  · have := h i; omega
theorem fwP_hops {t : Tp} {p : Pk} {e : Ev} : (fwP t p e).hops = hopOf p e := by
  unfold fwP
  repeat' split
  all_goals rfl
theorem hopOf_len {p : Pk} {e : Ev} : (hopOf p e).length = p.hops.length + 1 := by simp [hopOf]
theorem ckR_pend {r : Rn} {e : Ev} (hc : ckR r e = 0) (h : e.k = 2) : 0 ≤ e.a ∧ e.a < r.n ∧ r.pend < 0 := by
  unfold ckR at hc
  split at hc
  · simp at hc
  split at hc
  · rename_i hk hp
    split at hc
    · rename_i he
      unfold endsR at he
      split at he
      · simp at he
      split at he <;> simp only [Bool.and_eq_true, decide_eq_true_eq] at he <;> omega
    · simp at hc
  · rename_i hk hp
    rw [if_neg (by omega), if_neg (by omega), if_neg (by omega)] at hc
    unfold ckP at hc
    split at hc
    · simp at hc
    · omega
theorem inv_step {r : Rn} {t : Tp} {j : Nat} {e : Ev} (h : r.inv t j) (hc : ckR r e = 0) : (apR r e).inv t (j + 1) := by
  have hn := h.n
  unfold apR
  split
  · refine ⟨h.ports, h.hosts, h.links, by simp only; omega, setK_hops h.hops (by simp), ⟨?_⟩⟩
    rcases h.ok.pend with hp | ⟨p, hp, hlt⟩
    · exact .inl hp
    · exact .inr ⟨p, hp, by simp only; omega⟩
  split
  · rename_i h2
    obtain ⟨a1, a2, a3⟩ := ckR_pend hc h2
    refine ⟨h.ports, h.hosts, h.links, by simp only [fwR]; omega, setK_hops h.hops (by rw [fwP_hops, hopOf_len]; have := h.hops e.a.toNat; omega), ⟨?_⟩⟩
    simp only [fwR, fwN]
    have hm : r.pend = -1 := by
      rcases h.ok.pend with hp | ⟨p, hp, hlt⟩
      · exact hp
      · omega
    split
    · exact .inl hm
    · split
      · exact .inr ⟨e.a.toNat, by omega, by omega⟩
      · split
        · exact .inl hm
        · exact .inr ⟨e.a.toNat, by omega, by omega⟩
  split
  · exact ⟨h.ports, h.hosts, h.links, by simp only; omega, setK_hops h.hops (by have := h.hops e.a.toNat; simp only; omega), ⟨.inl rfl⟩⟩
  split
  · refine ⟨h.ports, h.hosts, by simp only [setDn, List.length_set]; exact h.links, by simp only; omega, fun i => by have := h.hops i; simp only; omega, ⟨?_⟩⟩
    exact h.ok.pend
  · exact ⟨h.ports, h.hosts, h.links, by omega, fun i => by have := h.hops i; omega, h.ok⟩
end Go.Proofs.YtafongdfnpnneaaGreatDoor.Top

/- Chapter 53: Check and Hops, by the program. -/
set_option maxRecDepth 100000
set_option maxHeartbeats 4000000
set_option linter.all false
namespace Go.Proofs.YtafongdfnpnneaaGreatDoor.Top
open Go.Vm

theorem bel_objs' {r : Rn} : belObs (r.n + 3) (objs r) = true := by have := bel_objs (r := r); rwa [len_objs] at this
theorem getO_end {H : List Ob} {x : Ob} : getO (H ++ [x]) H.length = x := by
  have := getO_appK (J := [x]) (i := 0) (rfl : H.length = H.length)
  rw [Nat.add_zero] at this
  rw [this]; rfl
theorem setO_end {H : List Ob} {x y : Ob} : setO (H ++ [x]) H.length y = H ++ [y] := by
  have := setO_appK (H := H) (J := [x]) (o := y) (i := 0) rfl
  rw [Nat.add_zero] at this
  rw [this]; rfl
theorem place_end {x : Ob} : ∀ {H : List Ob}, place H H.length x = H ++ [x]
  | [] => rfl
  | y :: H => by rw [List.length_cons, place, place_end]; rfl
theorem rnE {q : Nat → Nat} {l : List Ev} : (slE l).rn q = slE l := V.rn_bel _ (bel_slE l)
theorem objs_r0 {t : Tp} : objs (r0 t) = [.cells 0 [.sl false (t.ports.map (V.int .i64)) t.ports.length, .buf 1 0 0 t.links.length 5, .sl false (t.hosts.flatMap encP) t.hosts.length, .buf 2 0 0 0 5, .int .i64 (-1)], .cells 0 (t.links.flatMap encL), .cells 0 []] := rfl
/-- the first event that a run refuses, and its error -/
def chkG : Rn → List Ev → Nat → Int × Int
  | _, [], _ => (0, 0)
  | r, e :: l, i => if ckR r e = 0 then chkG (apR r e) l (i + 1) else (i, ckR r e)
def runG : Rn → List Ev → Rn
  | r, [] => r
  | r, e :: l => if ckR r e = 0 then runG (apR r e) l else r
def checkEv (t : Tp) (l : List Ev) : Int × Int := if chk t = 0 then chkG (r0 t) l 0 else (-1, chk t)
def slH (l : List Hp) : V := .sl false (l.flatMap encH) l.length
def hopsEv (t : Tp) (l : List Ev) (id : Int) : List Hp := if chk t = 0 then (if id < 0 ∨ ((runG (r0 t) l).n : Int) ≤ id then [] else ((runG (r0 t) l).pk id.toNat).hops) else []
theorem pc6 (t : Tp) (hf : t.fit) (hp : t.ports.length ≤ 4000000000) (l : List Ev) (hl : l.length ≤ 4000000) : PC Tryz.prog 6 [.agg (encT t), slE l] (encII (checkEv t l)) := by
  have h30 := pc15 t hf
  have h31 := pcj16 t hf hp
  by_cases hc : chk t = 0
  case neg =>
    rw [checkEv, if_neg hc]
    refine PC.walk tok mixed cfg0 Tryz.func6 rfl Tryz.call6 (by simp [belT, bel_encE, bel_agE, bel_slE, bel_Es, len_objs, bel_objs', bel_slI, bel_slP, bel_slL]) (by first | rfl | simp [belT, bel_encE, bel_agE, bel_slE, bel_Es, len_objs, bel_objs', bel_slI, bel_slP, bel_slL]) ?_; simp (maxSteps := 2000000) -implicitDefEqProofs +contextual (disch := first | assumption | omega | decide +kernel) only [push_cast, ↓capI, br2_true, br2_false, frk_tt, frk_tf, frk_f, frkD_tt, frkD_tf, frkD_f, pk2_true, pk2_false, imp_true, seval, Nat.reduceLeDiff, Nat.reduceEqDiff, reduceCtorEq, ↓reduceIte, encE, agE, encT, cfg0, get_flat0 lenE, get_flat_part lenE, len_flat lenE, getO_end, setO_end, place_end, List.length_append, Tryz.ntmps6]
    refine callO.pc h30 ?_
    simp (maxSteps := 2000000) -implicitDefEqProofs +contextual (disch := first | assumption | omega | decide +kernel) only [push_cast, ↓capI, br2_true, br2_false, frk_tt, frk_tf, frk_f, frkD_tt, frkD_tf, frkD_f, pk2_true, pk2_false, imp_true, seval, Nat.reduceLeDiff, Nat.reduceEqDiff, reduceCtorEq, ↓reduceIte, encE, agE, encT, cfg0, get_flat0 lenE, get_flat_part lenE, len_flat lenE, getO_end, setO_end, place_end, List.length_append, hc]
    refine endK.ret ?_ (by first | rfl | simp [belT, bel_encE, bel_agE, bel_slE, bel_Es, len_objs, bel_objs', bel_slI, bel_slP, bel_slL]); simp [evRes, getT, retV, Tryz.f6,  encII]
  rw [checkEv, if_pos hc]
  rw [hc] at h30
  rw [objs_r0] at h31
  refine PC.cutN tok mixed cfg0 2 Tryz.func6 rfl Tryz.call6 (by simp [belT, bel_encE, bel_agE, bel_slE, bel_Es, len_objs, bel_objs', bel_slI, bel_slP, bel_slL]) (by rfl) ?_
  simp (maxSteps := 2000000) -implicitDefEqProofs +contextual (disch := first | assumption | omega | decide +kernel) only [push_cast, ↓capI, br2_true, br2_false, frk_tt, frk_tf, frk_f, frkD_tt, frkD_tf, frkD_f, pk2_true, pk2_false, imp_true, seval, Nat.reduceLeDiff, Nat.reduceEqDiff, reduceCtorEq, ↓reduceIte, encE, agE, encT, cfg0, get_flat0 lenE, get_flat_part lenE, len_flat lenE, getO_end, setO_end, place_end, List.length_append, Tryz.ntmps6, cutAt_z, cutAt_s]
  refine callO.pc h30 ?_
  simp (maxSteps := 2000000) -implicitDefEqProofs +contextual (disch := first | assumption | omega | decide +kernel) only [push_cast, ↓capI, br2_true, br2_false, frk_tt, frk_tf, frk_f, frkD_tt, frkD_tf, frkD_f, pk2_true, pk2_false, imp_true, seval, Nat.reduceLeDiff, Nat.reduceEqDiff, reduceCtorEq, ↓reduceIte, encE, agE, encT, cfg0, get_flat0 lenE, get_flat_part lenE, len_flat lenE, getO_end, setO_end, place_end, List.length_append, cutAt_z, cutAt_s]
  refine callO.pcj h31 ?_
  simp (maxSteps := 2000000) -implicitDefEqProofs +contextual (disch := first | assumption | omega | decide +kernel) only [push_cast, ↓capI, br2_true, br2_false, frk_tt, frk_tf, frk_f, frkD_tt, frkD_tf, frkD_f, pk2_true, pk2_false, imp_true, seval, Nat.reduceLeDiff, Nat.reduceEqDiff, reduceCtorEq, ↓reduceIte, encE, agE, encT, cfg0, get_flat0 lenE, get_flat_part lenE, len_flat lenE, getO_end, setO_end, place_end, List.length_append, cutAt_z, cutAt_s, V.sh, shs, shOs, Ob.sh, shI, shL, shP]
  refine cutK.gn (Gn.weak (tm' := [.dead, slE l, .dead, .dead, .dead, .dead, .dead, .ptr 1 0 0, .dead, .dead, .dead, .dead, .dead, .dead, .dead, .dead, .dead, .dead, .dead, .dead, .dead, .dead, .dead, .dead, .dead, .dead, .dead, .dead, .dead, .dead, .dead, .dead, .dead, .dead, .dead, .dead]) (by simp [wk, slE])) ?_
  refine cutK.gn (Gn.swap (i := 0) (j := 1) (Nat.zero_le _) (Nat.zero_le _) (by simp) (by simp)) ?_
  simp only [swpH, swp, rns, V.rn, rnOs, Ob.rn, Nat.beq, setO, getO, rnI, rnL, rnP, rnE]
  refine cutK.gn (Gn.swap (i := 1) (j := 2) (Nat.zero_le _) (Nat.zero_le _) (by simp) (by simp)) ?_
  simp only [swpH, swp, rns, V.rn, rnOs, Ob.rn, Nat.beq, setO, getO, rnI, rnL, rnP, rnE]
  refine cutK.gn (Gn.swap (i := 2) (j := 3) (Nat.zero_le _) (Nat.zero_le _) (by simp) (by simp)) ?_
  simp only [swpH, swp, rns, V.rn, rnOs, Ob.rn, Nat.beq, setO, getO, rnI, rnL, rnP, rnE]
  refine cutK.gn (Gn.canon (tm' := [.dead, slE l, .dead, .dead, .dead, .dead, .dead, .ptr 0 0 0, .dead, .dead, .dead, .dead, .dead, .dead, .dead, .dead, .dead, .dead, .dead, .dead, .dead, .dead, .dead, .dead, .dead, .dead, .dead, .dead, .dead, .dead, .dead, .dead, .dead, .dead, .dead, .dead]) (H := objs (r0 t)) (J := [_]) (by rfl) (by simp [wk, slE]) (Nat.zero_le _) (by simp [belT, bel_encE, bel_agE, bel_slE, bel_Es, len_objs, bel_objs', bel_slI, bel_slP, bel_slL]) bel_objs) ?_
  refine cutK.go (cfg := cfg0) tok mixed ?_
  simp (maxSteps := 2000000) -implicitDefEqProofs +contextual (disch := first | assumption | omega | decide +kernel) only [push_cast, ↓capI, br2_true, br2_false, frk_tt, frk_tf, frk_f, frkD_tt, frkD_tf, frkD_f, pk2_true, pk2_false, imp_true, seval, Nat.reduceLeDiff, Nat.reduceEqDiff, reduceCtorEq, ↓reduceIte, encE, agE, encT, cfg0, get_flat0 lenE, get_flat_part lenE, len_flat lenE, getO_end, setO_end, place_end, List.length_append, slE]
  refine T.lp tok mixed cfg0 (fun ((j, r) : Nat × Rn) => dd 7 (kp 1 (dd 10 (kp 2 (sv (.int .i64 j) (dd 15 (nl))))))) (fun H0 ((j, r) : Nat × Rn) => objs r) (fun ((j, r) : Nat × Rn) => r.inv t j ∧ j ≤ l.length ∧ chkG r (l.drop j) j = chkG (r0 t) l 0) (fun ((j, r) : Nat × Rn) => l.length - j) ((0, r0 t)) ?_ ?_ ?_
  · exact ⟨inv0 t, Nat.zero_le _, rfl⟩
  · exact Gn.canon (J := []) (by first | rfl | (simp [List.append_nil]; done) | (simp [List.append_nil]; rfl)) (by simp [wk, slE, putT, kp, dd, sv, nl]) (by simp [len_objs]) (by simp [belT, bel_encE, bel_agE, bel_slE, bel_Es, len_objs, bel_objs', bel_slI, bel_slP, bel_slL, kp, dd, sv, nl]) (by simp [belT, bel_encE, bel_agE, bel_slE, bel_Es, len_objs, bel_objs', bel_slI, bel_slP, bel_slL])
  rintro ⟨j, r⟩ ⟨hi, hj, hk⟩
  (try simp only at hi hj hk)
  by_cases hlt : j < l.length
  case neg =>
    have hje : j = l.length := by omega
    subst hje
    rw [List.drop_length, chkG] at hk
    rw [← hk]
    simp (maxSteps := 2000000) -implicitDefEqProofs +contextual (disch := first | assumption | omega | decide +kernel) only [push_cast, ↓capI, br2_true, br2_false, frk_tt, frk_tf, frk_f, frkD_tt, frkD_tf, frkD_f, pk2_true, pk2_false, imp_true, seval, Nat.reduceLeDiff, Nat.reduceEqDiff, reduceCtorEq, ↓reduceIte, encE, agE, encT, cfg0, get_flat0 lenE, get_flat_part lenE, len_flat lenE, getO_end, setO_end, place_end, List.length_append]
    refine endK.ret ?_ (by first | rfl | simp [belT, bel_encE, bel_agE, bel_slE, bel_Es, len_objs, bel_objs', bel_slI, bel_slP, bel_slL]); simp [evRes, getT, retV, Tryz.f6,  encII]
  have hd : l.drop j = l[j] :: l.drop (j + 1) := List.drop_eq_getElem_cons hlt
  have hfit := hi.fit hf (by omega)
  have h32 := g32 r hfit l[j] hi.ok.pend _ rfl
  rw [hd, chkG] at hk
  simp (maxSteps := 2000000) -implicitDefEqProofs +contextual (disch := first | assumption | omega | decide +kernel) only [push_cast, ↓capI, br2_true, br2_false, frk_tt, frk_tf, frk_f, frkD_tt, frkD_tf, frkD_f, pk2_true, pk2_false, imp_true, seval, Nat.reduceLeDiff, Nat.reduceEqDiff, reduceCtorEq, ↓reduceIte, encE, agE, encT, cfg0, get_flat0 lenE, get_flat_part lenE, len_flat lenE, getO_end, setO_end, place_end, List.length_append]
  refine callO.app [.cells 0 (encE l[j])] h32 (by rfl) rfl app_ok bel_objs (by rfl) bel_objs ?_
  by_cases h0 : ckR r l[j] = 0
  · rw [if_pos h0] at hk
    rw [h0]
    have h33 := g33 r hfit hi.ok l[j] h0
    simp (maxSteps := 2000000) -implicitDefEqProofs +contextual (disch := first | assumption | omega | decide +kernel) only [push_cast, ↓capI, br2_true, br2_false, frk_tt, frk_tf, frk_f, frkD_tt, frkD_tf, frkD_f, pk2_true, pk2_false, imp_true, seval, Nat.reduceLeDiff, Nat.reduceEqDiff, reduceCtorEq, ↓reduceIte, encE, agE, encT, cfg0, get_flat0 lenE, get_flat_part lenE, len_flat lenE, getO_end, setO_end, place_end, List.length_append]
    refine callO.app [.cells 0 (encE l[j])] h33 (by rfl) apO_len app_ok bel_objs (by rfl) bel_apO ?_
    simp (maxSteps := 2000000) -implicitDefEqProofs +contextual (disch := first | assumption | omega | decide +kernel) only [push_cast, ↓capI, br2_true, br2_false, frk_tt, frk_tf, frk_f, frkD_tt, frkD_tf, frkD_f, pk2_true, pk2_false, imp_true, seval, Nat.reduceLeDiff, Nat.reduceEqDiff, reduceCtorEq, ↓reduceIte, encE, agE, encT, cfg0, get_flat0 lenE, get_flat_part lenE, len_flat lenE, getO_end, setO_end, place_end, List.length_append]
    refine ⟨(j + 1, apR r l[j]), ⟨inv_step hi h0, by (try simp only); omega, hk⟩, by (try simp only); omega, ?_⟩
    refine (Gn.canon (H := apO r l[j]) (J := [_]) (by rfl) (by simp [wk, slE]) (by rw [apO_len, len_objs, len_objs]; exact Nat.add_le_add_right (Nat.zero_le _) 3) (by rw [apO_len, len_objs]; simp [belT, bel_encE, bel_agE, bel_slE, bel_Es, len_objs, bel_objs', bel_slI, bel_slP, bel_slL]) (by rw [apO_len]; exact bel_apO)).trans apO_own
  · rw [if_neg h0] at hk
    rw [← hk]
    simp (maxSteps := 2000000) -implicitDefEqProofs +contextual (disch := first | assumption | omega | decide +kernel) only [push_cast, ↓capI, br2_true, br2_false, frk_tt, frk_tf, frk_f, frkD_tt, frkD_tf, frkD_f, pk2_true, pk2_false, imp_true, seval, Nat.reduceLeDiff, Nat.reduceEqDiff, reduceCtorEq, ↓reduceIte, encE, agE, encT, cfg0, get_flat0 lenE, get_flat_part lenE, len_flat lenE, getO_end, setO_end, place_end, List.length_append, h0]
    refine endK.ret ?_ (by first | rfl | simp [belT, bel_encE, bel_agE, bel_slE, bel_Es, len_objs, bel_objs', bel_slI, bel_slP, bel_slL]); simp [evRes, getT, retV, Tryz.f6,  encII]
end Go.Proofs.YtafongdfnpnneaaGreatDoor.Top

/- Chapter 53: Hops, by the program. -/
set_option maxRecDepth 100000
set_option maxHeartbeats 4000000
set_option linter.all false
namespace Go.Proofs.YtafongdfnpnneaaGreatDoor.Top
open Go.Vm

theorem bel_slH {n : Nat} (l : List Hp) : (slH l).bel n = true := by rw [slH, bel_sl]; exact bel_Hs l
theorem take_H {xs : List Hp} : (xs.flatMap encH).take (xs.length * 3) = xs.flatMap encH := by
  rw [List.take_of_length_le (by rw [len_flat lenH]; exact Nat.le_refl _)]
theorem run_end {rs : List ResultVar} {r : Rn} {p : Nat} {K hp : List Ob} {tm : List V} (hrs : rs = [.tmp 6]) (hn : p < r.n) (hh : hp = objs r ++ K) (hw : wk tm [.dead, .dead, .dead, .dead, .dead, .dead, .buf (p + 3) (r.pk p).hops.length 0 (r.pk p).hops.length 3, .dead, .dead, .dead, .dead, .dead, .dead, .dead, .dead, .dead, .dead, .dead, .dead, .dead, .dead, .dead, .dead, .dead, .dead, .dead, .dead, .dead, .dead, .dead, .dead, .dead, .dead, .dead, .dead, .dead, .dead, .dead, .dead, .dead, .dead, .dead, .dead, .dead, .dead, .dead, .dead, .dead]) : endK tt rs (slH (r.pk p).hops) .ret ⟨tm, hp⟩ := by
  subst hh hrs
  have hg : getO (objs r) (p + 3) = .cells (r.pk p).hops.length ((r.pk p).hops.flatMap encH) := by
    rw [objs]
    simp only [getO]
    rw [getO_tabN hn, hopO]
  refine endK.gn (Gn.canon (tm' := [.dead, .dead, .dead, .dead, .dead, .dead, .buf (p + 3) (r.pk p).hops.length 0 (r.pk p).hops.length 3, .dead, .dead, .dead, .dead, .dead, .dead, .dead, .dead, .dead, .dead, .dead, .dead, .dead, .dead, .dead, .dead, .dead, .dead, .dead, .dead, .dead, .dead, .dead, .dead, .dead, .dead, .dead, .dead, .dead, .dead, .dead, .dead, .dead, .dead, .dead, .dead, .dead, .dead, .dead, .dead, .dead]) (H := objs r) (J := K) rfl hw (Nat.zero_le _) (by rw [len_objs]; simp; omega) bel_objs) ?_
  refine endK.gn (Gn.freeze (id := p + 3) hg) ?_
  refine endK.ret ?_ (bel_slH _)
  simp [evRes, getT, retV, fzs, fz, beq_dec, take_H, slH]
theorem pc9 (t : Tp) (hf : t.fit) (hp : t.ports.length ≤ 4000000000) (l : List Ev) (hl : l.length ≤ 4000000) (id : Int) : PC Tryz.prog 9 [.agg (encT t), slE l, .int .i64 id] (slH (hopsEv t l id)) := by
  have h30 := pc15 t hf
  have h31 := pcj16 t hf hp
  by_cases hc : chk t = 0
  case neg =>
    rw [hopsEv, if_neg hc]
    have key : PC Tryz.prog 9 [.agg (encT t), slE l, .int .i64 id] (.sl true [] 0) := by
      refine PC.walk tok mixed cfg0 Tryz.func9 rfl Tryz.call9 (by simp [belT, bel_encE, bel_agE, bel_slE, bel_Es, len_objs, bel_objs', bel_slI, bel_slP, bel_slL]) (by first | rfl | simp [belT, bel_encE, bel_agE, bel_slE, bel_Es, len_objs, bel_objs', bel_slI, bel_slP, bel_slL]) ?_; simp (maxSteps := 2000000) -implicitDefEqProofs +contextual (disch := first | assumption | omega | decide +kernel) only [push_cast, ↓capI, br2_true, br2_false, frk_tt, frk_tf, frk_f, frkD_tt, frkD_tf, frkD_f, pk2_true, pk2_false, imp_true, seval, Nat.reduceLeDiff, Nat.reduceEqDiff, reduceCtorEq, ↓reduceIte, encE, agE, encT, cfg0, get_flat0 lenE, get_flat_part lenE, len_flat lenE, getO_end, setO_end, place_end, List.length_append, Tryz.ntmps9]
      refine callO.pc h30 ?_
      simp (maxSteps := 2000000) -implicitDefEqProofs +contextual (disch := first | assumption | omega | decide +kernel) only [push_cast, ↓capI, br2_true, br2_false, frk_tt, frk_tf, frk_f, frkD_tt, frkD_tf, frkD_f, pk2_true, pk2_false, imp_true, seval, Nat.reduceLeDiff, Nat.reduceEqDiff, reduceCtorEq, ↓reduceIte, encE, agE, encT, cfg0, get_flat0 lenE, get_flat_part lenE, len_flat lenE, getO_end, setO_end, place_end, List.length_append, hc]
      refine endK.ret ?_ (by first | rfl | simp [belT, bel_encE, bel_agE, bel_slE, bel_Es, len_objs, bel_objs', bel_slI, bel_slP, bel_slL]); simp [evRes, getT, retV, Tryz.f9]
    exact key.laxr
  rw [hopsEv, if_pos hc]
  rw [hc] at h30
  rw [objs_r0] at h31
  suffices key : PC Tryz.prog 9 [.agg (encT t), slE l, .int .i64 id] (if id < 0 ∨ ((runG (r0 t) l).n : Int) ≤ id then .sl true [] 0 else slH ((runG (r0 t) l).pk id.toNat).hops) by
    split at key
    · rename_i h
      rw [if_pos h]
      exact key.laxr
    · rename_i h
      rw [if_neg h]
      exact key
  refine PC.cutN tok mixed cfg0 2 Tryz.func9 rfl Tryz.call9 (by simp [belT, bel_encE, bel_agE, bel_slE, bel_Es, len_objs, bel_objs', bel_slI, bel_slP, bel_slL]) (by split; rfl; exact bel_slH _) ?_
  simp (maxSteps := 2000000) -implicitDefEqProofs +contextual (disch := first | assumption | omega | decide +kernel) only [push_cast, ↓capI, br2_true, br2_false, frk_tt, frk_tf, frk_f, frkD_tt, frkD_tf, frkD_f, pk2_true, pk2_false, imp_true, seval, Nat.reduceLeDiff, Nat.reduceEqDiff, reduceCtorEq, ↓reduceIte, encE, agE, encT, cfg0, get_flat0 lenE, get_flat_part lenE, len_flat lenE, getO_end, setO_end, place_end, List.length_append, Tryz.ntmps9, cutAt_z, cutAt_s]
  refine callO.pc h30 ?_
  simp (maxSteps := 2000000) -implicitDefEqProofs +contextual (disch := first | assumption | omega | decide +kernel) only [push_cast, ↓capI, br2_true, br2_false, frk_tt, frk_tf, frk_f, frkD_tt, frkD_tf, frkD_f, pk2_true, pk2_false, imp_true, seval, Nat.reduceLeDiff, Nat.reduceEqDiff, reduceCtorEq, ↓reduceIte, encE, agE, encT, cfg0, get_flat0 lenE, get_flat_part lenE, len_flat lenE, getO_end, setO_end, place_end, List.length_append, cutAt_z, cutAt_s]
  refine callO.pcj h31 ?_
  simp (maxSteps := 2000000) -implicitDefEqProofs +contextual (disch := first | assumption | omega | decide +kernel) only [push_cast, ↓capI, br2_true, br2_false, frk_tt, frk_tf, frk_f, frkD_tt, frkD_tf, frkD_f, pk2_true, pk2_false, imp_true, seval, Nat.reduceLeDiff, Nat.reduceEqDiff, reduceCtorEq, ↓reduceIte, encE, agE, encT, cfg0, get_flat0 lenE, get_flat_part lenE, len_flat lenE, getO_end, setO_end, place_end, List.length_append, cutAt_z, cutAt_s, V.sh, shs, shOs, Ob.sh, shI, shL, shP]
  refine cutK.gn (Gn.weak (tm' := [.dead, slE l, .int .i64 id, .dead, .dead, .dead, .dead, .ptr 1 0 0, .dead, .dead, .dead, .dead, .dead, .dead, .dead, .dead, .dead, .dead, .dead, .dead, .dead, .dead, .dead, .dead, .dead, .dead, .dead, .dead, .dead, .dead, .dead, .dead, .dead, .dead, .dead, .dead, .dead, .dead, .dead, .dead, .dead, .dead, .dead, .dead, .dead, .dead, .dead, .dead]) (by simp [wk, slE])) ?_
  refine cutK.gn (Gn.swap (i := 0) (j := 1) (Nat.zero_le _) (Nat.zero_le _) (by simp) (by simp)) ?_
  simp only [swpH, swp, rns, V.rn, rnOs, Ob.rn, Nat.beq, setO, getO, rnI, rnL, rnP, rnE]
  refine cutK.gn (Gn.swap (i := 1) (j := 2) (Nat.zero_le _) (Nat.zero_le _) (by simp) (by simp)) ?_
  simp only [swpH, swp, rns, V.rn, rnOs, Ob.rn, Nat.beq, setO, getO, rnI, rnL, rnP, rnE]
  refine cutK.gn (Gn.swap (i := 2) (j := 3) (Nat.zero_le _) (Nat.zero_le _) (by simp) (by simp)) ?_
  simp only [swpH, swp, rns, V.rn, rnOs, Ob.rn, Nat.beq, setO, getO, rnI, rnL, rnP, rnE]
  refine cutK.gn (Gn.canon (tm' := [.dead, slE l, .int .i64 id, .dead, .dead, .dead, .dead, .ptr 0 0 0, .dead, .dead, .dead, .dead, .dead, .dead, .dead, .dead, .dead, .dead, .dead, .dead, .dead, .dead, .dead, .dead, .dead, .dead, .dead, .dead, .dead, .dead, .dead, .dead, .dead, .dead, .dead, .dead, .dead, .dead, .dead, .dead, .dead, .dead, .dead, .dead, .dead, .dead, .dead, .dead]) (H := objs (r0 t)) (J := [_]) (by rfl) (by simp [wk, slE]) (Nat.zero_le _) (by simp [belT, bel_encE, bel_agE, bel_slE, bel_Es, len_objs, bel_objs', bel_slI, bel_slP, bel_slL]) bel_objs) ?_
  refine cutK.go (cfg := cfg0) tok mixed ?_
  simp (maxSteps := 2000000) -implicitDefEqProofs +contextual (disch := first | assumption | omega | decide +kernel) only [push_cast, ↓capI, br2_true, br2_false, frk_tt, frk_tf, frk_f, frkD_tt, frkD_tf, frkD_f, pk2_true, pk2_false, imp_true, seval, Nat.reduceLeDiff, Nat.reduceEqDiff, reduceCtorEq, ↓reduceIte, encE, agE, encT, cfg0, get_flat0 lenE, get_flat_part lenE, len_flat lenE, getO_end, setO_end, place_end, List.length_append, slE]
  refine T.lp tok mixed cfg0 (fun ((j, r) : Nat × Rn) => dd 2 (kp 1 (dd 4 (kp 1 (dd 7 (kp 2 (sv (.int .i64 j) (dd 30 (nl))))))))) (fun H0 ((j, r) : Nat × Rn) => objs r) (fun ((j, r) : Nat × Rn) => r.inv t j ∧ j ≤ l.length ∧ runG r (l.drop j) = runG (r0 t) l) (fun ((j, r) : Nat × Rn) => l.length - j) ((0, r0 t)) ?_ ?_ ?_
  · exact ⟨inv0 t, Nat.zero_le _, rfl⟩
  · exact Gn.canon (J := []) (by first | rfl | (simp [List.append_nil]; done) | (simp [List.append_nil]; rfl)) (by simp [wk, slE, putT, kp, dd, sv, nl]) (by simp [len_objs]) (by simp [belT, bel_encE, bel_agE, bel_slE, bel_Es, len_objs, bel_objs', bel_slI, bel_slP, bel_slL, kp, dd, sv, nl]) (by simp [belT, bel_encE, bel_agE, bel_slE, bel_Es, len_objs, bel_objs', bel_slI, bel_slP, bel_slL])
  rintro ⟨j, r⟩ ⟨hi, hj, hk⟩
  (try simp only at hi hj hk)
  have hfit := hi.fit hf (by omega)
  have hfn := hfit.n
  by_cases hlt : j < l.length
  case neg =>
    have hje : j = l.length := by omega
    subst hje
    rw [List.drop_length, runG] at hk
    rw [← hk]
    by_cases hid : id < 0
    · simp (maxSteps := 2000000) -implicitDefEqProofs +contextual (disch := first | assumption | omega | decide +kernel) only [push_cast, ↓capI, br2_true, br2_false, frk_tt, frk_tf, frk_f, frkD_tt, frkD_tf, frkD_f, pk2_true, pk2_false, imp_true, seval, Nat.reduceLeDiff, Nat.reduceEqDiff, reduceCtorEq, ↓reduceIte, encE, agE, encT, cfg0, get_flat0 lenE, get_flat_part lenE, len_flat lenE, getO_end, setO_end, place_end, List.length_append, hid]
      refine endK.ret ?_ (by first | rfl | simp [belT, bel_encE, bel_agE, bel_slE, bel_Es, len_objs, bel_objs', bel_slI, bel_slP, bel_slL]); simp [evRes, getT, retV, Tryz.f9,  hid]
    by_cases hid2 : (r.n : Int) ≤ id
    · simp (maxSteps := 2000000) -implicitDefEqProofs +contextual (disch := first | assumption | omega | decide +kernel) only [push_cast, ↓capI, br2_true, br2_false, frk_tt, frk_tf, frk_f, frkD_tt, frkD_tf, frkD_f, pk2_true, pk2_false, imp_true, seval, Nat.reduceLeDiff, Nat.reduceEqDiff, reduceCtorEq, ↓reduceIte, encE, agE, encT, cfg0, get_flat0 lenE, get_flat_part lenE, len_flat lenE, getO_end, setO_end, place_end, List.length_append, objs, runC, slI, slP, encK, get_flat_part lenK, get_flat_drop lenK, len_flat lenK, get_flat0 lenK, get_flat lenK, get_at lenK, get_at0 lenK, get_at2 lenK, List.append_assoc, setO_tabK, pks_get, pks_len, tab_length, hid, hid2]
      refine endK.ret ?_ (by first | rfl | simp [belT, bel_encE, bel_agE, bel_slE, bel_Es, len_objs, bel_objs', bel_slI, bel_slP, bel_slL]); simp [evRes, getT, retV, Tryz.f9,  hid, hid2]
    obtain ⟨p, hp⟩ : ∃ p : Nat, id = p := ⟨id.toNat, by omega⟩
    subst hp
    have hn : p < r.n := by omega
    have hpl : p < (pks r).length := by rw [pks_len]; exact hn
    simp (maxSteps := 2000000) -implicitDefEqProofs +contextual (disch := first | assumption | omega | decide +kernel) only [push_cast, ↓capI, br2_true, br2_false, frk_tt, frk_tf, frk_f, frkD_tt, frkD_tf, frkD_f, pk2_true, pk2_false, imp_true, seval, Nat.reduceLeDiff, Nat.reduceEqDiff, reduceCtorEq, ↓reduceIte, encE, agE, encT, cfg0, get_flat0 lenE, get_flat_part lenE, len_flat lenE, getO_end, setO_end, place_end, List.length_append, objs, runC, slI, slP, encK, get_flat_part lenK, get_flat_drop lenK, len_flat lenK, get_flat0 lenK, get_flat lenK, get_at lenK, get_at0 lenK, get_at2 lenK, List.append_assoc, setO_tabK, pks_get, pks_len, tab_length, hid, hid2]
    rw [if_neg (by simp)]
    refine run_end (K := []) rfl hn ?_ (by simp [wk, slE])
    rw [List.append_nil]; rfl
  have hd : l.drop j = l[j] :: l.drop (j + 1) := List.drop_eq_getElem_cons hlt
  have h32 := g32 r hfit l[j] hi.ok.pend _ rfl
  rw [hd, runG] at hk
  simp (maxSteps := 2000000) -implicitDefEqProofs +contextual (disch := first | assumption | omega | decide +kernel) only [push_cast, ↓capI, br2_true, br2_false, frk_tt, frk_tf, frk_f, frkD_tt, frkD_tf, frkD_f, pk2_true, pk2_false, imp_true, seval, Nat.reduceLeDiff, Nat.reduceEqDiff, reduceCtorEq, ↓reduceIte, encE, agE, encT, cfg0, get_flat0 lenE, get_flat_part lenE, len_flat lenE, getO_end, setO_end, place_end, List.length_append]
  refine callO.app [.cells 0 (encE l[j])] h32 (by rfl) rfl app_ok bel_objs (by rfl) bel_objs ?_
  by_cases h0 : ckR r l[j] = 0
  · rw [if_pos h0] at hk
    rw [h0]
    have h33 := g33 r hfit hi.ok l[j] h0
    simp (maxSteps := 2000000) -implicitDefEqProofs +contextual (disch := first | assumption | omega | decide +kernel) only [push_cast, ↓capI, br2_true, br2_false, frk_tt, frk_tf, frk_f, frkD_tt, frkD_tf, frkD_f, pk2_true, pk2_false, imp_true, seval, Nat.reduceLeDiff, Nat.reduceEqDiff, reduceCtorEq, ↓reduceIte, encE, agE, encT, cfg0, get_flat0 lenE, get_flat_part lenE, len_flat lenE, getO_end, setO_end, place_end, List.length_append]
    refine callO.app [.cells 0 (encE l[j])] h33 (by rfl) apO_len app_ok bel_objs (by rfl) bel_apO ?_
    simp (maxSteps := 2000000) -implicitDefEqProofs +contextual (disch := first | assumption | omega | decide +kernel) only [push_cast, ↓capI, br2_true, br2_false, frk_tt, frk_tf, frk_f, frkD_tt, frkD_tf, frkD_f, pk2_true, pk2_false, imp_true, seval, Nat.reduceLeDiff, Nat.reduceEqDiff, reduceCtorEq, ↓reduceIte, encE, agE, encT, cfg0, get_flat0 lenE, get_flat_part lenE, len_flat lenE, getO_end, setO_end, place_end, List.length_append]
    refine ⟨(j + 1, apR r l[j]), ⟨inv_step hi h0, by (try simp only); omega, hk⟩, by (try simp only); omega, ?_⟩
    refine (Gn.canon (H := apO r l[j]) (J := [_]) (by rfl) (by simp [wk, slE]) (by rw [apO_len, len_objs, len_objs]; exact Nat.add_le_add_right (Nat.zero_le _) 3) (by rw [apO_len, len_objs]; simp [belT, bel_encE, bel_agE, bel_slE, bel_Es, len_objs, bel_objs', bel_slI, bel_slP, bel_slL]) (by rw [apO_len]; exact bel_apO)).trans apO_own
  · rw [if_neg h0] at hk
    rw [← hk]
    by_cases hid : id < 0
    · simp (maxSteps := 2000000) -implicitDefEqProofs +contextual (disch := first | assumption | omega | decide +kernel) only [push_cast, ↓capI, br2_true, br2_false, frk_tt, frk_tf, frk_f, frkD_tt, frkD_tf, frkD_f, pk2_true, pk2_false, imp_true, seval, Nat.reduceLeDiff, Nat.reduceEqDiff, reduceCtorEq, ↓reduceIte, encE, agE, encT, cfg0, get_flat0 lenE, get_flat_part lenE, len_flat lenE, getO_end, setO_end, place_end, List.length_append, h0, hid]
      refine endK.ret ?_ (by first | rfl | simp [belT, bel_encE, bel_agE, bel_slE, bel_Es, len_objs, bel_objs', bel_slI, bel_slP, bel_slL]); simp [evRes, getT, retV, Tryz.f9,  hid]
    by_cases hid2 : (r.n : Int) ≤ id
    · simp (maxSteps := 2000000) -implicitDefEqProofs +contextual (disch := first | assumption | omega | decide +kernel) only [push_cast, ↓capI, br2_true, br2_false, frk_tt, frk_tf, frk_f, frkD_tt, frkD_tf, frkD_f, pk2_true, pk2_false, imp_true, seval, Nat.reduceLeDiff, Nat.reduceEqDiff, reduceCtorEq, ↓reduceIte, encE, agE, encT, cfg0, get_flat0 lenE, get_flat_part lenE, len_flat lenE, getO_end, setO_end, place_end, List.length_append, h0, objs, runC, slI, slP, encK, get_flat_part lenK, get_flat_drop lenK, len_flat lenK, get_flat0 lenK, get_flat lenK, get_at lenK, get_at0 lenK, get_at2 lenK, List.append_assoc, setO_tabK, pks_get, pks_len, tab_length, hid, hid2]
      refine endK.ret ?_ (by first | rfl | simp [belT, bel_encE, bel_agE, bel_slE, bel_Es, len_objs, bel_objs', bel_slI, bel_slP, bel_slL]); simp [evRes, getT, retV, Tryz.f9,  hid, hid2]
    obtain ⟨p, hp⟩ : ∃ p : Nat, id = p := ⟨id.toNat, by omega⟩
    subst hp
    have hn : p < r.n := by omega
    have hpl : p < (pks r).length := by rw [pks_len]; exact hn
    simp (maxSteps := 2000000) -implicitDefEqProofs +contextual (disch := first | assumption | omega | decide +kernel) only [push_cast, ↓capI, br2_true, br2_false, frk_tt, frk_tf, frk_f, frkD_tt, frkD_tf, frkD_f, pk2_true, pk2_false, imp_true, seval, Nat.reduceLeDiff, Nat.reduceEqDiff, reduceCtorEq, ↓reduceIte, encE, agE, encT, cfg0, get_flat0 lenE, get_flat_part lenE, len_flat lenE, getO_end, setO_end, place_end, List.length_append, h0, objs, runC, slI, slP, encK, get_flat_part lenK, get_flat_drop lenK, len_flat lenK, get_flat0 lenK, get_flat lenK, get_at lenK, get_at0 lenK, get_at2 lenK, List.append_assoc, setO_tabK, pks_get, pks_len, tab_length, hid, hid2]
    rw [if_neg (by simp)]
    refine run_end (K := [.cells 0 (encE l[j])]) rfl hn ?_ (by simp [wk, slE])
    rfl
end Go.Proofs.YtafongdfnpnneaaGreatDoor.Top


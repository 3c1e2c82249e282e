/-
  Chapter 45: Restrict of the program and of the reference.
-/
import Derived.Test.YtlbmbbaefncleaaGreatDoorRp
import Derived.Test.YtlbmbbaefncleaaGreatDoorSel
set_option maxRecDepth 100000
set_option maxHeartbeats 4000000
set_option linter.all false
namespace Go.Proofs.YtlbmbbaefncleaaGreatDoor
open Go.Vm
theorem flat_inj : ∀ {p q : Pd.Pr} {r s : List Pd.Nd}, Pd.okP p → Pd.okP q → Pd.flat p ++ r = Pd.flat q ++ s → p = q ∧ r = s
 | .leaf x, q, r, s, hp, hq, h => by
  cases q with
  | leaf y => simp only [Pd.flat, List.cons_append, List.nil_append, List.cons.injEq] at h; rw [h.1, h.2]; exact ⟨rfl, rfl⟩
  | un y q =>
   simp only [Pd.flat, List.cons_append, List.nil_append, List.cons.injEq] at h
   have h1 := hp.1
   have h2 := hq.1
   rw [h.1] at h1
   omega
  | bin y q q' =>
   simp only [Pd.flat, List.cons_append, List.nil_append, List.cons.injEq] at h
   have h1 := hp.1
   have h2 := hq.1
   rw [h.1] at h1
   omega
 | .un x p, q, r, s, hp, hq, h => by
  cases q with
  | leaf y =>
   simp only [Pd.flat, List.cons_append, List.nil_append, List.cons.injEq] at h
   have h1 := hp.1
   have h2 := hq.1
   rw [h.1] at h1
   omega
  | un y q =>
   simp only [Pd.flat, List.cons_append, List.cons.injEq] at h
   obtain ⟨h1, h2⟩ := flat_inj hp.2 hq.2 h.2
   rw [h.1, h1, h2]; exact ⟨rfl, rfl⟩
  | bin y q q' =>
   simp only [Pd.flat, List.cons_append, List.cons.injEq] at h
   have h1 := hp.1
   have h2 := hq.1
   rw [h.1] at h1
   omega
 | .bin x p p', q, r, s, hp, hq, h => by
  cases q with
  | leaf y =>
   simp only [Pd.flat, List.cons_append, List.nil_append, List.cons.injEq] at h
   have h1 := hp.1
   have h2 := hq.1
   rw [h.1] at h1
   omega
  | un y q =>
   simp only [Pd.flat, List.cons_append, List.cons.injEq] at h
   have h1 := hp.1
   have h2 := hq.1
   rw [h.1] at h1
   omega
  | bin y q q' =>
   simp only [Pd.flat, List.cons_append, List.append_assoc, List.cons.injEq] at h
   obtain ⟨h1, h2⟩ := flat_inj hp.2.1 hq.2.1 h.2
   obtain ⟨h3, h4⟩ := flat_inj hp.2.2 hq.2.2 h2
   rw [h.1, h1, h3, h4]; exact ⟨rfl, rfl⟩
theorem evD_flat {f : Pd.Fl} {p : Pd.Pr} (hp : Pd.okP p) (h : Pd.checkP (Pd.flat p) = 0) : evD f (Pd.flat p) = Pd.evP f p := by
 rcases evD_spec f (Pd.flat p) with ⟨_, q, hq, e, hb⟩ | ⟨h0, _⟩
 ·obtain ⟨rfl, _⟩ := flat_inj (r := []) (s := []) hp hq (by rw [List.append_nil, List.append_nil]; exact e)
  exact hb
 ·exact absurd h h0
theorem evD_bad {f : Pd.Fl} {l : List Pd.Nd} (h : Pd.checkP l ≠ 0) : evD f l = false := by
 rcases evD_spec f l with ⟨h0, _⟩ | ⟨_, hb⟩
 ·exact absurd h0 h
 ·exact hb
def andN : Pd.Nd := ⟨5, 0, 0, 0⟩
def keepR (n : List Pd.Nd) (r : Ru) : Bool := decide (Pd.checkP r.p = 0) && decide (1 + r.p.length + n.length ≤ 24)
def andR (n : List Pd.Nd) (r : Ru) : Ru := { r with p := andN :: (r.p ++ n) }
def rstR (n : List Pd.Nd) (l : List Ru) : List Ru := if Pd.checkP n = 0 then (l.filter (keepR n)).map (andR n) else []
theorem evD_and {f : Pd.Fl} {p n : List Pd.Nd} (hp : Pd.checkP p = 0) (hn : Pd.checkP n = 0) (hl : 1 + p.length + n.length ≤ 24) : evD f (andN :: (p ++ n)) = (evD f p && evD f n) := by
 obtain ⟨_, P, hP, rfl⟩ := Pd.checkP_tree hp
 obtain ⟨_, N, hN, rfl⟩ := Pd.checkP_tree hn
 have e : andN :: (Pd.flat P ++ Pd.flat N) = Pd.flat (.bin andN P N) := by simp [Pd.flat]
 have hok : Pd.okP (.bin andN P N) := ⟨.inl rfl, hP, hN⟩
 rw [e, evD_flat hok (Pd.tree_checkP hok (by rw [← e]; simp; omega)), evD_flat hP hp, evD_flat hN hn, Pd.evP, if_pos (show andN.op = 5 from rfl)]
theorem hit_and {h : Int} {f : Pd.Fl} {n : List Pd.Nd} {r : Ru} (hn : Pd.checkP n = 0) (hk : keepR n r = true) : hitR h f (andR n r) = (hitR h f r && evD f n) := by
 simp only [keepR, Bool.and_eq_true, decide_eq_true_eq] at hk
 rw [hitR, hitR, andR, evD_and hk.1 hn hk.2, Bool.and_assoc]
theorem sel_rst {h : Int} {f : Pd.Fl} {n : List Pd.Nd} {l : List Ru} (hs : (selR h f (rstR n l)).2 = true) : (selR h f l).2 = true ∧ evD f n = true := by
 unfold rstR at hs
 split at hs
 ·rename_i hn
  have key : ∀ m : List Ru, (selR h f m).2 = true ↔ ∃ r ∈ m, hitR h f r = true := by
   intro m
   induction m with
   | nil => simp [selR]
   | cons x m ih =>
    rw [selR]
    split
    ·rename_i h1
     simp [h1]
    ·rename_i h1
     split
     ·rename_i h2
      obtain ⟨r, hr, hh⟩ := ih.1 h2
      exact ⟨fun _ => ⟨r, List.mem_cons_of_mem _ hr, hh⟩, fun _ => rfl⟩
     ·rename_i h2
      simp only [Bool.false_eq_true, false_iff]
      rintro ⟨r, hr, hh⟩
      rcases List.mem_cons.1 hr with rfl | hr
      ·exact h1 hh
      ·exact h2 (ih.2 ⟨r, hr, hh⟩)
  obtain ⟨r, hr, hh⟩ := (key _).1 hs
  obtain ⟨q, hq, rfl⟩ := List.mem_map.1 hr
  obtain ⟨hq1, hq2⟩ := List.mem_filter.1 hq
  rw [hit_and hn hq2, Bool.and_eq_true] at hh
  exact ⟨(key _).2 ⟨q, hq1, hh.1⟩, hh.2⟩
 ·simp [selR] at hs
theorem and_enc : Pd.slN [andN] = .sl false [.int .i64 5, .int .i64 0, .int .u8 0, .int .u8 0] 1 := rfl
theorem rst_flat {n : List Pd.Nd} {l : List Ru} {i : Nat} (h : i < l.length) : ((l.take (i + 1)).filter (keepR n)).map (andR n) = ((l.take i).filter (keepR n)).map (andR n) ++ if keepR n l[i] = true then [andR n l[i]] else [] := by
 rw [List.take_succ_eq_append_getElem h, List.filter_append, List.map_append]
 congr 1
 rw [List.filter_cons, List.filter_nil]
 split <;> rfl
def firstR (n : List Pd.Nd) (l : List Ru) (i : Nat) : List Ru := ((l.take i).filter (keepR n)).map (andR n)
theorem first0 {n : List Pd.Nd} {l : List Ru} : firstR n l 0 = [] := rfl
theorem first_yes {n : List Pd.Nd} {l : List Ru} {i : Nat} (h : i < l.length) (hk : keepR n l[i] = true) : firstR n l (i + 1) = firstR n l i ++ [andR n l[i]] := by
 rw [firstR, rst_flat h, if_pos hk]; rfl
theorem first_no {n : List Pd.Nd} {l : List Ru} {i : Nat} (h : i < l.length) (hk : ¬ keepR n l[i] = true) : firstR n l (i + 1) = firstR n l i := by
 rw [firstR, rst_flat h, if_neg hk, List.append_nil]; rfl
theorem first_len {n : List Pd.Nd} {l : List Ru} {i : Nat} : (firstR n l i).length ≤ i := by
 rw [firstR, List.length_map]
 exact Nat.le_trans (List.length_filter_le _ _) (by rw [List.length_take]; omega)
attribute [local push_cast] encR slR cfg0 gfp_lenR gfd_lenR lfl_lenR Nat.mul_one Pd.slN Px.slN
theorem pc26 (l : List Ru) (n : List Pd.Nd) (hl : l.length ≤ 1000) (hs : smR l) (hn : n.length ≤ 100000) : PC Tryz.prog 26 [slR l, Pd.slN n] (slR (rstR n l)) := by
 by_cases h0 : Pd.checkP n = 0
 case neg =>
  have : PC Tryz.prog 26 [slR l, Pd.slN n] (.sl true [] 0) := by
   refine PC.walk tok mixed cfg0 Tryz.func26 rfl Tryz.call26 (by simp [Pd.bel_slN, Px.bel_slN, Pd.bel_Ns, Px.bel_Ns, belAll_append]) (by first | rfl | simp [Pd.bel_slN, Px.bel_slN, Pd.bel_Ns, Px.bel_Ns, belAll_append]) ?_; refine vms2 (len_flat Pd.lenN) Tryz.ntmps26 ?_
   refine callO.pc (Pd.pc55 n (by omega)) ?_
   refine vms2 (len_flat Pd.lenN) h0 ?_
   refine endK.ret ?_ (by first | rfl | simp [Pd.bel_slN, Px.bel_slN, Pd.bel_Ns, Px.bel_Ns, belAll_append]); simp [evRes, getT, retV, Tryz.f26]
  rw [rstR, if_neg h0]
  exact PC.laxr this
 rw [rstR, if_pos h0]
 refine PC.walk tok mixed cfg0 Tryz.func26 rfl Tryz.call26 (by simp [Pd.bel_slN, Px.bel_slN, Pd.bel_Ns, Px.bel_Ns, belAll_append]) (by first | rfl | simp [Pd.bel_slN, Px.bel_slN, Pd.bel_Ns, Px.bel_Ns, belAll_append]) ?_; refine vms2 (len_flat Pd.lenN) Tryz.ntmps26 ?_
 refine callO.pc (Pd.pc55 n (by omega)) ?_
 refine vms2 (len_flat Pd.lenN) h0 ?_
 refine T.lp tok mixed cfg0 (fun ((i, v) : Nat × Nat) => dd 1 (kp 1 (dd 3 (sv (.buf 0 v 0 (firstR n l i).length 4) (dd 6 (kp 2 (sv (.int .i64 i) (dd 33 (nl))))))))) (fun H0 ((i, v) : Nat × Nat) => [.cells v ((firstR n l i).flatMap encR)]) (fun ((i, v) : Nat × Nat) => i ≤ l.length) (fun ((i, v) : Nat × Nat) => l.length - i) ((0, 0)) ?_ ?_ ?_
 ·exact Nat.zero_le _
 ·refine (Gn.ownNil (t := 5) (sz := 4) rfl).trans ?_
  exact Gn.canon (J := []) (by first | rfl | (simp [List.append_nil]; done) | (simp [List.append_nil]; rfl)) (by simp [wk, slR, sum0, Pd.slN, Px.slN, first0, putT, kp, dd, sv, nl]) (by simp [List.length_append]) (by simp [Pd.bel_slN, Px.bel_slN, Pd.bel_Ns, Px.bel_Ns, belAll_append, kp, dd, sv, nl]) (by simp [Pd.bel_slN, Px.bel_slN, Pd.bel_Ns, Px.bel_Ns, belAll_append])
 rintro ⟨i, v⟩ hi
 by_cases hlt : i < l.length
 case neg =>
  have hi' : i = l.length := by simp only at hi hlt; omega
  subst hi'
  have e : firstR n l l.length = (l.filter (keepR n)).map (andR n) := by rw [firstR, List.take_length]
  simp (maxSteps := 2000000) -implicitDefEqProofs +contextual (disch := first | assumption | omega | decide +kernel) only [push_cast, ↓capI, seval, Nat.reduceLeDiff, Nat.reduceEqDiff, reduceCtorEq, ↓reduceIte, len_flat Pd.lenN, e]
  refine endK.gn (Gn.freeze (id := 0) rfl) ?_; refine endK.ret ?_ (by first | rfl | simp [Pd.bel_slN, Px.bel_slN, Pd.bel_Ns, Px.bel_Ns, belAll_append]); simp [Pd.bel_slN, Px.bel_slN, Pd.bel_Ns, Px.bel_Ns, belAll_append, fzs_ok, imp, lenOK_iff, List.take_of_length_le, evRes, getT, getO, setO, fzs, fz, fzH, Nat.beq, retV, Res.then, ldT, ldR, mkV, getV, tt_3, tt_4, tt_5, tt_9, tt_22, tt_25, tt_54, tt_58, tt_60, tt_104, tt_176, encR, slR, cfg0, get_flat_part lenR, get_flat_drop lenR, len_flat lenR, len_flat Pd.lenN, Nat.mul_one, Pd.slN, Px.slN, Tryz.f26,  take_R, e]
 have hm := hs _ (List.getElem_mem hlt)
 have hfl := first_len (n := n) (l := l) (i := i)
 have hlen := len_flat lenR (firstR n l i)
 refine vms2 (len_flat Pd.lenN) hlt ?_
 refine callO.pc (Pd.pc55 l[i].p (by omega)) ?_
 by_cases hc : Pd.checkP l[i].p = 0
 case neg =>
  have hk : ¬ keepR n l[i] = true := by simp [keepR, hc]
  refine vms3 (len_flat Pd.lenN) hlt hc ?_
  refine ⟨(i + 1, v), by simp only; omega, by (try simp only); omega, ?_⟩; exact Gn.canon (by first | rfl | (simp [List.append_nil, first_no hlt hk]; rfl)) (by simp [wk, slR, sum0, Pd.slN, Px.slN, first0, first_no hlt hk]) (by simp [List.length_append]) (by simp [Pd.bel_slN, Px.bel_slN, Pd.bel_Ns, Px.bel_Ns, belAll_append]) (by simp [Pd.bel_slN, Px.bel_slN, Pd.bel_Ns, Px.bel_Ns, belAll_append])
 by_cases hz : 1 + l[i].p.length + n.length ≤ 24
 case neg =>
  have hk : ¬ keepR n l[i] = true := by simp [keepR, hz]
  have hz' : 24 < 1 + l[i].p.length + n.length := by omega
  refine vms4 (len_flat Pd.lenN) hlt hc hz' ?_
  refine ⟨(i + 1, v), by simp only; omega, by (try simp only); omega, ?_⟩; exact Gn.canon (by first | rfl | (simp [List.append_nil, first_no hlt hk]; rfl)) (by simp [wk, slR, sum0, Pd.slN, Px.slN, first0, first_no hlt hk]) (by simp [List.length_append]) (by simp [Pd.bel_slN, Px.bel_slN, Pd.bel_Ns, Px.bel_Ns, belAll_append]) (by simp [Pd.bel_slN, Px.bel_slN, Pd.bel_Ns, Px.bel_Ns, belAll_append])
 have hk : keepR n l[i] = true := by simp [keepR, hc, hz]
 have h65 := pc65 [[andN], l[i].p, n] (by simp) (by simp [sumRP]; omega)
 have e65 : [[andN], l[i].p, n].flatten = andN :: (l[i].p ++ n) := by simp
 rw [e65] at h65
 have e1 := first_yes hlt hk
 refine vms4 (len_flat Pd.lenN) hlt hc hz ?_
 refine callO.pc (pc64 l[i] hm.1 hm.2) ?_
 refine vms4 (len_flat Pd.lenN) hlt hc hz ?_
 refine callO.pc h65 ?_
 have hw : (andN :: (l[i].p ++ n)).length = 1 + l[i].p.length + n.length := by simp; omega
 refine vms5 (len_flat Pd.lenN) hlt hc hz hlen ?_
 refine ⟨(i + 1, v + 1), by simp only; omega, by (try simp only); omega, ?_⟩; exact Gn.canon (by first | rfl | (simp [List.append_nil, e1, encR, andR, Pd.slN, Px.slN]; rfl)) (by simp [wk, slR, sum0, Pd.slN, Px.slN, first0, e1, encR, andR, Pd.slN, Px.slN]) (by simp [List.length_append]) (by simp [Pd.bel_slN, Px.bel_slN, Pd.bel_Ns, Px.bel_Ns, belAll_append]) (by simp [Pd.bel_slN, Px.bel_slN, Pd.bel_Ns, Px.bel_Ns, belAll_append])
end Go.Proofs.YtlbmbbaefncleaaGreatDoor

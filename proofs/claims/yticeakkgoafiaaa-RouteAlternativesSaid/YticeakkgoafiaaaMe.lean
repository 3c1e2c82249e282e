/-
  Joined by a program from the texts Lvp Ptp Mcn Bls Bfs Rt.
-/
import Derived.Test.YticeakkgoafiaaaMb
import Derived.Test.YticeakkgoafiaaaMc
import Derived.Test.YticeakkgoafiaaaMd
import Derived.Below
import Derived.Test.YticeakkgoafiaaaMa
/- Chapter 42: languages of states; live states (plain). -/
set_option maxRecDepth 100000
set_option maxHeartbeats 4000000
set_option linter.all false
namespace Go.Proofs.Yticeakkgoafiaaa
open Go.Vm
def La (t : Tb) (q : Int) (l : List Int) : Bool := accq t (runA t q l)
theorem La_nil {t : Tb} {q : Int} : La t q [] = accq t q := rfl
theorem La_cons {t : Tb} {q s : Int} {l : List Int} : La t q (s :: l) = La t (suc t q s) l := rfl
theorem suc_neg {t : Tb} {q s : Int} (h : q < 0) : suc t q s = -1 := by rw [suc, if_pos (.inl h)]
theorem La_neg {t : Tb} : ∀ {l : List Int} {q : Int}, q < 0 → La t q l = false
 | [], q, h => by rw [La_nil, accq, decide_eq_false (by omega), Bool.false_and]
 | s :: l, q, h => by rw [La_cons, suc_neg h]; exact La_neg (by decide)
def Dd (t : Tb) (q : Int) : Prop := ∀ l, La t q l = false
def Eq2 (t : Tb) (q : Int) (t' : Tb) (q' : Int) : Prop := ∀ l, La t q l = La t' q' l
theorem Eq2.suc {t t' : Tb} {q q' : Int} (h : Eq2 t q t' q') (s : Int) : Eq2 t (Go.Proofs.Yticeakkgoafiaaa.suc t q s) t' (Go.Proofs.Yticeakkgoafiaaa.suc t' q' s) := fun l => h (s :: l)
theorem Eq2.dd {t t' : Tb} {q q' : Int} (h : Eq2 t q t' q') : Dd t q ↔ Dd t' q' :=
 ⟨fun hd l => by rw [← h l]; exact hd l, fun hd l => by rw [h l]; exact hd l⟩
theorem Eq2.symm {t t' : Tb} {q q' : Int} (h : Eq2 t q t' q') : Eq2 t' q' t q := fun l => (h l).symm
theorem Eq2.trans {t t' t'' : Tb} {q q' q'' : Int} (h : Eq2 t q t' q') (h' : Eq2 t' q' t'' q'') : Eq2 t q t'' q'' := fun l => (h l).trans (h' l)
theorem Dd.neg {t : Tb} {q : Int} (h : q < 0) : Dd t q := fun _ => La_neg h
theorem Dd.suc {t : Tb} {q : Int} (h : Dd t q) (s : Int) : Dd t (Go.Proofs.Yticeakkgoafiaaa.suc t q s) := fun l => h (s :: l)
theorem eq2_dd {t t' : Tb} {q q' : Int} (h : Dd t q) (h' : Dd t' q') : Eq2 t q t' q' := fun l => by rw [h l, h' l]
section
variable {n m : Nat} {t : Tb} (ht : okT n m t)
include ht
theorem suc_at {q : Nat} (hq : q < n) {s : Nat} (hs : s < m) : suc t q s = gI (t.next.getD q []) s := by
 have hl := ht.rows
 have hr := ht.row _ (getRow0 hl hq)
 rw [suc, if_neg]
 ·rw [Int.toNat_natCast]
 ·rw [Int.toNat_natCast, hr]; omega
 where
 getRow0 {n : Nat} {q : Nat} (hl : t.next.length = n) (hq : q < n) : t.next.getD q [] ∈ t.next := by
  rw [List.getD_eq_getElem?_getD, List.getElem?_eq_getElem (by omega)]
  exact List.getElem_mem _
theorem row_mem {q : Nat} (hq : q < n) : t.next.getD q [] ∈ t.next := by
 have hl := ht.rows
 rw [List.getD_eq_getElem?_getD, List.getElem?_eq_getElem (by omega)]
 exact List.getElem_mem _
theorem row_len {q : Nat} (hq : q < n) : (t.next.getD q []).length = m := ht.row _ (row_mem ht hq)
theorem suc_out {q s : Int} (hq : q < (n : Int)) (hs : s < 0 ∨ (m : Int) ≤ s) : suc t q s = -1 := by
 by_cases h0 : q < 0
 ·exact suc_neg h0
 ·rw [suc, if_pos]
  have := row_len ht (q := q.toNat) (by omega)
  rw [this]
  omega
def Lok (t : Tb) (n : Nat) (o : List Bool) : Prop := (∀ q, q < n → o.getD q false = true → ¬ Dd t q) ∧ (∀ q, q < n → t.acc.getD q false = true → o.getD q false = true) ∧ o.length = n
theorem getD_set {o : List Bool} {q k : Nat} (hq : q < o.length) : (o.set q true).getD k false = if q = k then true else o.getD k false := by
 rw [List.getD_eq_getElem?_getD, List.getD_eq_getElem?_getD, List.getElem?_set]
 by_cases h : q = k
 ·subst h; simp [hq]
 ·simp [h]
theorem toL_live {o : List Bool} (ho : Lok t n o) {q : Nat} (hq : q < n) (h : toL o (t.next.getD q []) = true) : ¬ Dd t q := by
 rw [toL, List.any_eq_true] at h
 obtain ⟨x, hx, h⟩ := h
 simp only [Bool.and_eq_true, decide_eq_true_eq] at h
 obtain ⟨j, hj, e⟩ := List.getElem_of_mem hx
 have hm := row_len ht hq
 have hxr := ht.rng _ (row_mem ht hq) x hx
 have hs := suc_at ht hq (s := j) (by omega)
 have hg : gI (t.next.getD q []) (j : Int) = x := by
  rw [gI, Int.toNat_natCast, List.getD_eq_getElem?_getD, List.getElem?_eq_getElem hj]; exact e
 rw [hg] at hs
 intro hd
 refine ho.1 x.toNat (by omega) h.2 ?_
 rw [show ((x.toNat : Nat) : Int) = x from by omega, ← hs]
 exact hd.suc j
theorem liveN_ok {o : List Bool} (ho : Lok t n o) : ∀ k, k ≤ n → Lok t n (liveN t o k).1
 | 0, _ => ho
 | k + 1, hk => by
  have ih := liveN_ok ho k (by omega)
  rw [liveN, liveI]
  split
  ·rename_i h
   have hl := ih.2.2
   have hg := fun j => getD_set ht (o := (liveN t o k).1) (q := k) (k := j) (by omega)
   refine ⟨fun q hq hb => ?_, fun q hq ha => ?_, by rw [List.length_set]; exact hl⟩
   ·simp only at hb
    rw [hg] at hb
    split at hb
    ·rename_i e; subst e; exact toL_live ht ih hq h.2
    ·exact ih.1 q hq hb
   ·simp only
    rw [hg]
    split
    ·rfl
    ·exact ih.2.1 q hq ha
  ·exact ih
theorem liveN_same {o : List Bool} : ∀ k, (liveN t o k).2 = false → (liveN t o k).1 = o ∧ ∀ q, q < k → o.getD q false = false → toL o (t.next.getD q []) = false
 | 0, _ => ⟨rfl, fun q h => by omega⟩
 | k + 1, h => by
  rw [liveN, liveI] at h ⊢
  split at h
  ·cases h
  ·rename_i hc
   obtain ⟨h1, h2⟩ := liveN_same k h
   rw [if_neg hc]
   refine ⟨h1, fun q hq hf => ?_⟩
   by_cases e : q = k
   ·subst e
    rw [h1] at hc
    cases hb : toL o (t.next.getD q []) with
    | false => rfl
    | true => exact absurd ⟨hf, hb⟩ hc
   ·exact h2 q (by omega) hf
theorem liveF_ok : ∀ (k : Nat) (o : List Bool), Lok t n o → cntF o < k → Lok t n (liveF t k o) ∧ ∀ q, q < n → (liveF t k o).getD q false = false → toL (liveF t k o) (t.next.getD q []) = false
 | 0, o, _, h => by omega
 | k + 1, o, ho, hk => by
  have hp : Lok t n (pass t o).1 := by
   have := liveN_ok ht ho n (Nat.le_refl _)
   rwa [pass, ht.rows]
  have hstep := liveF_step t (k := k + 1) (o := o) (by rw [ht.rows, ho.2.2]; exact Nat.le_refl _) hk
  rw [liveF]
  split
  ·rename_i h
   have hl := (hstep.1 h).1
   exact liveF_ok k _ hp (by omega)
  ·rename_i h
   rw [Bool.not_eq_true] at h
   refine ⟨hp, ?_⟩
   rw [pass] at h ⊢
   obtain ⟨h1, h2⟩ := liveN_same ht _ h
   rw [h1]
   intro q hq
   exact h2 q (by rw [ht.rows]; exact hq)
theorem live_iff {q : Nat} (hq : q < n) : (liveS t).getD q false = true ↔ ¬ Dd t q := by
 have h0 : Lok t n t.acc := by
  refine ⟨fun q hq h hd => ?_, fun q _ h => h, ht.accs⟩
  have := hd []
  rw [La_nil, accq, gB, Int.toNat_natCast, h, decide_eq_true (by omega)] at this
  cases this
 obtain ⟨h1, h2⟩ := liveF_ok ht (cntF t.acc + 1) t.acc h0 (by omega)
 rw [← liveS] at h1 h2
 refine ⟨h1.1 q hq, fun hn => ?_⟩
 cases hb : (liveS t).getD q false with
 | true => rfl
 | false =>
  exfalso
  refine hn ?_
  have key : ∀ (l : List Int) (q : Int), -1 ≤ q ∧ q < (n : Int) → (0 ≤ q → (liveS t).getD q.toNat false = false) → La t q l = false := by
   intro l
   induction l with
   | nil =>
    intro q hq hf
    by_cases h0 : 0 ≤ q
    ·rw [La_nil, accq, gB]
     cases hacc : t.acc.getD q.toNat false with
     | false => rw [Bool.and_false]
     | true =>
      have := h1.2.1 q.toNat (by omega) hacc
      rw [hf h0] at this
      cases this
    ·exact La_neg (by omega)
   | cons s l ih =>
    intro q hq hf
    rw [La_cons]
    refine ih _ (suc_rng ht hq) fun hs => ?_
    by_cases h0 : 0 ≤ q
    ·have hd := h2 q.toNat (by omega) (hf h0)
     by_cases hsm : 0 ≤ s ∧ s < (m : Int)
     ·have e := suc_at ht (q := q.toNat) (by omega) (s := s.toNat) (by omega)
      rw [show ((q.toNat : Nat) : Int) = q from by omega, show ((s.toNat : Nat) : Int) = s from by omega] at e
      have hm := row_len ht (q := q.toNat) (by omega)
      have hmem : gI (t.next.getD q.toNat []) s ∈ t.next.getD q.toNat [] := by
       have hsl : s.toNat < (t.next.getD q.toNat []).length := by omega
       rw [gI, lgetD hsl]
       exact List.getElem_mem _
      rw [toL, List.any_eq_false] at hd
      have := hd _ hmem
      rw [← e] at this
      cases hg : gB (liveS t) (suc t q s) with
      | false => exact hg
      | true => rw [hg, decide_eq_true hs] at this; exact absurd rfl this
     ·rw [suc_out ht hq.2 (by omega)] at hs
      omega
    ·rw [suc_neg (by omega)] at hs
     omega
  intro l
  exact key l q (by omega) (fun _ => by rw [Int.toNat_natCast]; exact hb)
end
end Go.Proofs.Yticeakkgoafiaaa

/- Chapter 42: classes of states (plain). -/
set_option maxRecDepth 100000
set_option maxHeartbeats 4000000
set_option linter.all false
namespace Go.Proofs.Yticeakkgoafiaaa
open Go.Vm
def clx (c : List Int) (x : Int) : Int := if 0 ≤ x then gI c x else -1
theorem sig_eq {c row : List Int} {q : Nat} : sigO c row q = c.getD q 0 :: row.map (clx c) := rfl
theorem clx_nat {c : List Int} {q : Nat} : clx c q = c.getD q 0 := by rw [clx, if_pos (by omega), gI, Int.toNat_natCast]
theorem clx_neg {c : List Int} {x : Int} (h : x < 0) : clx c x = -1 := by rw [clx, if_neg (by omega)]
structure Crs (n : Nat) (t : Tb) (c : List Int) : Prop where
 len : c.length = n
 rng : ∀ q, q < n → -1 ≤ c.getD q 0
 dd : ∀ q, q < n → (c.getD q 0 = -1 ↔ Dd t q)
 snd : ∀ q q', q < n → q' < n → Eq2 t q t q' → c.getD q 0 = c.getD q' 0
 acc : ∀ q q', q < n → q' < n → c.getD q 0 = c.getD q' 0 → t.acc.getD q false = t.acc.getD q' false
structure Good (n : Nat) (t : Tb) (c : List Int) : Prop where
 len : c.length = n
 dd : ∀ x : Int, -1 ≤ x → x < (n : Int) → (clx c x < 0 ↔ Dd t x)
 eq : ∀ x y : Int, -1 ≤ x → x < (n : Int) → -1 ≤ y → y < (n : Int) → (clx c x = clx c y ↔ Eq2 t x t y)
theorem head_inj {l : List Int} {cnt : Nat} (hl : l.length = cnt) (h : ∀ k, k < cnt → ((k : Nat) : Int) ∈ l) {i j : Nat} (hi : i < l.length) (hj : j < l.length) (e : l[i]? = l[j]?) : i = j := by
 by_cases hij : i = j
 ·exact hij
 exfalso
 have := len_sub (L := (List.range cnt).map fun (k : Nat) => (k : Int)) (D := l.eraseIdx j) (map_nodup (fun a b e => by omega) List.nodup_range) (fun x hx => by
  obtain ⟨k, hk, rfl⟩ := List.mem_map.1 hx
  rw [List.mem_range] at hk
  obtain ⟨u, hu, eu⟩ := List.getElem_of_mem (h k hk)
  rw [List.mem_eraseIdx_iff_getElem?]
  by_cases huj : u = j
  ·refine ⟨i, hij, ?_⟩
   rw [e, ← huj, List.getElem?_eq_getElem hu, eu]
  ·exact ⟨u, huj, by rw [List.getElem?_eq_getElem hu, eu]⟩)
 rw [List.length_map, List.length_range, List.length_eraseIdx, if_pos hj] at this
 omega
theorem refN_at (t : Tb) (c : List Int) : ∀ k q, q < k → (c.getD q 0 < 0 → (refN t c k).1.getD q 0 = -1) ∧ (¬ c.getD q 0 < 0 → ∃ j : Nat, (refN t c k).1.getD q 0 = (j : Int) ∧ (refN t c k).2[j]? = some (sigO c (t.next.getD q []) q))
 | 0, q, h => by omega
 | k + 1, q, h => by
  have hl := refN_len t c k
  have ih := refN_at t c k q
  have hlt : ∀ x : Int, q < k → ((refN t c k).1 ++ [x]).getD q 0 = (refN t c k).1.getD q 0 := fun x hq => by
   rw [List.getD_eq_getElem?_getD, List.getD_eq_getElem?_getD, List.getElem?_append_left (by omega)]
  have heq : ∀ x : Int, q = k → ((refN t c k).1 ++ [x]).getD q 0 = x := fun x hq => by
   rw [List.getD_eq_getElem?_getD, List.getElem?_append_right (by omega), show q - (refN t c k).1.length = 0 from by omega]; rfl
  by_cases hq : q < k
  ·have ih := ih hq
   have hs : ∀ (j : Nat) (y : List (List Int)) (z : List Int), (refN t c k).2[j]? = some z → ((refN t c k).2 ++ y)[j]? = some z := fun j y z hj => by
    rw [List.getElem?_append_left (List.getElem?_eq_some_iff.1 hj).1]; exact hj
   rw [refN, refI]
   split
   ·simp only [hlt _ hq]; exact ih
   ·split
    ·simp only [hlt _ hq]; exact ih
    ·simp only [hlt _ hq]
     refine ⟨ih.1, fun hn => ?_⟩
     obtain ⟨j, h1, h2⟩ := ih.2 hn
     exact ⟨j, h1, hs j _ _ h2⟩
  ·have hqk : q = k := by omega
   rw [refN, refI]
   split
   ·rename_i hn
    rw [← hqk] at hn
    exact ⟨fun _ => heq _ hqk, fun h => absurd hn h⟩
   ·rename_i hn
    rw [← hqk] at hn
    split
    ·rename_i j hj
     simp only [heq _ hqk]
     refine ⟨fun h => absurd h hn, fun _ => ⟨j, rfl, ?_⟩⟩
     rw [hqk]
     exact idxL_some hj
    ·simp only [heq _ hqk]
     refine ⟨fun h => absurd h hn, fun _ => ⟨_, rfl, ?_⟩⟩
     rw [List.getElem?_append_right (Nat.le_refl _), Nat.sub_self, hqk]
     first | rfl | trivial | simp
section
variable {n m : Nat} {t : Tb} (ht : okT n m t)
include ht
theorem clx_eq {c : List Int} (hc : Crs n t c) {x y : Int} (hx : -1 ≤ x ∧ x < (n : Int)) (hy : -1 ≤ y ∧ y < (n : Int)) (h : Eq2 t x t y) : clx c x = clx c y := by
 have aux : ∀ z : Int, -1 ≤ z ∧ z < (n : Int) → Dd t z → clx c z = -1 := fun z hz hd => by
  by_cases h0 : 0 ≤ z
  ·obtain ⟨k, rfl⟩ : ∃ k : Nat, z = k := ⟨z.toNat, by omega⟩
   rw [clx_nat]
   exact (hc.dd k (by omega)).2 hd
  ·exact clx_neg (by omega)
 by_cases hd : Dd t x
 ·rw [aux x hx hd, aux y hy (h.dd.1 hd)]
 ·have hx0 : 0 ≤ x := by
   by_cases h0 : 0 ≤ x
   ·exact h0
   ·exact absurd (Dd.neg (by omega)) hd
  have hy0 : 0 ≤ y := by
   by_cases h0 : 0 ≤ y
   ·exact h0
   ·exact absurd (h.dd.2 (Dd.neg (by omega))) hd
  obtain ⟨k, rfl⟩ : ∃ k : Nat, x = k := ⟨x.toNat, by omega⟩
  obtain ⟨j, rfl⟩ : ∃ j : Nat, y = j := ⟨y.toNat, by omega⟩
  rw [clx_nat, clx_nat]
  exact hc.snd k j (by omega) (by omega) h
theorem sig_same {c : List Int} (hc : Crs n t c) {q q' : Nat} (hq : q < n) (hq' : q' < n) (h : Eq2 t q t q') : sigO c (t.next.getD q []) q = sigO c (t.next.getD q' []) q' := by
 rw [sig_eq, sig_eq, hc.snd q q' hq hq' h]
 congr 1
 have l1 := row_len ht hq
 have l2 := row_len ht hq'
 refine List.ext_getElem (by simp only [List.length_map]; omega) fun j h1 h2 => ?_
 rw [List.length_map] at h1 h2
 rw [List.getElem_map, List.getElem_map]
 have e1 := suc_at ht hq (s := j) (by omega)
 have e2 := suc_at ht hq' (s := j) (by omega)
 rw [gI, Int.toNat_natCast, lgetD h1] at e1
 rw [gI, Int.toNat_natCast, lgetD h2] at e2
 rw [← e1, ← e2]
 exact clx_eq ht hc (suc_rng ht ⟨by omega, by omega⟩) (suc_rng ht ⟨by omega, by omega⟩) (h.suc j)
theorem ref_at (c : List Int) {q : Nat} (hq : q < n) : (c.getD q 0 < 0 → (ref t c).1.getD q 0 = -1) ∧ (¬ c.getD q 0 < 0 → ∃ j : Nat, (ref t c).1.getD q 0 = (j : Int) ∧ (ref t c).2[j]? = some (sigO c (t.next.getD q []) q)) := by
 rw [ref]
 exact refN_at t c _ q (by rw [ht.rows]; exact hq)
theorem ref_sig (c : List Int) {q q' : Nat} (hq : q < n) (hq' : q' < n) (h0 : ¬ c.getD q 0 < 0) (h0' : ¬ c.getD q' 0 < 0) :
  (ref t c).1.getD q 0 = (ref t c).1.getD q' 0 ↔ sigO c (t.next.getD q []) q = sigO c (t.next.getD q' []) q' := by
 obtain ⟨j, h1, h2⟩ := (ref_at ht c hq).2 h0
 obtain ⟨j', h1', h2'⟩ := (ref_at ht c hq').2 h0'
 rw [h1, h1']
 constructor
 ·intro e
  have : j = j' := by omega
  subst this
  rw [h2] at h2'
  exact Option.some.inj h2'
 ·intro e
  rw [← e, ← h2] at h2'
  have hn := (refN_ok t c t.next.length).nodup
  rw [show refN t c t.next.length = ref t c from rfl] at hn
  have hj := (List.getElem?_eq_some_iff.1 h2).1
  have := (List.getElem?_inj hj hn).1 h2'.symm
  rw [this]
theorem ref_crs {c : List Int} (hc : Crs n t c) : Crs n t (ref t c).1 := by
 have hneg : ∀ q, q < n → (c.getD q 0 < 0 ↔ Dd t q) := fun q hq => by
  rw [← hc.dd q hq]
  have := hc.rng q hq
  omega
 refine ⟨by rw [ref_len, ht.rows], fun q hq => ?_, fun q hq => ?_, fun q q' hq hq' h => ?_, fun q q' hq hq' h => ?_⟩
 ·by_cases h0 : c.getD q 0 < 0
  ·rw [(ref_at ht c hq).1 h0]; omega
  ·obtain ⟨j, h1, _⟩ := (ref_at ht c hq).2 h0
   rw [h1]; omega
 ·rw [← hneg q hq]
  by_cases h0 : c.getD q 0 < 0
  ·rw [(ref_at ht c hq).1 h0]; exact ⟨fun _ => h0, fun _ => rfl⟩
  ·obtain ⟨j, h1, _⟩ := (ref_at ht c hq).2 h0
   rw [h1]
   constructor
   ·intro h; omega
   ·intro h; exact absurd h h0
 ·by_cases h0 : c.getD q 0 < 0
  ·have h0' : c.getD q' 0 < 0 := by rw [hneg q' hq', ← h.dd, ← hneg q hq]; exact h0
   rw [(ref_at ht c hq).1 h0, (ref_at ht c hq').1 h0']
  ·have h0' : ¬ c.getD q' 0 < 0 := by rw [hneg q' hq', ← h.dd, ← hneg q hq]; exact h0
   exact (ref_sig ht c hq hq' h0 h0').2 (sig_same ht hc hq hq' h)
 ·by_cases h0 : c.getD q 0 < 0
  ·have h0' : c.getD q' 0 < 0 := by
    by_cases h1 : c.getD q' 0 < 0
    ·exact h1
    ·obtain ⟨j, h2, _⟩ := (ref_at ht c hq').2 h1
     rw [(ref_at ht c hq).1 h0, h2] at h
     omega
   have a1 := ((hneg q hq).1 h0) []
   have a2 := ((hneg q' hq').1 h0') []
   rw [La_nil, accq, gB, Int.toNat_natCast, decide_eq_true (by omega), Bool.true_and] at a1 a2
   rw [a1, a2]
  ·have h0' : ¬ c.getD q' 0 < 0 := fun h1 => by
    obtain ⟨j, h2, _⟩ := (ref_at ht c hq).2 h0
    rw [(ref_at ht c hq').1 h1, h2] at h
    omega
   have := (ref_sig ht c hq hq' h0 h0').1 h
   rw [sig_eq, sig_eq] at this
   injection this with h3 _
   exact hc.acc q q' hq hq' h3
theorem ref_good {c : List Int} (hc : Crs n t c) {cnt : Nat} (hm : ∀ k, k < cnt → ((k : Nat) : Int) ∈ c) (he : (ref t c).2.length = cnt) : Good n t (ref t c).1 := by
 have hr := ref_crs ht hc
 have hneg : ∀ q, q < n → (c.getD q 0 < 0 ↔ Dd t q) := fun q hq => by
  rw [← hc.dd q hq]
  have := hc.rng q hq
  omega
 -- states of one class look alike
 have stable : ∀ q q', q < n → q' < n → ¬ c.getD q 0 < 0 → c.getD q 0 = c.getD q' 0 → sigO c (t.next.getD q []) q = sigO c (t.next.getD q' []) q' := by
  intro q q' hq hq' h0 e
  have h0' : ¬ c.getD q' 0 < 0 := by rw [← e]; exact h0
  obtain ⟨j, _, h2⟩ := (ref_at ht c hq).2 h0
  obtain ⟨j', _, h2'⟩ := (ref_at ht c hq').2 h0'
  have hj := (List.getElem?_eq_some_iff.1 h2).1
  have hj' := (List.getElem?_eq_some_iff.1 h2').1
  have hl : ((ref t c).2.map fun s => s.headD 0).length = cnt := by rw [List.length_map, he]
  have hall : ∀ k, k < cnt → ((k : Nat) : Int) ∈ (ref t c).2.map fun s => s.headD 0 := fun k hk => by
   obtain ⟨u, hu, eu⟩ := List.getElem_of_mem (hm k hk)
   have hg : c.getD u 0 = (k : Int) := by rw [lgetD hu]; exact eu
   have hun : u < n := by rw [← hc.len]; exact hu
   obtain ⟨i, _, h4⟩ := (ref_at ht c hun).2 (by rw [hg]; omega)
   refine List.mem_map.2 ⟨_, List.mem_of_getElem? h4, ?_⟩
   rw [sig_eq, hg]; rfl
  have := head_inj hl hall (i := j) (j := j') (by rw [List.length_map]; exact hj) (by rw [List.length_map]; exact hj') (by
   rw [List.getElem?_map, List.getElem?_map, h2, h2', Option.map_some, Option.map_some, sig_eq, sig_eq, e]; rfl)
  subst this
  rw [h2] at h2'
  exact Option.some.inj h2'
 have key : ∀ (l : List Int) (x y : Int), -1 ≤ x ∧ x < (n : Int) → -1 ≤ y ∧ y < (n : Int) → clx c x = clx c y → La t x l = La t y l := by
  have cdd : ∀ z : Int, -1 ≤ z ∧ z < (n : Int) → clx c z < 0 → Dd t z := fun z hz h => by
   by_cases h0 : 0 ≤ z
   ·obtain ⟨k, rfl⟩ : ∃ k : Nat, z = k := ⟨z.toNat, by omega⟩
    rw [clx_nat] at h
    exact (hneg k (by omega)).1 h
   ·exact Dd.neg (by omega)
  intro l
  induction l with
  | nil =>
   intro x y hx hy h
   by_cases h0 : clx c x < 0
   ·rw [cdd x hx h0 [], cdd y hy (by rw [← h]; exact h0) []]
   ·have hx0 : 0 ≤ x := by
     by_cases h1 : 0 ≤ x
     ·exact h1
     ·rw [clx_neg (by omega)] at h0; omega
    have hy0 : 0 ≤ y := by
     by_cases h1 : 0 ≤ y
     ·exact h1
     ·rw [h, clx_neg (by omega)] at h0; omega
    obtain ⟨k, rfl⟩ : ∃ k : Nat, x = k := ⟨x.toNat, by omega⟩
    obtain ⟨j, rfl⟩ : ∃ j : Nat, y = j := ⟨y.toNat, by omega⟩
    rw [clx_nat, clx_nat] at h
    have := hc.acc k j (by omega) (by omega) h
    rw [La_nil, La_nil, accq, accq, gB, gB, Int.toNat_natCast, Int.toNat_natCast, this, decide_eq_true (by omega), decide_eq_true (by omega)]
  | cons s l ih =>
   intro x y hx hy h
   by_cases h0 : clx c x < 0
   ·rw [cdd x hx h0 _, cdd y hy (by rw [← h]; exact h0) _]
   ·have hx0 : 0 ≤ x := by
     by_cases h1 : 0 ≤ x
     ·exact h1
     ·rw [clx_neg (by omega)] at h0; omega
    have hy0 : 0 ≤ y := by
     by_cases h1 : 0 ≤ y
     ·exact h1
     ·rw [h, clx_neg (by omega)] at h0; omega
    obtain ⟨k, rfl⟩ : ∃ k : Nat, x = k := ⟨x.toNat, by omega⟩
    obtain ⟨j, rfl⟩ : ∃ j : Nat, y = j := ⟨y.toNat, by omega⟩
    have hkn : k < n := by omega
    have hjn : j < n := by omega
    rw [La_cons, La_cons]
    refine ih _ _ (suc_rng ht hx) (suc_rng ht hy) ?_
    by_cases hsm : 0 ≤ s ∧ s < (m : Int)
    ·obtain ⟨u, rfl⟩ : ∃ u : Nat, s = u := ⟨s.toNat, by omega⟩
     rw [clx_nat] at h0
     rw [clx_nat, clx_nat] at h
     have hst := stable k j hkn hjn h0 h
     rw [sig_eq, sig_eq] at hst
     injection hst with _ hst
     have l1 := row_len ht hkn
     have l2 := row_len ht hjn
     have e1 := suc_at ht hkn (s := u) (by omega)
     have e2 := suc_at ht hjn (s := u) (by omega)
     have h1 : u < (t.next.getD k []).length := by omega
     have h2 : u < (t.next.getD j []).length := by omega
     rw [gI, Int.toNat_natCast, lgetD h1] at e1
     rw [gI, Int.toNat_natCast, lgetD h2] at e2
     rw [e1, e2]
     have := congrArg (fun z => z[u]?) hst
     simp only [List.getElem?_map, List.getElem?_eq_getElem h1, List.getElem?_eq_getElem h2, Option.map_some, Option.some.injEq] at this
     exact this
    ·rw [suc_out ht hx.2 (by omega), suc_out ht hy.2 (by omega)]
 have hdd : ∀ x : Int, -1 ≤ x → x < (n : Int) → (clx (ref t c).1 x < 0 ↔ Dd t x) := fun x h1 h2 => by
  by_cases h0 : 0 ≤ x
  ·obtain ⟨k, rfl⟩ : ∃ k : Nat, x = k := ⟨x.toNat, by omega⟩
   rw [clx_nat, ← hr.dd k (by omega)]
   have := hr.rng k (by omega)
   omega
  ·exact ⟨fun _ => Dd.neg (by omega), fun _ => by rw [clx_neg (by omega)]; decide⟩
 refine ⟨hr.len, hdd, fun x y hx1 hx2 hy1 hy2 => ⟨fun h => ?_, fun h => clx_eq ht hr ⟨hx1, hx2⟩ ⟨hy1, hy2⟩ h⟩⟩
 by_cases h0 : clx (ref t c).1 x < 0
 ·exact eq2_dd ((hdd x hx1 hx2).1 h0) ((hdd y hy1 hy2).1 (by rw [← h]; exact h0))
 ·have hx0 : 0 ≤ x := by
   by_cases h1 : 0 ≤ x
   ·exact h1
   ·rw [clx_neg (by omega)] at h0; omega
  have hy0 : 0 ≤ y := by
   by_cases h1 : 0 ≤ y
   ·exact h1
   ·rw [h, clx_neg (by omega)] at h0; omega
  have hdx := fun hd => h0 ((hdd x hx1 hx2).2 hd)
  have hdy := fun hd => h0 (by rw [h]; exact (hdd y hy1 hy2).2 hd)
  obtain ⟨k, rfl⟩ : ∃ k : Nat, x = k := ⟨x.toNat, by omega⟩
  obtain ⟨j, rfl⟩ : ∃ j : Nat, y = j := ⟨y.toNat, by omega⟩
  rw [clx_nat, clx_nat] at h
  have hs := (ref_sig ht c (by omega) (by omega) (fun hn => hdx ((hneg k (by omega)).1 hn)) (fun hn => hdy ((hneg j (by omega)).1 hn))).1 h
  rw [sig_eq, sig_eq] at hs
  injection hs with hs _
  exact fun l => key l k j ⟨hx1, hx2⟩ ⟨hy1, hy2⟩ (by rw [clx_nat, clx_nat]; exact hs)
theorem cls0_crs : Crs n t (cls0 t) := by
 have hat : ∀ q, q < n → (cls0 t).getD q 0 = if (liveS t).getD q false = false then -1 else if t.acc.getD q false = true then 1 else 0 := fun q hq => by
  have hr := ht.rows
  rw [List.getD_eq_getElem?_getD, cls0, List.getElem?_map, List.getElem?_range (by omega)]
  rfl
 have hlv := fun q (hq : q < n) => live_iff ht hq
 have hacc : ∀ q, q < n → Dd t q → t.acc.getD q false = false := fun q hq hd => by
  have a1 := hd []
  rwa [La_nil, accq, gB, Int.toNat_natCast, decide_eq_true (by omega), Bool.true_and] at a1
 have hdd : ∀ q, q < n → ((cls0 t).getD q 0 = -1 ↔ Dd t q) := fun q hq => by
  rw [hat q hq]
  split
  ·rename_i h
   refine ⟨fun _ => Classical.byContradiction fun hn => ?_, fun _ => rfl⟩
   rw [(hlv q hq).2 hn] at h
   cases h
  ·rename_i h
   rw [Bool.not_eq_false] at h
   have := (hlv q hq).1 h
   split <;> exact ⟨fun e => by omega, fun hd => absurd hd this⟩
 refine ⟨by simp [cls0, ht.rows], fun q hq => ?_, hdd, fun q q' hq hq' h => ?_, fun q q' hq hq' h => ?_⟩
 ·rw [hat q hq]
  split
  ·omega
  ·split <;> omega
 ·by_cases hd : Dd t q
  ·rw [(hdd q hq).2 hd, (hdd q' hq').2 (h.dd.1 hd)]
  ·have hd' : ¬ Dd t q' := fun h2 => hd (h.dd.2 h2)
   have h0 := h []
   rw [La_nil, La_nil, accq, accq, gB, gB, Int.toNat_natCast, Int.toNat_natCast, decide_eq_true (by omega), decide_eq_true (by omega), Bool.true_and, Bool.true_and] at h0
   rw [hat q hq, hat q' hq', (hlv q hq).2 hd, (hlv q' hq').2 hd', h0]
 ·by_cases hd : Dd t q
  ·have hd' : Dd t q' := (hdd q' hq').1 (by rw [← h]; exact (hdd q hq).2 hd)
   rw [hacc q hq hd, hacc q' hq' hd']
  ·have hd' : ¬ Dd t q' := fun h2 => hd ((hdd q hq).1 (by rw [h]; exact (hdd q' hq').2 h2))
   rw [hat q hq, hat q' hq', (hlv q hq).2 hd, (hlv q' hq').2 hd'] at h
   simp only [Bool.true_eq_false, if_false] at h
   cases h1 : t.acc.getD q false <;> cases h2 : t.acc.getD q' false <;> rw [h1, h2] at h <;> first | rfl | (simp at h)
theorem parF_good : ∀ (k : Nat) (c : List Int) (cnt : Nat), Crs n t c → (∀ j, j < cnt → ((j : Nat) : Int) ∈ c) → n + 1 ≤ k + cnt → 0 < k → Good n t (parF t k c cnt)
 | 0, c, cnt, _, _, _, h => by omega
 | k + 1, c, cnt, hc, hm, hk, _ => by
  rw [parF]
  split
  ·rename_i he
   exact ref_good ht hc hm he
  ·rename_i hne
   have h1 := ref_ge t c (by rw [hc.len, ht.rows]) hm
   have h2 := ref_le t c
   rw [ht.rows] at h2
   have hok := refN_ok t c t.next.length
   exact parF_good k _ _ (ref_crs ht hc) hok.met (by omega) (by omega)
theorem parS_good : Good n t (parS t) := parF_good ht _ _ _ (cls0_crs ht) (fun j h => by omega) (by rw [ht.rows]; omega) (by omega)
end
def parK (t : Tb) : Nat → List Int → Nat → Nat
 | 0, _, cnt => cnt
 | k + 1, c, cnt => if (ref t c).2.length = cnt then cnt else parK t k (ref t c).1 (ref t c).2.length
def cntS (t : Tb) : Nat := parK t (t.next.length + 2) (cls0 t) 0
theorem parK_ge (t : Tb) : ∀ (k : Nat) (c : List Int) (cnt : Nat), c.length = t.next.length → (∀ j, j < cnt → ((j : Nat) : Int) ∈ c) → cnt ≤ parK t k c cnt
 | 0, _, _, _, _ => Nat.le_refl _
 | k + 1, c, cnt, hl, hm => by
  rw [parK]
  split
  ·exact Nat.le_refl _
  ·have h1 := ref_ge t c hl hm
   exact Nat.le_trans h1 (parK_ge t k _ _ (ref_len t c) (refN_ok t c t.next.length).met)
theorem parK_rng (t : Tb) : ∀ (k : Nat) (c : List Int) (cnt : Nat), c.length = t.next.length → (∀ j, j < cnt → ((j : Nat) : Int) ∈ c) → t.next.length + 1 ≤ k + cnt → 0 < k → (∀ x ∈ parF t k c cnt, x < (parK t k c cnt : Int)) ∧ (∀ j, j < parK t k c cnt → ((j : Nat) : Int) ∈ parF t k c cnt) ∧ parK t k c cnt ≤ t.next.length
 | 0, _, _, _, _, _, h => by omega
 | k + 1, c, cnt, hl, hm, hk, _ => by
  have h1 := ref_ge t c hl hm
  have h2 := ref_le t c
  have hok := refN_ok t c t.next.length
  rw [parK, parF]
  by_cases he : (ref t c).2.length = cnt
  ·rw [if_pos he, if_pos he]
   refine ⟨fun x hx => ?_, fun j hj => hok.met j (by rw [← he] at hj; exact hj), by omega⟩
   have := (hok.rng x hx).2
   rw [show refN t c t.next.length = ref t c from rfl, he] at this
   exact this
  ·rw [if_neg he, if_neg he]
   exact parK_rng t k _ _ (ref_len t c) hok.met (by omega) (by omega)
theorem cntS_rng (t : Tb) : (∀ x ∈ parS t, x < (cntS t : Int)) ∧ (∀ j, j < cntS t → ((j : Nat) : Int) ∈ parS t) ∧ cntS t ≤ t.next.length :=
 parK_rng t _ _ _ (by simp [cls0]) (fun j h => by omega) (by omega) (by omega)
end Go.Proofs.Yticeakkgoafiaaa

/- Chapter 42: the minimal table depends on the language alone (plain). -/
set_option maxRecDepth 100000
set_option maxHeartbeats 4000000
set_option linter.all false
namespace Go.Proofs.Yticeakkgoafiaaa
open Go.Vm
theorem idx_sim {a b : Int} : ∀ {l l' : List Int}, l.length = l'.length → (∀ i, i < l.length → (l.getD i 0 = a ↔ l'.getD i 0 = b)) → idxI a l = idxI b l'
 | [], [], _, _ => rfl
 | [], _ :: _, h, _ => by simp at h
 | _ :: _, [], h, _ => by simp at h
 | x :: l, y :: l', h, hi => by
  have h0 := hi 0 (by simp)
  simp only [List.getD_cons_zero] at h0
  have ih := idx_sim (l := l) (l' := l') (by simpa using h) (fun i hl => by simpa using hi (i + 1) (by simpa using hl))
  simp only [idxI]
  by_cases e : a = x
  ·rw [if_pos e, if_pos (h0.1 e.symm).symm]
  ·rw [if_neg e, if_neg (fun e2 => e (h0.2 e2.symm).symm), ih]
theorem mr_cond {c : List Int} {x : Int} : (x < 0 ∨ gI c x < 0) ↔ clx c x < 0 := by
 rw [clx]
 by_cases h : 0 ≤ x
 ·rw [if_pos h]; omega
 ·rw [if_neg h]; omega
theorem clx_gI {c : List Int} {x : Int} (h : 0 ≤ x) : clx c x = gI c x := by rw [clx, if_pos h]
theorem getD_map {c : List Int} {o : List Int} {i : Nat} (hi : i < o.length) : (o.map (gI c)).getD i 0 = gI c (o.getD i 0) := by
 rw [lgetD (by rw [List.length_map]; exact hi), lgetD hi, List.getElem_map]
theorem getD_mem {o : List Int} {i : Nat} (hi : i < o.length) : o.getD i 0 ∈ o := by
 rw [lgetD hi]; exact List.getElem_mem _
theorem getD_left {o : List Int} {y : Int} {i : Nat} (hi : i < o.length) : (o ++ [y]).getD i 0 = o.getD i 0 := by
 rw [List.getD_eq_getElem?_getD, List.getD_eq_getElem?_getD, List.getElem?_append_left hi]
theorem getD_last {o : List Int} {y : Int} : (o ++ [y]).getD o.length 0 = y := by
 rw [List.getD_eq_getElem?_getD, List.getElem?_append_right (Nat.le_refl _), Nat.sub_self]; rfl
section
variable {n n' m : Nat} {t t' : Tb} (ht : okT n m t) (ht' : okT n' m t') {c c' : List Int} (hc : Good n t c) (hc' : Good n' t' c')
include ht ht' hc hc'
def Sim (t t' : Tb) (o o' : List Int) : Prop := o.length = o'.length ∧ ∀ i, i < o.length → Eq2 t (o.getD i 0) t' (o'.getD i 0)
theorem mrI_sim {o o' r : List Int} (ho : Ook n c o) (ho' : Ook n' c' o') (hs : Sim t t' o o') {x x' : Int} (hx : -1 ≤ x ∧ x < (n : Int)) (hx' : -1 ≤ x' ∧ x' < (n' : Int)) (he : Eq2 t x t' x') :
  Sim t t' (mrI c x (o, r)).1 (mrI c' x' (o', r)).1 ∧ (mrI c x (o, r)).2 = (mrI c' x' (o', r)).2 := by
 have hdd : clx c x < 0 ↔ clx c' x' < 0 := by rw [hc.dd x hx.1 hx.2, hc'.dd x' hx'.1 hx'.2]; exact he.dd
 rw [mrI, mrI]
 by_cases h0 : clx c x < 0
 ·rw [if_pos (mr_cond.2 h0), if_pos (mr_cond.2 (hdd.1 h0))]
  exact ⟨hs, rfl⟩
 ·rw [if_neg (fun h => h0 (mr_cond.1 h)), if_neg (fun h => h0 (hdd.2 (mr_cond.1 h)))]
  have hx0 : 0 ≤ x := by
   by_cases h1 : 0 ≤ x
   ·exact h1
   ·rw [clx_neg (by omega)] at h0; omega
  have hx0' : 0 ≤ x' := by
   by_cases h1 : 0 ≤ x'
   ·exact h1
   ·exfalso; rw [hdd, clx_neg (by omega)] at h0; omega
  have hidx : idxI (gI c x) (o.map (gI c)) = idxI (gI c' x') (o'.map (gI c')) := by
   refine idx_sim (by simp [hs.1]) fun i hi => ?_
   rw [List.length_map] at hi
   have hi' : i < o'.length := by rw [← hs.1]; exact hi
   have hm := ho.rng _ (getD_mem hi)
   have hm' := ho'.rng _ (getD_mem hi')
   rw [getD_map hi, getD_map hi', ← clx_gI hm.1, ← clx_gI hm'.1, ← clx_gI hx0, ← clx_gI hx0', hc.eq _ _ (by omega) hm.2 hx.1 hx.2, hc'.eq _ _ (by omega) hm'.2 hx'.1 hx'.2]
   have h1 := hs.2 i hi
   exact ⟨fun h => h1.symm.trans (h.trans he), fun h => h1.trans (h.trans he.symm)⟩
  simp only [hidx]
  cases idxI (gI c' x') (o'.map (gI c')) with
  | some k => exact ⟨hs, rfl⟩
  | none =>
   simp only
   refine ⟨⟨by simp [hs.1], fun i hi => ?_⟩, by rw [hs.1]⟩
   by_cases hio : i < o.length
   ·rw [getD_left hio, getD_left (by rw [← hs.1]; exact hio)]
    exact hs.2 i hio
   ·have : i = o.length := by simp at hi; omega
    subst this
    rw [getD_last, hs.1, getD_last]
    exact he
theorem mrN_sim {o o' : List Int} (ho : Ook n c o) (ho' : Ook n' c' o') (hs : Sim t t' o o') {q q' : Nat} (hq : q < n) (hq' : q' < n') (he : Eq2 t q t' q') :
  ∀ j, j ≤ m → Sim t t' (mrN c (t.next.getD q []) o j).1 (mrN c' (t'.next.getD q' []) o' j).1 ∧ (mrN c (t.next.getD q []) o j).2 = (mrN c' (t'.next.getD q' []) o' j).2
 | 0, _ => ⟨hs, rfl⟩
 | j + 1, hj => by
  have ih := mrN_sim ho ho' hs hq hq' he j (by omega)
  have l1 := row_len ht hq
  have l2 := row_len ht' hq'
  have o1 := mrN_ok (n := n) (c := c) (row := t.next.getD q []) (fun x hx => (ht.rng _ (row_mem ht hq) x hx).2) ho j (by omega)
  have o2 := mrN_ok (n := n') (c := c') (row := t'.next.getD q' []) (fun x hx => (ht'.rng _ (row_mem ht' hq') x hx).2) ho' j (by omega)
  have e1 := suc_at ht hq (s := j) (by omega)
  have e2 := suc_at ht' hq' (s := j) (by omega)
  rw [mrN, mrN, ← e1, ← e2]
  generalize mrN c (t.next.getD q []) o j = s at ih o1
  generalize mrN c' (t'.next.getD q' []) o' j = s' at ih o2
  obtain ⟨a, r⟩ := s
  obtain ⟨a', r'⟩ := s'
  simp only at ih
  obtain ⟨ih1, rfl⟩ := ih
  exact mrI_sim ht ht' hc hc' o1 o2 ih1 (suc_rng ht ⟨by omega, by omega⟩) (suc_rng ht' ⟨by omega, by omega⟩) (he.suc j)
theorem minN_sim (h0 : Eq2 t 0 t' 0) : ∀ i, Sim t t' (minN t c i).order (minN t' c' i).order ∧ (minN t c i).rows = (minN t' c' i).rows ∧ (minN t c i).accs = (minN t' c' i).accs
 | 0 => ⟨⟨rfl, fun i hi => by
   have : i = 0 := by simp [minN] at hi; omega
   subst this
   exact h0⟩, rfl, rfl⟩
 | i + 1 => by
  obtain ⟨ih1, ih2, ih3⟩ := minN_sim h0 i
  have o1 := minN_ok ht (c := c) i
  have o2 := minN_ok ht' (c := c') i
  rw [minN, minN]
  generalize minN t c i = s at ih1 ih2 ih3 o1
  generalize minN t' c' i = s' at ih1 ih2 ih3 o2
  by_cases hi : i < s.order.length
  ·have hi' : i < s'.order.length := by rw [← ih1.1]; exact hi
   have hq := o1.rng _ (getD_mem hi)
   have hq' := o2.rng _ (getD_mem hi')
   have he := ih1.2 i hi
   rw [minI, minI, List.getElem?_eq_getElem hi, List.getElem?_eq_getElem hi']
   rw [lgetD hi] at hq he
   rw [lgetD hi'] at hq' he
   simp only
   generalize s.order[i] = q at hq he
   generalize s'.order[i] = q' at hq' he
   obtain ⟨k, rfl⟩ : ∃ k : Nat, q = k := ⟨q.toNat, by omega⟩
   obtain ⟨k', rfl⟩ : ∃ k' : Nat, q' = k' := ⟨q'.toNat, by omega⟩
   rw [Int.toNat_natCast, Int.toNat_natCast, row_len ht (by omega), row_len ht' (by omega)]
   obtain ⟨h1, h2⟩ := mrN_sim ht ht' hc hc' o1 o2 ih1 (q := k) (q' := k') (by omega) (by omega) he m (Nat.le_refl _)
   refine ⟨h1, by rw [ih2, h2], ?_⟩
   have := he []
   rw [La_nil, La_nil, accq, accq, decide_eq_true (by omega), decide_eq_true (by omega), Bool.true_and, Bool.true_and] at this
   rw [ih3, this]
  ·rw [minI_stop (by omega), minI_stop (by rw [← ih1.1]; omega)]
   exact ⟨ih1, ih2, ih3⟩
theorem minF_eq (h0 : Eq2 t 0 t' 0) : minF t c = minF t' c' := by
 have a1 := (minN_ok ht (c := c) n).len
 have a2 := (minN_ok ht' (c := c') n').len
 have e1 := minN_at (t := t) (c := c) (i := n) (j := max n n') a1 (by omega)
 have e2 := minN_at (t := t') (c := c') (i := n') (j := max n n') a2 (by omega)
 obtain ⟨_, h2, h3⟩ := minN_sim ht ht' hc hc' h0 (max n n')
 rw [minF, minF, ht.rows, ht'.rows, ← e1, ← e2, h2, h3]
end
def Ent (c o : List Int) (e x : Int) : Prop := (clx c x < 0 ∧ e = -1) ∨ (¬ clx c x < 0 ∧ ∃ k : Nat, e = (k : Int) ∧ k < o.length ∧ clx c (o.getD k 0) = clx c x)
theorem Ent.mono {c o r : List Int} {e x : Int} (h : Ent c o e x) : Ent c (o ++ r) e x := by
 rcases h with h | ⟨h1, k, h2, h3, h4⟩
 ·exact .inl h
 ·refine .inr ⟨h1, k, h2, by rw [List.length_append]; omega, ?_⟩
  rw [List.getD_eq_getElem?_getD, List.getElem?_append_left h3, ← List.getD_eq_getElem?_getD]
  exact h4
structure Miv (m : Nat) (t : Tb) (c : List Int) (i : Nat) (s : Ms) : Prop where
 acs : s.accs.length = s.rows.length
 cnt : (s.rows.length = i ∧ i ≤ s.order.length) ∨ (s.rows.length = s.order.length ∧ s.order.length ≤ i)
 row : ∀ k, k < s.rows.length → (s.rows.getD k []).length = m
 ent : ∀ k, k < s.rows.length → ∀ j, j < m → Ent c s.order (gI (s.rows.getD k []) j) (suc t (s.order.getD k 0) j)
 acc : ∀ k, k < s.rows.length → s.accs.getD k false = gB t.acc (s.order.getD k 0)
 fst : s.order.getD 0 0 = 0 ∧ 0 < s.order.length
 liv : ∀ k, k < s.order.length → 0 < k → ¬ clx c (s.order.getD k 0) < 0
section
variable {n m : Nat} {t : Tb} (ht : okT n m t) {c : List Int}
include ht
theorem mrN_ent {o : List Int} (ho : Ook n c o) {q : Nat} (hq : q < n) : ∀ j, j ≤ m → ∀ u, u < j → Ent c (mrN c (t.next.getD q []) o j).1 (gI (mrN c (t.next.getD q []) o j).2 u) (suc t q u)
 | 0, _, u, h => by omega
 | j + 1, hj, u, hu => by
  have ih := fun hu' => mrN_ent ho hq j (by omega) u hu'
  have hl := mrN_len c (t.next.getD q []) o j
  have l1 := row_len ht hq
  have o1 := mrN_ok (n := n) (c := c) (row := t.next.getD q []) (fun x hx => (ht.rng _ (row_mem ht hq) x hx).2) ho j (by omega)
  have e1 := suc_at ht hq (s := j) (by omega)
  rw [mrN, ← e1]
  generalize mrN c (t.next.getD q []) o j = s at ih hl o1
  obtain ⟨a, r⟩ := s
  simp only at ih hl o1
  have hlt : ∀ y : Int, u < j → gI (r ++ [y]) u = gI r u := fun y h => by
   rw [gI, gI, Int.toNat_natCast]; exact getD_left (by omega)
  have heq : ∀ y : Int, u = j → gI (r ++ [y]) u = y := fun y h => by
   rw [gI, Int.toNat_natCast, h, ← hl]; exact getD_last
  have hx := suc_rng ht (q := q) (s := j) ⟨by omega, by omega⟩
  rw [mrI]
  by_cases h0 : clx c (suc t q j) < 0
  ·rw [if_pos (mr_cond.2 h0)]
   simp only
   by_cases huj : u < j
   ·rw [hlt _ huj]; exact ih huj
   ·rw [heq _ (by omega), show u = j from by omega]
    exact .inl ⟨h0, rfl⟩
  ·rw [if_neg (fun h => h0 (mr_cond.1 h))]
   have hx0 : 0 ≤ suc t q j := by
    by_cases h1 : 0 ≤ suc t q j
    ·exact h1
    ·rw [clx_neg (by omega)] at h0; omega
   cases hi : idxI (gI c (suc t q j)) (a.map (gI c)) with
   | some k =>
    simp only
    by_cases huj : u < j
    ·rw [hlt _ huj]; exact ih huj
    ·rw [heq _ (by omega), show u = j from by omega]
     have h2 := idxI_some hi
     have hk := (List.getElem?_eq_some_iff.1 h2).1
     rw [List.length_map] at hk
     refine .inr ⟨h0, k, rfl, hk, ?_⟩
     have h3 := (o1.rng _ (getD_mem hk)).1
     rw [clx_gI h3, clx_gI hx0, ← getD_map hk, List.getD_eq_getElem?_getD, h2]; rfl
   | none =>
    simp only
    by_cases huj : u < j
    ·rw [hlt _ huj]; exact (ih huj).mono
    ·rw [heq _ (by omega), show u = j from by omega]
     refine .inr ⟨h0, a.length, rfl, by simp, ?_⟩
     rw [getD_last]
theorem mrN_liv {o : List Int} (ho : Ook n c o) {row : List Int} (hr : ∀ x ∈ row, x < (n : Int)) (h : ∀ k, k < o.length → 0 < k → ¬ clx c (o.getD k 0) < 0) (hp : 0 < o.length) : ∀ j, j ≤ row.length → ∀ k, k < (mrN c row o j).1.length → 0 < k → ¬ clx c ((mrN c row o j).1.getD k 0) < 0
 | 0, _, k, hk, h0 => h k hk h0
 | j + 1, hj, k, hk, h0 => by
  have ih := mrN_liv ho hr h hp j (by omega)
  rw [mrN] at hk ⊢
  generalize mrN c row o j = s at ih hk
  obtain ⟨a, r⟩ := s
  simp only at ih
  rw [mrI] at hk ⊢
  by_cases h1 : clx c (gI row j) < 0
  ·rw [if_pos (mr_cond.2 h1)] at hk ⊢
   exact ih k hk h0
  ·rw [if_neg (fun h => h1 (mr_cond.1 h))] at hk ⊢
   cases hi : idxI (gI c (gI row j)) (a.map (gI c)) with
   | some u => rw [hi] at hk; simp only at hk ⊢; exact ih k hk h0
   | none =>
    rw [hi] at hk
    simp only at hk ⊢
    by_cases hka : k < a.length
    ·rw [getD_left hka]; exact ih k hka h0
    ·have : k = a.length := by simp at hk; omega
     rw [this, getD_last]
     exact h1
theorem minN_inv : ∀ i, Miv m t c i (minN t c i)
 | 0 => ⟨rfl, .inl ⟨rfl, Nat.zero_le _⟩, fun k h => by simp [minN] at h, fun k h => by simp [minN] at h, fun k h => by simp [minN] at h, ⟨rfl, Nat.one_pos⟩, fun k h h0 => by simp [minN] at h; omega⟩
 | i + 1 => by
  have ih := minN_inv i
  have o1 := minN_ok ht (c := c) i
  rw [minN]
  generalize minN t c i = s at ih o1
  obtain ⟨o, rows, accs⟩ := s
  simp only at o1
  have i1 := ih.acs
  have i2 := ih.cnt
  have i6 := ih.fst
  simp only at i1 i2 i6
  by_cases hi : i < o.length
  ·have hq := o1.rng _ (getD_mem hi)
   have hri : rows.length = i := by omega
   rw [lgetD hi] at hq
   rw [minI, List.getElem?_eq_getElem hi]
   simp only
   have hgi : o.getD i 0 = o[i] := lgetD hi
   generalize o[i] = q at hq hgi
   obtain ⟨k, rfl⟩ : ∃ k : Nat, q = k := ⟨q.toNat, by omega⟩
   have hkn : k < n := by omega
   rw [Int.toNat_natCast, row_len ht hkn]
   have hen := mrN_ent ht o1 hkn m (Nat.le_refl _)
   have hlv := mrN_liv ht o1 (row := t.next.getD k []) (fun x hx => (ht.rng _ (row_mem ht hkn) x hx).2) ih.liv i6.2 m (by rw [row_len ht hkn]; exact Nat.le_refl _)
   have hlen := mrN_len c (t.next.getD k []) o m
   obtain ⟨r, hr⟩ := mrN_pre c (t.next.getD k []) o m
   have hgo : ∀ u, u < o.length → (mrN c (t.next.getD k []) o m).1.getD u 0 = o.getD u 0 := fun u hu => by
    rw [hr, List.getD_eq_getElem?_getD, List.getElem?_append_left hu, ← List.getD_eq_getElem?_getD]
   have hml : o.length ≤ (mrN c (t.next.getD k []) o m).1.length := by rw [hr, List.length_append]; omega
   have hrow : ∀ u, u < rows.length + 1 → (rows ++ [(mrN c (t.next.getD k []) o m).2]).getD u [] = if u < rows.length then rows.getD u [] else (mrN c (t.next.getD k []) o m).2 := fun u hu => by
    rw [List.getD_eq_getElem?_getD]
    split
    ·rename_i h; rw [List.getElem?_append_left h, ← List.getD_eq_getElem?_getD]
    ·rename_i h; rw [List.getElem?_append_right (by omega), show u - rows.length = 0 from by omega]; rfl
   refine ⟨by simp [i1], .inl ⟨by simp only [List.length_append, List.length_singleton]; omega, by simp only; omega⟩, fun u hu => ?_, fun u hu j hj => ?_, fun u hu => ?_, ⟨by simp only; rw [hgo 0 i6.2]; exact i6.1, by simp only; omega⟩, hlv⟩
   ·simp only [List.length_append, List.length_singleton] at hu
    simp only
    rw [hrow u hu]
    split
    ·rename_i h; exact ih.row u h
    ·exact hlen
   ·simp only [List.length_append, List.length_singleton] at hu
    simp only
    rw [hrow u hu, hgo u (by omega)]
    split
    ·rename_i h
     rw [hr]
     exact (ih.ent u h j hj).mono
    ·rename_i h
     rw [show u = i from by omega, hgi]
     exact hen j hj
   ·simp only [List.length_append, List.length_singleton] at hu
    simp only
    rw [hgo u (by omega), List.getD_eq_getElem?_getD]
    by_cases h : u < rows.length
    ·rw [List.getElem?_append_left (by omega), ← List.getD_eq_getElem?_getD]
     exact ih.acc u h
    ·rw [List.getElem?_append_right (by omega), show u - accs.length = 0 from by omega, show u = i from by omega, hgi]
     rfl
  ·rw [minI_stop (by simp only; omega)]
   exact ⟨ih.acs, .inr ⟨by simp only; omega, by simp only; omega⟩, ih.row, ih.ent, ih.acc, ih.fst, ih.liv⟩
theorem minF_ord : ∃ o : List Int, Ook n c o ∧ o.getD 0 0 = 0 ∧ 0 < o.length ∧ (minF t c).next.length = o.length ∧ (minF t c).acc.length = o.length ∧
  (∀ k, k < o.length → ((minF t c).next.getD k []).length = m) ∧ (∀ k, k < o.length → ∀ j, j < m → Ent c o (gI ((minF t c).next.getD k []) j) (suc t (o.getD k 0) j)) ∧
  (∀ k, k < o.length → (minF t c).acc.getD k false = gB t.acc (o.getD k 0)) ∧ (∀ k, k < o.length → 0 < k → ¬ clx c (o.getD k 0) < 0) := by
 have hi := minN_inv ht (c := c) n
 have ho := minN_ok ht (c := c) n
 have hl := ho.len
 have h2 := hi.cnt
 have hr : (minN t c n).rows.length = (minN t c n).order.length := by omega
 rw [minF, ht.rows]
 have h1 := hi.acs
 refine ⟨(minN t c n).order, ho, hi.fst.1, hi.fst.2, hr, by simp only; omega, ?_, ?_, ?_, hi.liv⟩
 ·rw [← hr]; exact hi.row
 ·rw [← hr]; exact hi.ent
 ·rw [← hr]; exact hi.acc
theorem minF_ok : okT (minF t c).next.length m (minF t c) ∧ (minF t c).next.length ≤ n := by
 obtain ⟨o, h1, h2, h3, h4, h5, h6, h7, _⟩ := minF_ord ht (c := c)
 have hl := h1.len
 have hb := ht.big
 refine ⟨⟨rfl, by rw [h5, h4], fun r hr => ?_, fun r hr x hx => ?_, by omega, by omega, ht.cols, ht.col1⟩, by omega⟩
 ·obtain ⟨k, hk, e⟩ := List.getElem_of_mem hr
  have := h6 k (by omega)
  rwa [lgetD hk, e] at this
 ·obtain ⟨k, hk, e⟩ := List.getElem_of_mem hr
  have hm := h6 k (by omega)
  rw [lgetD hk, e] at hm
  obtain ⟨j, hj, e2⟩ := List.getElem_of_mem hx
  have := h7 k (by omega) j (by omega)
  rw [lgetD hk, e, gI, Int.toNat_natCast, lgetD hj, e2] at this
  rcases this with ⟨_, h⟩ | ⟨_, u, h, hu, _⟩
  ·omega
  ·omega
theorem minF_lang (hc : Good n t c) : Eq2 (minF t c) 0 t 0 := by
 obtain ⟨o, h1, h2, h3, h4, h5, h6, h7, h8, _⟩ := minF_ord ht (c := c)
 have hM := (minF_ok ht (c := c)).1
 generalize minF t c = M at h4 h5 h6 h7 h8 hM
 have key : ∀ (l : List Int) (k : Nat), k < o.length → La M k l = La t (o.getD k 0) l := by
  intro l
  induction l with
  | nil =>
   intro k hk
   have := (h1.rng _ (getD_mem hk)).1
   rw [La_nil, La_nil, accq, accq, gB, Int.toNat_natCast, h8 k hk, decide_eq_true (by omega), decide_eq_true this]
  | cons s l ih =>
   intro k hk
   have hr := h1.rng _ (getD_mem hk)
   rw [La_cons, La_cons]
   by_cases hs : 0 ≤ s ∧ s < (m : Int)
   ·obtain ⟨j, rfl⟩ : ∃ j : Nat, s = j := ⟨s.toNat, by omega⟩
    rw [suc_at hM (by omega) (by omega)]
    have hx := suc_rng ht (q := o.getD k 0) (s := (j : Int)) ⟨by omega, hr.2⟩
    rcases h7 k hk j (by omega) with ⟨h, e⟩ | ⟨h, u, e, hu, he⟩
    ·rw [e, La_neg (by decide)]
     exact ((hc.dd _ hx.1 hx.2).1 h l).symm
    ·rw [e, ih u hu]
     have hru := h1.rng _ (getD_mem hu)
     exact (hc.eq _ _ (by omega) hru.2 hx.1 hx.2).1 he l
   ·rw [suc_out hM (by omega) (by omega), suc_out ht hr.2 (by omega), La_neg (by decide), La_neg (by decide)]
 intro l
 have := key l 0 h3
 rw [h2] at this
 exact this
theorem minF_cnt (hc : Good n t (parS t)) (hreach : ∀ q : Nat, q < n → ∃ l, runA t 0 l = (q : Int)) : (Dd t 0 → cntS t = 0) ∧ (¬ Dd t 0 → (minF t (parS t)).next.length = cntS t) := by
 obtain ⟨o, h1, h2, h3, h4, h5, h6, h7, h8, h9⟩ := minF_ord ht (c := parS t)
 obtain ⟨k1, k2, k3⟩ := cntS_rng t
 have hpl := parS_len t
 rw [ht.rows] at hpl
 have hval : ∀ k, k < cntS t → ∃ q : Nat, q < n ∧ clx (parS t) q = (k : Int) := fun k hk => by
  obtain ⟨q, hq, e⟩ := List.getElem_of_mem (k2 k hk)
  exact ⟨q, by omega, by rw [clx_nat, lgetD hq, e]⟩
 constructor
 ·intro hd
  by_cases h0 : cntS t = 0
  ·exact h0
  ·exfalso
   obtain ⟨q, hq, e⟩ := hval 0 (by omega)
   obtain ⟨l, hl⟩ := hreach q hq
   have : Dd t q := fun l2 => by
    have := hd (l ++ l2)
    rw [La, runA, List.foldl_append] at this
    rw [La, ← hl]
    exact this
   have := (hc.dd q (by omega) (by omega)).2 this
   omega
 ·intro hd
  rw [h4]
  have hliv : ∀ k, k < o.length → ¬ clx (parS t) (o.getD k 0) < 0 := fun k hk => by
   by_cases h0 : 0 < k
   ·exact h9 k hk h0
   ·rw [show k = 0 from by omega, h2]
    intro h
    have := ht.pos
    exact hd ((hc.dd 0 (by omega) (by omega)).1 h)
  have hle : o.length ≤ cntS t := by
   have := nat_len (N := cntS t) (l := (o.map (gI (parS t))).map Int.toNat) (by
    have hn := h1.apart
    have hp : ∀ x ∈ o.map (gI (parS t)), 0 ≤ x := fun x hx => by
     obtain ⟨y, hy, rfl⟩ := List.mem_map.1 hx
     obtain ⟨k, hk, e⟩ := List.getElem_of_mem hy
     have := hliv k hk
     have hr := (h1.rng y hy).1
     rw [lgetD hk, e, clx_gI hr] at this
     omega
    generalize o.map (gI (parS t)) = L at hn hp
    induction L with
    | nil => simp
    | cons x r ih =>
     rw [List.nodup_cons] at hn
     rw [List.map_cons, List.nodup_cons]
     refine ⟨fun hm => ?_, ih hn.2 (fun y hy => hp y (by simp [hy]))⟩
     obtain ⟨y, hy, e⟩ := List.mem_map.1 hm
     have hy0 := hp y (by simp [hy])
     have hx0 := hp x (by simp)
     exact hn.1 ((show y = x from by omega) ▸ hy)) (fun k hk => by
    obtain ⟨x, hx, rfl⟩ := List.mem_map.1 hk
    obtain ⟨y, hy, rfl⟩ := List.mem_map.1 hx
    obtain ⟨u, hu, e⟩ := List.getElem_of_mem hy
    have hr := h1.rng y hy
    have hl := hliv u hu
    rw [lgetD hu, e, clx_gI hr.1] at hl
    have hyl : y.toNat < (parS t).length := by omega
    have := k1 (gI (parS t) y) (by rw [gI, lgetD hyl]; exact List.getElem_mem _)
    omega)
   simpa using this
  have hge : cntS t ≤ o.length := by
   have hall : ∀ (l : List Int), ¬ Dd t (runA t 0 l) → ∃ k, k < o.length ∧ clx (parS t) (o.getD k 0) = clx (parS t) (runA t 0 l) := by
    have hgen : ∀ (l : List Int) (k : Nat), k < o.length → ∀ x : Int, -1 ≤ x ∧ x < (n : Int) → clx (parS t) (o.getD k 0) = clx (parS t) x → ¬ Dd t (runA t x l) → ∃ k, k < o.length ∧ clx (parS t) (o.getD k 0) = clx (parS t) (runA t x l) := by
     intro l
     induction l with
     | nil => intro k hk x _ he _; exact ⟨k, hk, he⟩
     | cons s l ih =>
      intro k hk x hx he hnd
      have hr := h1.rng _ (getD_mem hk)
      have hx2 := suc_rng ht (q := x) (s := s) hx
      have hnx : ¬ Dd t (suc t x s) := fun hd2 => hnd (by
       intro l2
       have := hd2 (l ++ l2)
       rw [La, runA, List.foldl_append] at this
       exact this)
      have heq := (hc.eq _ _ (by omega) hr.2 hx.1 hx.2).1 he
      have hsm : 0 ≤ s ∧ s < (m : Int) := by
       by_cases h : 0 ≤ s ∧ s < (m : Int)
       ·exact h
       ·exfalso
        rw [suc_out ht hx.2 (by omega)] at hnx
        exact hnx (Dd.neg (by decide))
      obtain ⟨j, rfl⟩ : ∃ j : Nat, s = j := ⟨s.toNat, by omega⟩
      have hy := suc_rng ht (q := o.getD k 0) (s := (j : Int)) ⟨by omega, hr.2⟩
      rcases h7 k hk j (by omega) with ⟨h, _⟩ | ⟨_, u, _, hu, he2⟩
      ·exact absurd ((heq.suc j).dd.1 ((hc.dd _ hy.1 hy.2).1 h)) hnx
      ·exact ih u hu (suc t x j) hx2 (he2.trans ((hc.eq _ _ hy.1 hy.2 hx2.1 hx2.2).2 (heq.suc j))) hnd
    intro l hnd
    have := ht.pos
    exact hgen l 0 h3 0 ⟨by omega, by omega⟩ (by rw [h2]) hnd
   have := len_sub (L := (List.range (cntS t)).map fun (k : Nat) => (k : Int)) (D := o.map (clx (parS t))) (map_nodup (fun a b e => by omega) List.nodup_range) (fun x hx => by
    obtain ⟨k, hk, rfl⟩ := List.mem_map.1 hx
    rw [List.mem_range] at hk
    obtain ⟨q, hq, e⟩ := hval k hk
    obtain ⟨l, hl⟩ := hreach q hq
    have hnd : ¬ Dd t (runA t 0 l) := by
     rw [hl]
     intro h
     have := (hc.dd q (by omega) (by omega)).2 h
     omega
    obtain ⟨u, hu, he⟩ := hall l hnd
    rw [hl, e] at he
    exact List.mem_map.2 ⟨_, getD_mem hu, he⟩)
   simpa using this
  omega
end
theorem chkT_of {n m : Nat} {t : Tb} (ht : okT n m t) (h64 : n ≤ 64) : chkT t = 0 := by
 have hr := ht.rows
 have ha := ht.accs
 have hp := ht.pos
 have hc := ht.cols
 have hc1 := ht.col1
 have hh : (t.next.headD []).length = m := by
  cases hn : t.next with
  | nil => rw [hn] at hr; simp at hr; omega
  | cons r s => exact ht.row r (by rw [hn]; simp)
 rw [chkT, if_neg (by omega), if_neg (by omega), hh, if_neg (by omega), if_neg, if_neg]
 ·rw [Bool.not_eq_true, List.any_eq_false]
  intro r hr2 hb
  rw [rowBad, List.any_eq_true] at hb
  obtain ⟨x, hx, hb⟩ := hb
  have := ht.rng r hr2 x hx
  simp only [Bool.or_eq_true, decide_eq_true_eq] at hb
  omega
 ·rw [Bool.not_eq_true, List.any_eq_false]
  intro r hr2 hb
  rw [decide_eq_true_eq] at hb
  exact hb (ht.row r hr2)
theorem minS_eq {n n' m : Nat} {t t' : Tb} (ht : okT n m t) (ht' : okT n' m t') (h : Eq2 t 0 t' 0) : minS t = minS t' := minF_eq ht ht' (parS_good ht) (parS_good ht') h
theorem minS_lang {n m : Nat} {t : Tb} (ht : okT n m t) : Eq2 (minS t) 0 t 0 := minF_lang ht (parS_good ht)
theorem minS_ok {n m : Nat} {t : Tb} (ht : okT n m t) : okT (minS t).next.length m (minS t) ∧ (minS t).next.length ≤ n := minF_ok ht
theorem minS_min {n m : Nat} {t : Tb} (ht : okT n m t) : minS (minS t) = minS t := minS_eq (minS_ok ht).1 ht (minS_lang ht)
theorem accA_La {t : Tb} {l : List Int} (h : chkT t = 0) : accA t l = La t 0 l := by rw [accA, h, decide_eq_true rfl, Bool.true_and]; rfl
end Go.Proofs.Yticeakkgoafiaaa

/- Chapter 42: what Build answers, in plain terms. -/
set_option maxRecDepth 100000
set_option maxHeartbeats 4000000
set_option linter.all false
namespace Go.Proofs.Yticeakkgoafiaaa
open Go.Vm
def BldS (f : Nat) (r : List Nd) (sw : Int) : Prop :=
 (∃ e, e ≠ 0 ∧ PC Try.prog f [slN r, .int .i64 sw] (.tup [zTb, .int .i64 e])) ∨
 (∃ (t : Tb) (m : Nat) (p : Pr), sw = (m : Int) ∧ okT t.next.length m t ∧ t.next.length ≤ 64 ∧ minS t = t ∧ okP sw p ∧ r = flat p ∧ (flat p).length ≤ 24 ∧ t = minS (detT (nxP p) m) ∧ PC Try.prog f [slN r, .int .i64 sw] (.tup [.agg (encT t), .int .i64 0]))
theorem bldS {r : List Nd} {sw : Int} (hr : r.length ≤ 4000000) : BldS 40 r sw := by
 rcases bld9 (sw := sw) hr with ⟨_, h⟩ | ⟨_, hc, h⟩ | ⟨hs, hc, p, hp, e, hl, h⟩
 ·exact .inl ⟨9, by decide, h⟩
 ·exact .inl ⟨_, hc, h⟩
 ·have hsz := siz_nx sw p hp
  rw [← e] at hsz
  have hD := cls_of (x := nxP p) (by omega)
  obtain ⟨m, rfl⟩ : ∃ m : Nat, sw = (m : Int) := ⟨sw.toNat, by omega⟩
  rw [Int.toNat_natCast] at h
  have hT := (detT_ok hD (x := nxP p) (by simp) (m := m) (by omega) (by omega)).1
  have hM := (minS_ok hT).1
  have hmm := minS_min hT
  rw [bldV] at h
  by_cases h64 : 64 < (minS (detT (nxP p) m)).next.length
  ·rw [if_pos h64] at h
   exact .inl ⟨12, by decide, h⟩
  ·rw [if_neg h64] at h
   exact .inr ⟨_, m, p, rfl, hM, by omega, hmm, hp, e, by rw [← e]; exact hl, rfl, h⟩
end Go.Proofs.Yticeakkgoafiaaa

/- Chapter 43 (plain): breadth first search by rounds finds the path that follows the distances to the end. -/
set_option linter.all false
namespace Go.Proofs.Yticeakkgoafiaaa
structure Gph (ω κ : Type) where
 key : ω → κ
 np : κ → Nat
 stp : ω → Nat → Option ω
 sk : κ → Nat → Option κ
 acc : κ → Bool
 hk : ∀ w p, (stp w p).map key = sk (key w) p
 states : List κ
 cls : ∀ k p k', k ∈ states → p < np k → sk k p = some k' → k' ∈ states
namespace Gph
variable {ω κ : Type} [DecidableEq κ] (g : Gph ω κ)
def portI (w : ω) (p : Nat) (o : List κ × List ω) : List κ × List ω :=
 match g.stp w p with
 | none => o
 | some w' => if g.key w' ∈ o.1 then o else (o.1 ++ [g.key w'], o.2 ++ [w'])
def portN (w : ω) (o : List κ × List ω) : Nat → List κ × List ω
 | 0 => o
 | n + 1 => g.portI w n (portN w o n)
def rowL (Q : List ω) (o : List κ × List ω) : List κ × List ω := Q.foldl (fun o w => g.portN w o (g.np (g.key w))) o
def bfs : Nat → List κ → List ω → Option ω
 | 0, _, _ => none
 | f + 1, S, Q => if Q.isEmpty then none else
  match Q.find? (fun w => g.acc (g.key w)) with
  | some w => some w
  | none => bfs f (g.rowL Q (S, [])).1 (g.rowL Q (S, [])).2
def hit (d : κ → Int) (n : Int) (k : κ) (p : Nat) : Bool := match g.sk k p with | some k' => decide (d k' = n) | none => false
def dN : Nat → κ → Int
 | 0, k => if g.acc k then 0 else -1
 | n + 1, k => if decide (dN n k < 0) && (List.range (g.np k)).any (fun p => g.hit (dN n) (n : Int) k p) then ((n + 1 : Nat) : Int) else dN n k
def D (k : κ) : Int := g.dN g.states.length k
theorem dN_rng (n : Nat) (k : κ) : -1 ≤ g.dN n k ∧ g.dN n k ≤ n := by
 induction n with
 | zero => rw [dN]; split <;> simp
 | succ n ih => rw [dN]; split <;> omega
theorem dN_keep {n : Nat} {k : κ} (h : 0 ≤ g.dN n k) (m : Nat) : g.dN (n + m) k = g.dN n k := by
 induction m with
 | zero => rfl
 | succ m ih =>
  rw [← Nat.add_assoc, dN, ih, if_neg]
  simp only [Bool.and_eq_true, decide_eq_true_eq]
  intro hh; omega
theorem dN_keep' {n m : Nat} {k : κ} (h : 0 ≤ g.dN n k) (hm : n ≤ m) : g.dN m k = g.dN n k := by
 obtain ⟨r, rfl⟩ := Nat.exists_eq_add_of_le hm
 exact g.dN_keep h r
theorem dN_back {n : Nat} {k : κ} {m : Nat} (h : g.dN n k = m) (hm : m ≤ n) : g.dN m k = m := by
 induction n with
 | zero =>
  have : m = 0 := by omega
  subst this; exact h
 | succ n ih =>
  by_cases e : m = n + 1
  ·subst e; exact h
  ·rw [dN] at h
   split at h
   ·omega
   ·exact ih h (by omega)
theorem D_zero {k : κ} : g.D k = 0 ↔ g.acc k = true := by
 constructor
 ·intro h
  have := g.dN_back (m := 0) h (Nat.zero_le _)
  rw [dN] at this
  split at this
  ·assumption
  ·omega
 ·intro h
  have h0 : g.dN 0 k = 0 := by rw [dN, if_pos h]
  rw [D, g.dN_keep' (n := 0) (by omega) (Nat.zero_le _), h0]
theorem hit_iff {d : κ → Int} {n : Int} {k : κ} {p : Nat} : g.hit d n k p = true ↔ ∃ k', g.sk k p = some k' ∧ d k' = n := by
 rw [hit]
 split
 ·rename_i k' e
  rw [decide_eq_true_eq]
  exact ⟨fun h => ⟨k', e, h⟩, fun ⟨x, h1, h2⟩ => by rw [e] at h1; cases h1; exact h2⟩
 ·rename_i e
  exact ⟨fun h => by simp at h, fun ⟨x, h1, _⟩ => by rw [e] at h1; cases h1⟩
theorem D_down {k : κ} {n : Nat} (h : g.D k = ((n + 1 : Nat) : Int)) : ∃ p, p < g.np k ∧ g.hit g.D n k p = true := by
 have hr := g.dN_rng g.states.length k
 rw [D] at h
 have h1 := g.dN_back h (by omega)
 rw [dN] at h1
 split at h1
 ·rename_i hh
  rw [Bool.and_eq_true, List.any_eq_true] at hh
  obtain ⟨p, hp, hx⟩ := hh.2
  rw [List.mem_range] at hp
  rw [hit_iff] at hx
  obtain ⟨k', e, hd⟩ := hx
  refine ⟨p, hp, (g.hit_iff).2 ⟨k', e, ?_⟩⟩
  rw [D, g.dN_keep' (n := n) (by omega) (by omega), hd]
 ·have := g.dN_rng n k
  omega
theorem chain : ∀ (n : Nat) (k : κ), k ∈ g.states → g.D k = (n : Int) → ∃ l : List κ, l.length = n + 1 ∧ (∀ x ∈ l, x ∈ g.states) ∧ (∀ x ∈ l, g.D x ≤ n) ∧ l.Nodup
 | 0, k, hk, hd => ⟨[k], rfl, by simpa using hk, by simpa using Int.le_of_eq hd, by simp⟩
 | n + 1, k, hk, hd => by
  obtain ⟨p, hp, hx⟩ := g.D_down hd
  rw [hit_iff] at hx
  obtain ⟨k', e, hd'⟩ := hx
  obtain ⟨l, h1, h2, h3, h4⟩ := chain n k' (g.cls k p k' hk hp e) hd'
  refine ⟨k :: l, by simp [h1], fun x hx => ?_, fun x hx => ?_, ?_⟩
  ·rcases List.mem_cons.1 hx with rfl | hx
   ·exact hk
   ·exact h2 x hx
  ·rcases List.mem_cons.1 hx with rfl | hx
   ·omega
   ·have := h3 x hx; omega
  ·rw [List.nodup_cons]
   refine ⟨fun hm => ?_, h4⟩
   have := h3 k hm
   omega
theorem nodup_le {α : Type} [DecidableEq α] : ∀ (l m : List α), l.Nodup → (∀ x ∈ l, x ∈ m) → l.length ≤ m.length
 | [], m, _, _ => Nat.zero_le _
 | x :: l, m, hn, hs => by
  rw [List.nodup_cons] at hn
  have hx := hs x (by simp)
  have := nodup_le l (m.erase x) hn.2 (fun y hy => by
   have hne : y ≠ x := fun e => hn.1 (e ▸ hy)
   exact (List.mem_erase_of_ne hne).2 (hs y (List.mem_cons_of_mem _ hy)))
  rw [List.length_erase_of_mem hx] at this
  have := List.length_pos_of_mem hx
  simp only [List.length_cons]
  omega
theorem D_lt {k : κ} (hk : k ∈ g.states) {n : Nat} (h : g.D k = n) : n < g.states.length := by
 obtain ⟨l, h1, h2, _, h4⟩ := g.chain n k hk h
 have := nodup_le l g.states h4 h2
 omega
theorem D_up {k k' : κ} {p : Nat} {n : Nat} (hk : k ∈ g.states) (hp : p < g.np k) (hs : g.sk k p = some k') (hd : g.D k' = n) : 0 ≤ g.D k ∧ g.D k ≤ n + 1 := by
 have hlt := g.D_lt (g.cls k p k' hk hp hs) hd
 rw [D] at hd
 have h1 := g.dN_back hd (by omega)
 by_cases h0 : 0 ≤ g.dN n k
 ·have := g.dN_keep' h0 (m := g.states.length) (by omega)
  have hr := g.dN_rng n k
  rw [D, this]; omega
 ·have : g.dN (n + 1) k = ((n + 1 : Nat) : Int) := by
   rw [dN, if_pos]
   rw [Bool.and_eq_true, List.any_eq_true]
   exact ⟨decide_eq_true (by omega), p, List.mem_range.2 hp, (g.hit_iff).2 ⟨k', hs, h1⟩⟩
  have h2 := g.dN_keep' (n := n + 1) (m := g.states.length) (k := k) (by omega) (by omega)
  rw [D, h2, this]; omega
theorem D_min (k : κ) : -1 ≤ g.D k := (g.dN_rng _ k).1
def first (n : Nat) (k : κ) : Option Nat := (List.range (g.np k)).find? (fun p => g.hit g.D n k p)
theorem first_some {n : Nat} {k : κ} {p : Nat} (h : g.first n k = some p) : p < g.np k ∧ g.hit g.D n k p = true ∧ ∀ q, q < p → g.hit g.D n k q = false := by
 rw [first, List.find?_eq_some_iff_getElem] at h
 obtain ⟨h1, i, hi, h2, h3⟩ := h
 rw [List.getElem_range] at h2
 subst h2
 refine ⟨by simpa using hi, h1, fun q hq => ?_⟩
 have := h3 q hq
 rw [List.getElem_range] at this
 simpa using this
def walk : Nat → ω → ω
 | 0, w => w
 | n + 1, w => match g.first n (g.key w) with
  | none => w
  | some p => match g.stp w p with
   | none => w
   | some w' => walk n w'
theorem first_of {n : Nat} {k : κ} (h : g.D k = ((n + 1 : Nat) : Int)) : ∃ p, g.first n k = some p := by
 obtain ⟨p, hp, hx⟩ := g.D_down h
 rw [first]
 exact Option.isSome_iff_exists.1 (by rw [List.find?_isSome]; exact ⟨p, List.mem_range.2 hp, hx⟩)
theorem walk_step {n : Nat} {w : ω} (h : g.D (g.key w) = ((n + 1 : Nat) : Int)) : ∃ p w', g.first n (g.key w) = some p ∧ p < g.np (g.key w) ∧ g.stp w p = some w' ∧ g.sk (g.key w) p = some (g.key w') ∧ g.D (g.key w') = n ∧ g.walk (n + 1) w = g.walk n w' ∧ ∀ q, q < p → g.hit g.D n (g.key w) q = false := by
 obtain ⟨p, hp⟩ := g.first_of h
 obtain ⟨h1, h2, h3⟩ := g.first_some hp
 rw [hit_iff] at h2
 obtain ⟨k', e, hd⟩ := h2
 have hk := g.hk w p
 rw [e] at hk
 cases hs : g.stp w p with
 | none => rw [hs] at hk; cases hk
 | some w' =>
  rw [hs] at hk
  simp only [Option.map_some, Option.some.injEq] at hk
  subst hk
  refine ⟨p, w', hp, h1, hs, e, hd, ?_, h3⟩
  rw [walk, hp]
  simp only [hs]
def ok (m : Nat) (k : κ) : Prop := k ∈ g.states ∧ (g.D k < 0 ∨ (m : Int) ≤ g.D k)
def Inv1 (m : Nat) (o : List κ × List ω) : Prop := (∀ k ∈ o.1, g.ok m k) ∧ ∀ w ∈ o.2, g.ok m (g.key w)
def Inv2 (m : Nat) (t : ω) (o : List κ × List ω) : Prop := g.Inv1 m o ∧ o.2.find? (fun w => decide (g.D (g.key w) = m)) = some t
theorem port1 {m : Nat} {w : ω} {p : Nat} {o : List κ × List ω} (h : g.Inv1 m o) (hs : ∀ w', g.stp w p = some w' → g.ok m (g.key w')) : g.Inv1 m (g.portI w p o) := by
 rw [portI]
 split
 ·exact h
 ·rename_i w' e
  split
  ·exact h
  ·refine ⟨fun k hk => ?_, fun x hx => ?_⟩
   ·rcases List.mem_append.1 hk with hk | hk
    ·exact h.1 k hk
    ·rw [List.mem_singleton.1 hk]; exact hs w' e
   ·rcases List.mem_append.1 hx with hx | hx
    ·exact h.2 x hx
    ·rw [List.mem_singleton.1 hx]; exact hs w' e
theorem port2 {m : Nat} {t w : ω} {p : Nat} {o : List κ × List ω} (h : g.Inv2 m t o) (hs : ∀ w', g.stp w p = some w' → g.ok m (g.key w')) : g.Inv2 m t (g.portI w p o) := by
 refine ⟨g.port1 h.1 hs, ?_⟩
 rw [portI]
 split
 ·exact h.2
 ·split
  ·exact h.2
  ·rw [List.find?_append, h.2]; rfl
theorem find_no {m : Nat} {l : List ω} (h : ∀ w ∈ l, g.ok (m + 1) (g.key w)) : l.find? (fun w => decide (g.D (g.key w) = m)) = none := by
 rw [List.find?_eq_none]
 intro w hw
 have := (h w hw).2
 simp only [decide_eq_true_eq]
 omega
theorem Inv1.weak {m : Nat} {o : List κ × List ω} (h : g.Inv1 (m + 1) o) : g.Inv1 m o :=
 ⟨fun k hk => ⟨(h.1 k hk).1, by have := (h.1 k hk).2; omega⟩, fun k hk => ⟨(h.2 k hk).1, by have := (h.2 k hk).2; omega⟩⟩
theorem port_hit {m : Nat} {t w : ω} {p : Nat} {o : List κ × List ω} (h : g.Inv1 (m + 1) o) (hs : g.stp w p = some t) (ht : g.key t ∈ g.states) (hd : g.D (g.key t) = m) : g.Inv2 m t (g.portI w p o) := by
 have hn : g.key t ∉ o.1 := fun hm => by
  have := (h.1 _ hm).2
  omega
 refine ⟨g.port1 (Inv1.weak g h) (fun w' e => ?_), ?_⟩
 ·rw [hs] at e; cases e
  exact ⟨ht, .inr (by omega)⟩
 ·rw [portI, hs]
  simp only
  rw [if_neg hn, List.find?_append, g.find_no h.2, Option.none_or]
  simp [hd]
theorem succ_ok {m : Nat} {w w' : ω} {p : Nat} (hw : g.ok m (g.key w)) (hp : p < g.np (g.key w)) (hs : g.stp w p = some w') : g.key w' ∈ g.states ∧ g.sk (g.key w) p = some (g.key w') ∧ (g.D (g.key w') < 0 ∨ (m : Int) ≤ g.D (g.key w') + 1) := by
 have hk := g.hk w p
 rw [hs, Option.map_some] at hk
 have hm := g.cls _ p _ hw.1 hp hk.symm
 refine ⟨hm, hk.symm, ?_⟩
 by_cases h0 : g.D (g.key w') < 0
 ·exact .inl h0
 ·have := g.D_up (n := (g.D (g.key w')).toNat) hw.1 hp hk.symm (by omega)
  have := hw.2
  omega
theorem ports1 {m : Nat} {w : ω} {o : List κ × List ω} (h : g.Inv1 (m + 1) o) (hw : g.ok (m + 1) (g.key w)) : ∀ n, n ≤ g.np (g.key w) → (∀ q, q < n → g.hit g.D m (g.key w) q = false) → g.Inv1 (m + 1) (g.portN w o n)
 | 0, _, _ => h
 | n + 1, hn, hq => by
  rw [portN]
  refine g.port1 (ports1 h hw n (by omega) (fun q hq' => hq q (by omega))) (fun w' e => ?_)
  obtain ⟨h1, h2, h3⟩ := g.succ_ok hw (by omega) e
  refine ⟨h1, ?_⟩
  have := hq n (by omega)
  rw [hit, h2] at this
  simp only [decide_eq_false_iff_not] at this
  omega
theorem ports2 {m : Nat} {t w : ω} {o : List κ × List ω} (h : g.Inv2 m t o) (hw : g.ok (m + 1) (g.key w)) : ∀ n, n ≤ g.np (g.key w) → g.Inv2 m t (g.portN w o n)
 | 0, _ => h
 | n + 1, hn => by
  rw [portN]
  refine g.port2 (ports2 h hw n (by omega)) (fun w' e => ?_)
  obtain ⟨h1, _, h3⟩ := g.succ_ok hw (by omega) e
  exact ⟨h1, by omega⟩
theorem ports_hit {m : Nat} {t w : ω} {o : List κ × List ω} {p : Nat} (h : g.Inv1 (m + 1) o) (hw : g.ok (m + 1) (g.key w)) (hs : g.stp w p = some t) (hp : p < g.np (g.key w)) (hd : g.D (g.key t) = m) (hq : ∀ q, q < p → g.hit g.D m (g.key w) q = false) : ∀ n, n ≤ g.np (g.key w) → p < n → g.Inv2 m t (g.portN w o n)
 | 0, _, h0 => absurd h0 (Nat.not_lt_zero _)
 | n + 1, hn, h0 => by
  rw [portN]
  by_cases e : p = n
  ·subst e
   exact g.port_hit (g.ports1 h hw p (by omega) hq) hs (g.succ_ok hw hp hs).1 hd
  ·refine g.port2 (ports_hit h hw hs hp hd hq n (by omega) (by omega)) (fun w' e => ?_)
   obtain ⟨h1, _, h3⟩ := g.succ_ok hw (by omega) e
   exact ⟨h1, by omega⟩
theorem no_hit {m : Nat} {w : ω} (hw : g.ok (m + 1) (g.key w)) (hne : ¬ g.D (g.key w) = ((m + 1 : Nat) : Int)) {q : Nat} (hq : q < g.np (g.key w)) : g.hit g.D m (g.key w) q = false := by
 cases hh : g.hit g.D m (g.key w) q with
 | false => rfl
 | true =>
  rw [hit_iff] at hh
  obtain ⟨k', e, hd⟩ := hh
  have := g.D_up hw.1 hq e hd
  have := hw.2
  omega
theorem row1 {m : Nat} : ∀ (Q : List ω) (o : List κ × List ω), g.Inv1 (m + 1) o → (∀ w ∈ Q, g.ok (m + 1) (g.key w)) → (∀ w ∈ Q, ¬ g.D (g.key w) = ((m + 1 : Nat) : Int)) → g.Inv1 (m + 1) (g.rowL Q o)
 | [], o, h, _, _ => h
 | w :: Q, o, h, hQ, hn => by
  rw [rowL, List.foldl_cons]
  exact row1 Q _ (g.ports1 h (hQ w (by simp)) _ (Nat.le_refl _) (fun q hq => g.no_hit (hQ w (by simp)) (hn w (by simp)) hq)) (fun x hx => hQ x (by simp [hx])) (fun x hx => hn x (by simp [hx]))
theorem row2 {m : Nat} {t : ω} : ∀ (Q : List ω) (o : List κ × List ω), g.Inv2 m t o → (∀ w ∈ Q, g.ok (m + 1) (g.key w)) → g.Inv2 m t (g.rowL Q o)
 | [], o, h, _ => h
 | w :: Q, o, h, hQ => by
  rw [rowL, List.foldl_cons]
  exact row2 Q _ (g.ports2 h (hQ w (by simp)) _ (Nat.le_refl _)) (fun x hx => hQ x (by simp [hx]))
theorem rowL_append {P Q : List ω} {o : List κ × List ω} : g.rowL (P ++ Q) o = g.rowL Q (g.rowL P o) := by rw [rowL, List.foldl_append]; rfl
theorem row_hit {m : Nat} {w t : ω} {Q : List ω} {o : List κ × List ω} (h : g.Inv1 (m + 1) o) (hQ : ∀ x ∈ Q, g.ok (m + 1) (g.key x)) (hf : Q.find? (fun x => decide (g.D (g.key x) = ((m + 1 : Nat) : Int))) = some w) {p : Nat} (hp : p < g.np (g.key w)) (hs : g.stp w p = some t) (hd : g.D (g.key t) = m) (hq : ∀ q, q < p → g.hit g.D m (g.key w) q = false) : g.Inv2 m t (g.rowL Q o) := by
 rw [List.find?_eq_some_iff_append] at hf
 obtain ⟨h1, as1, bs, e, h2⟩ := hf
 subst e
 rw [g.rowL_append]
 have hA := g.row1 as1 o h (fun x hx => hQ x (by simp [hx])) (fun x hx => by have := h2 x hx; simpa using this)
 show g.Inv2 m t (List.foldl _ _ (w :: bs))
 rw [List.foldl_cons]
 have hw := hQ w (by simp)
 exact g.row2 bs _ (g.ports_hit hA hw hs hp hd hq _ (Nat.le_refl _) hp) (fun x hx => hQ x (by simp [hx]))
theorem bfs_finds : ∀ (n f : Nat) (S : List κ) (Q : List ω) (w : ω), n < f → g.Inv1 n (S, Q) → Q.find? (fun x => decide (g.D (g.key x) = (n : Int))) = some w → g.bfs f S Q = some (g.walk n w)
 | n, 0, _, _, _, h, _, _ => absurd h (Nat.not_lt_zero _)
 | 0, f + 1, S, Q, w, _, _, hf => by
  have hne : Q.isEmpty = false := by
   cases Q with
   | nil => simp at hf
   | cons _ _ => rfl
  have hp : (fun x => decide (g.D (g.key x) = ((0 : Nat) : Int))) = fun x => g.acc (g.key x) := by
   funext x
   rw [Bool.eq_iff_iff, decide_eq_true_eq]
   exact g.D_zero
  rw [hp] at hf
  rw [bfs, hne, hf]
  rfl
 | n + 1, f + 1, S, Q, w, hn, hI, hf => by
  have hne : Q.isEmpty = false := by
   cases Q with
   | nil => simp at hf
   | cons _ _ => rfl
  have hac : Q.find? (fun x => g.acc (g.key x)) = none := by
   rw [List.find?_eq_none]
   intro x hx ha
   have h0 := (g.D_zero).2 ha
   have := (hI.2 x hx).2
   omega
  have hd : g.D (g.key w) = ((n + 1 : Nat) : Int) := by simpa using List.find?_some hf
  obtain ⟨p, t, _, hp, hs, _, hdt, he, hq⟩ := g.walk_step hd
  have := g.row_hit (o := (S, [])) ⟨hI.1, fun _ h => by cases h⟩ hI.2 hf hp hs hdt hq
  rw [bfs, hne, hac, he]
  exact bfs_finds n f _ _ t (by omega) this.1 this.2
theorem bfs_none : ∀ (f : Nat) (S : List κ) (Q : List ω), (∀ w ∈ Q, g.key w ∈ g.states ∧ g.D (g.key w) < 0) → g.bfs f S Q = none
 | 0, _, _, _ => rfl
 | f + 1, S, Q, h => by
  rw [bfs]
  split
  ·rfl
  have hac : Q.find? (fun x => g.acc (g.key x)) = none := by
   rw [List.find?_eq_none]
   intro x hx ha
   have h0 := (g.D_zero).2 ha
   have := (h x hx).2
   omega
  rw [hac]
  refine bfs_none f _ _ ?_
  have hport : ∀ w ∈ Q, ∀ (n : Nat) (o : List κ × List ω), n ≤ g.np (g.key w) → (∀ x ∈ o.2, g.key x ∈ g.states ∧ g.D (g.key x) < 0) → ∀ x ∈ (g.portN w o n).2, g.key x ∈ g.states ∧ g.D (g.key x) < 0 := by
   intro w hw n
   induction n with
   | zero => intro o _ ho; exact ho
   | succ n ih =>
    intro o hn ho
    rw [portN, portI]
    split
    ·exact ih o (by omega) ho
    ·rename_i w' e
     split
     ·exact ih o (by omega) ho
     ·intro x hx
      rcases List.mem_append.1 hx with hx | hx
      ·exact ih o (by omega) ho x hx
      ·rw [List.mem_singleton.1 hx]
       have hk := g.hk w n
       rw [e, Option.map_some] at hk
       have hm := g.cls _ n _ (h w hw).1 (by omega) hk.symm
       refine ⟨hm, ?_⟩
       have h2 := (h w hw).2
       by_cases h0 : g.D (g.key w') < 0
       ·exact h0
       ·have := g.D_up (n := (g.D (g.key w')).toNat) (h w hw).1 (by omega) hk.symm (by omega)
        omega
  have hrow : ∀ (P : List ω) (o : List κ × List ω), (∀ w ∈ P, w ∈ Q) → (∀ x ∈ o.2, g.key x ∈ g.states ∧ g.D (g.key x) < 0) → ∀ x ∈ (g.rowL P o).2, g.key x ∈ g.states ∧ g.D (g.key x) < 0 := by
   intro P
   induction P with
   | nil => intro o _ ho; exact ho
   | cons w P ih =>
    intro o hP ho
    rw [rowL, List.foldl_cons]
    exact ih _ (fun x hx => hP x (by simp [hx])) (hport w (hP w (by simp)) _ o (Nat.le_refl _) ho)
  exact hrow Q (S, []) (fun _ h => h) (fun _ h => by cases h)
def found (w : ω) : Option ω := if g.D (g.key w) < 0 then none else some (g.walk (g.D (g.key w)).toNat w)
theorem bfs_eq {w : ω} (hw : g.key w ∈ g.states) {f : Nat} (hf : g.states.length < f) : g.bfs f [g.key w] [w] = g.found w := by
 rw [found]
 split
 ·rename_i h
  exact g.bfs_none f _ _ (fun x hx => by rw [List.mem_singleton.1 hx]; exact ⟨hw, h⟩)
 ·rename_i h
  have hr := g.dN_rng g.states.length (g.key w)
  have hD : g.D (g.key w) = g.dN g.states.length (g.key w) := rfl
  refine g.bfs_finds _ f _ _ w (by omega) ⟨fun k hk => ?_, fun x hx => ?_⟩ ?_
  ·rw [List.mem_singleton.1 hk]; exact ⟨hw, .inr (by omega)⟩
  ·rw [List.mem_singleton.1 hx]; exact ⟨hw, .inr (by omega)⟩
  ·rw [List.find?_cons, decide_eq_true (by omega)]
def Sn (S : List κ) : Prop := S.Nodup ∧ ∀ k ∈ S, k ∈ g.states
theorem Sn.len {S : List κ} (h : g.Sn S) : S.length ≤ g.states.length := nodup_le S g.states h.1 h.2
theorem port_sn {w : ω} {p : Nat} {o : List κ × List ω} (h : g.Sn o.1) (hw : g.key w ∈ g.states) (hp : p < g.np (g.key w)) : g.Sn (g.portI w p o).1 ∧ (g.portI w p o).1.length = o.1.length + ((g.portI w p o).2.length - o.2.length) ∧ o.2.length ≤ (g.portI w p o).2.length := by
 rw [portI]
 split
 ·exact ⟨h, by omega, Nat.le_refl _⟩
 ·rename_i w' e
  split
  ·exact ⟨h, by omega, Nat.le_refl _⟩
  ·rename_i hn
   have hk := g.hk w p
   rw [e, Option.map_some] at hk
   have hm := g.cls _ p _ hw hp hk.symm
   refine ⟨⟨?_, fun k hk => ?_⟩, by simp, by simp⟩
   ·rw [List.nodup_append]
    refine ⟨h.1, by simp, fun a ha b hb => ?_⟩
    rw [List.mem_singleton.1 hb]
    exact fun e => hn (e ▸ ha)
   ·rcases List.mem_append.1 hk with hk | hk
    ·exact h.2 k hk
    ·rw [List.mem_singleton.1 hk]; exact hm
theorem ports_sn {w : ω} {o : List κ × List ω} (h : g.Sn o.1) (hw : g.key w ∈ g.states) : ∀ n, n ≤ g.np (g.key w) → g.Sn (g.portN w o n).1 ∧ (g.portN w o n).1.length = o.1.length + ((g.portN w o n).2.length - o.2.length) ∧ o.2.length ≤ (g.portN w o n).2.length ∧ (∀ x ∈ (g.portN w o n).2, x ∈ o.2 ∨ g.key x ∈ g.states)
 | 0, _ => ⟨h, by simp [portN], Nat.le_refl _, fun x hx => .inl hx⟩
 | n + 1, hn => by
  obtain ⟨h1, h2, h3, h4⟩ := ports_sn h hw n (by omega)
  obtain ⟨g1, g2, g3⟩ := g.port_sn (p := n) h1 hw (by omega)
  refine ⟨g1, ?_, ?_, ?_⟩
  ·rw [portN]; omega
  ·rw [portN]; omega
  ·rw [portN, portI]
   split
   ·exact h4
   ·rename_i w' e
    split
    ·exact h4
    ·intro x hx
     rcases List.mem_append.1 hx with hx | hx
     ·exact h4 x hx
     ·rw [List.mem_singleton.1 hx]
      have hk := g.hk w n
      rw [e, Option.map_some] at hk
      exact .inr (g.cls _ n _ hw (by omega) hk.symm)
theorem row_sn : ∀ {Q : List ω} {o : List κ × List ω}, g.Sn o.1 → (∀ w ∈ Q, g.key w ∈ g.states) → g.Sn (g.rowL Q o).1 ∧ (g.rowL Q o).1.length = o.1.length + ((g.rowL Q o).2.length - o.2.length) ∧ o.2.length ≤ (g.rowL Q o).2.length ∧ (∀ x ∈ (g.rowL Q o).2, x ∈ o.2 ∨ g.key x ∈ g.states)
 | [], o, h, _ => ⟨h, by simp [rowL], Nat.le_refl _, fun x hx => .inl hx⟩
 | w :: Q, o, h, hQ => by
  obtain ⟨h1, h2, h3, h4⟩ := g.ports_sn h (hQ w (by simp)) _ (Nat.le_refl _)
  obtain ⟨g1, g2, g3, g4⟩ := row_sn (Q := Q) (o := g.portN w o (g.np (g.key w))) h1 (fun x hx => hQ x (by simp [hx]))
  rw [rowL, List.foldl_cons]
  rw [rowL] at g1 g2 g3 g4
  refine ⟨g1, by omega, by omega, fun x hx => ?_⟩
  rcases g4 x hx with h | h
  ·exact h4 x h
  ·exact .inr h
def run : ω → List Nat → Option ω
 | w, [] => some w
 | w, p :: ps => if p < g.np (g.key w) then match g.stp w p with | some w' => run w' ps | none => none else none
def gports : Nat → ω → List Nat
 | 0, _ => []
 | n + 1, w => match g.first n (g.key w) with
  | none => []
  | some p => match g.stp w p with
   | none => []
   | some w' => p :: gports n w'
theorem gports_step {n : Nat} {w : ω} (h : g.D (g.key w) = ((n + 1 : Nat) : Int)) : ∃ p w', g.first n (g.key w) = some p ∧ p < g.np (g.key w) ∧ g.stp w p = some w' ∧ g.D (g.key w') = n ∧ g.walk (n + 1) w = g.walk n w' ∧ g.gports (n + 1) w = p :: g.gports n w' ∧ ∀ q, q < p → g.hit g.D n (g.key w) q = false := by
 obtain ⟨p, w', h1, h2, h3, _, h5, h6, h7⟩ := g.walk_step h
 refine ⟨p, w', h1, h2, h3, h5, h6, ?_, h7⟩
 rw [gports, h1]
 simp only [h3]
theorem walk_run : ∀ (n : Nat) (w : ω), g.D (g.key w) = (n : Int) → g.run w (g.gports n w) = some (g.walk n w) ∧ (g.gports n w).length = n ∧ g.acc (g.key (g.walk n w)) = true
 | 0, w, h => ⟨rfl, rfl, (g.D_zero).1 h⟩
 | n + 1, w, h => by
  obtain ⟨p, w', h1, h2, h3, h5, h6, h7, _⟩ := g.gports_step h
  obtain ⟨i1, i2, i3⟩ := walk_run n w' h5
  rw [h6, h7]
  refine ⟨?_, by simp [i2], i3⟩
  rw [run, if_pos h2, h3]
  exact i1
theorem run_D : ∀ (ps : List Nat) (w w' : ω), g.key w ∈ g.states → g.run w ps = some w' → g.acc (g.key w') = true → 0 ≤ g.D (g.key w) ∧ g.D (g.key w) ≤ ps.length
 | [], w, w', _, h, ha => by
  cases h
  have := (g.D_zero).2 ha
  rw [this]; simp
 | p :: ps, w, w', hw, h, ha => by
  rw [run] at h
  split at h
  ·rename_i hp
   cases hs : g.stp w p with
   | none => rw [hs] at h; cases h
   | some x =>
    rw [hs] at h
    have hk := g.hk w p
    rw [hs, Option.map_some] at hk
    have hm := g.cls _ p _ hw hp hk.symm
    obtain ⟨i1, i2⟩ := run_D ps x w' hm h ha
    have := g.D_up (n := (g.D (g.key x)).toNat) hw hp hk.symm (by omega)
    simp only [List.length_cons]
    omega
  ·cases h
def lex : List Nat → List Nat → Prop
 | x :: xs, y :: ys => x < y ∨ (x = y ∧ lex xs ys)
 | _, _ => True
theorem run_lex : ∀ (n : Nat) (ps : List Nat) (w w' : ω), g.key w ∈ g.states → g.D (g.key w) = (n : Int) → g.run w ps = some w' → g.acc (g.key w') = true → ps.length = n → lex (g.gports n w) ps
 | 0, _, _, _, _, _, _, _, _ => by simp [gports, lex]
 | n + 1, [], _, _, _, _, _, _, h => by cases h
 | n + 1, q :: ps, w, w', hw, hd, h, ha, hl => by
  obtain ⟨p, x, h1, h2, h3, h5, h6, h7, h8⟩ := g.gports_step hd
  rw [h7]
  rw [run] at h
  split at h
  ·rename_i hq
   cases hs : g.stp w q with
   | none => rw [hs] at h; cases h
   | some y =>
    rw [hs] at h
    have hk := g.hk w q
    rw [hs, Option.map_some] at hk
    have hm := g.cls _ q _ hw hq hk.symm
    obtain ⟨i1, i2⟩ := g.run_D ps y w' hm h ha
    have hup := g.D_up (n := (g.D (g.key y)).toNat) hw hq hk.symm (by omega)
    have hl' : ps.length = n := by simpa using hl
    have hdy : g.D (g.key y) = n := by omega
    have hhit : g.hit g.D n (g.key w) q = true := (g.hit_iff).2 ⟨_, hk.symm, hdy⟩
    by_cases hlt : q < p
    ·rw [h8 q hlt] at hhit; cases hhit
    ·by_cases e : p = q
     ·subst e
      rw [h3] at hs
      cases hs
      exact .inr ⟨rfl, run_lex n ps x w' hm hdy h ha hl'⟩
     ·exact .inl (by omega)
  ·cases h
end Gph
end Go.Proofs.Yticeakkgoafiaaa

/- Chapter 43: hops, walkers and their steps; the search for a route as a search in a graph. -/
set_option maxRecDepth 100000
set_option linter.all false
namespace Go.Proofs.Yticeakkgoafiaaa
open Go.Vm
structure Hop where
 sw : Int
 inp : Int
 out : Int
 deriving DecidableEq
instance : Inhabited Hop := ⟨⟨0, 0, 0⟩⟩
def encH (h : Hop) : List V := [.int .i64 h.sw, .int .i64 h.inp, .int .i64 h.out]
def slH (l : List Hop) : V := .sl false (l.flatMap encH) l.length
theorem lenH (x : Hop) : (encH x).length = 3 := rfl
theorem gfp_lenH (xs : List (Hop)) (i : Nat) (h : i < xs.length) (m : Nat) (hm : m ≤ 3) : getV ((xs.flatMap encH).drop (i * 3)) 0 m = getV (encH xs[i]) 0 m := get_flat_part lenH xs i h m hm
theorem gfd_lenH (xs : List (Hop)) (i : Nat) (h : i < xs.length) (o m : Nat) (hm : o + m ≤ 3) : getV (((xs.flatMap encH).drop (i * 3)).drop o) 0 m = getV (encH xs[i]) o m := get_flat_drop lenH xs i h o m hm
theorem lfl_lenH (xs : List (Hop)) : (xs.flatMap encH).length = xs.length * 3 := len_flat lenH xs
@[simp] theorem belH {n : Nat} (x : Hop) : belAll n (encH x) = true := rfl
@[simp] theorem bel_Hs {n : Nat} (xs : List Hop) : belAll n (xs.flatMap encH) = true := belAll_flat belH xs
@[simp] theorem bel_slH {n : Nat} (l : List Hop) : (slH l).bel n = true := by unfold slH; rw [bel_sl]; exact bel_Hs l
theorem take_H {xs : List Hop} : (xs.flatMap encH).take (xs.length * 3) = xs.flatMap encH := by
 rw [List.take_of_length_le (by rw [len_flat lenH]; exact Nat.le_refl _)]
theorem shs_H {k : Nat} (xs : List Hop) : shs k (xs.flatMap encH) = xs.flatMap encH := shs_bel _ (bel_Hs xs)
structure Wr where
 sw : Int
 q : Int
 inp : Int
 out : List Hop
 deriving DecidableEq
def kW (w : Wr) : Int × Int := (w.sw, w.q)
def finW (w : Wr) (d : Int) : List Hop := w.out ++ [⟨w.sw, w.inp, d⟩]
def nxA (a : Tb) (q s : Int) : Int := gI (a.next.getD q.toNat []) s
def skR (t : Top.Tp) (a : Tb) (k : Int × Int) (p : Nat) : Option (Int × Int) :=
 if (Top.peer t (k.1, (p : Int))).2 ≠ 0 then none else
 if nxA a k.2 (Top.peer t (k.1, (p : Int))).1.1 < 0 then none else some ((Top.peer t (k.1, (p : Int))).1.1, nxA a k.2 (Top.peer t (k.1, (p : Int))).1.1)
def stpR (t : Top.Tp) (a : Tb) (w : Wr) (p : Nat) : Option Wr :=
 if (Top.peer t (w.sw, (p : Int))).2 ≠ 0 then none else
 if nxA a w.q (Top.peer t (w.sw, (p : Int))).1.1 < 0 then none else
 some ⟨(Top.peer t (w.sw, (p : Int))).1.1, nxA a w.q (Top.peer t (w.sw, (p : Int))).1.1, (Top.peer t (w.sw, (p : Int))).1.2, w.out ++ [⟨w.sw, w.inp, (p : Int)⟩]⟩
theorem stp_sk (t : Top.Tp) (a : Tb) (w : Wr) (p : Nat) : (stpR t a w p).map kW = skR t a (kW w) p := by
 rw [stpR, skR, kW]
 split
 ·rfl
 ·split <;> rfl
def npR (t : Top.Tp) (k : Int × Int) : Nat := (gI t.ports k.1).toNat
def accR (a : Tb) (dst : Int) (k : Int × Int) : Bool := decide (k.1 = dst) && gB a.acc k.2
def statesR (t : Top.Tp) (a : Tb) : List (Int × Int) := (List.range t.ports.length).flatMap fun s => (List.range a.next.length).map fun q => (((s : Nat) : Int), ((q : Nat) : Int))
theorem mem_states {t : Top.Tp} {a : Tb} {k : Int × Int} : k ∈ statesR t a ↔ (0 ≤ k.1 ∧ k.1 < t.ports.length) ∧ 0 ≤ k.2 ∧ k.2 < a.next.length := by
 obtain ⟨s, q⟩ := k
 simp only [statesR, List.mem_flatMap, List.mem_map, List.mem_range, Prod.mk.injEq]
 constructor
 ·rintro ⟨x, hx, y, hy, rfl, rfl⟩
  omega
 ·rintro ⟨⟨h1, h2⟩, h3, h4⟩
  exact ⟨s.toNat, by omega, q.toNat, by omega, by omega, by omega⟩
theorem len_states {t : Top.Tp} {a : Tb} : (statesR t a).length = t.ports.length * a.next.length := by
 have : ∀ (l : List Nat), (l.flatMap fun s => (List.range a.next.length).map fun q => (((s : Nat) : Int), ((q : Nat) : Int))).length = l.length * a.next.length := by
  intro l
  induction l with
  | nil => simp
  | cons x l ih => rw [List.flatMap_cons, List.length_append, ih, List.length_map, List.length_range, List.length_cons, Nat.succ_mul]; omega
 rw [statesR, this, List.length_range]
theorem peer_rng {t : Top.Tp} (h0 : Top.chk t = 0) {p : Int × Int} (h : (Top.peer t p).2 = 0) : 0 ≤ (Top.peer t p).1.1 ∧ (Top.peer t p).1.1 < t.ports.length := by
 rcases (Top.chk_valid h0).portIs h0 p with ⟨_, h1⟩ | ⟨_, _, _, _, _, h1⟩ | ⟨_, _, q, x, y, _, _, _, h1, _, _, h2, _, h3, _⟩
 ·rw [h1] at h; cases h
 ·rw [h1] at h; cases h
 ·rw [h1]; simp only; omega
theorem nxA_rng {a : Tb} {n m : Nat} (ha : okT n m a) {q s : Int} (hq : 0 ≤ q ∧ q < n) (hs : 0 ≤ s ∧ s < m) : -1 ≤ nxA a q s ∧ nxA a q s < n := by
 have hr := ha.rows
 have hmem : a.next.getD q.toNat [] ∈ a.next := by
  rw [List.getD_eq_getElem?_getD, List.getElem?_eq_getElem (by omega)]
  exact List.getElem_mem _
 have hl := ha.row _ hmem
 have hx := ha.rng _ hmem
 refine hx _ ?_
 rw [nxA, gI]
 generalize a.next.getD q.toNat [] = r at hl
 rw [List.getD_eq_getElem?_getD, List.getElem?_eq_getElem (by omega)]
 exact List.getElem_mem _
structure Fit (t : Top.Tp) (a : Tb) : Prop where
 top : Top.chk t = 0
 aut : okT a.next.length t.ports.length a
 few : a.next.length ≤ 64
theorem skR_cls {t : Top.Tp} {a : Tb} (h : Fit t a) {k k' : Int × Int} {p : Nat} (hk : k ∈ statesR t a) (hs : skR t a k p = some k') : k' ∈ statesR t a := by
 rw [mem_states] at hk ⊢
 rw [skR] at hs
 split at hs
 ·cases hs
 ·rename_i h1
  split at hs
  ·cases hs
  ·rename_i h2
   cases hs
   have hp := peer_rng h.top (p := (k.1, (p : Int))) (by omega)
   have := nxA_rng h.aut (q := k.2) hk.2 hp
   exact ⟨hp, by simp only; omega⟩
def gR (t : Top.Tp) (a : Tb) (dst : Int) (h : Fit t a) : Gph Wr (Int × Int) where
 key := kW
 np := npR t
 stp := stpR t a
 sk := skR t a
 acc := accR a dst
 hk := stp_sk t a
 states := statesR t a
 cls := fun _ _ _ hk _ hs => skR_cls h hk hs
def findR (t : Top.Tp) (a : Tb) (h : Fit t a) (src dst : Int × Int) : Option (List Hop) :=
 if nxA a 0 src.1 < 0 then none else ((gR t a dst.1 h).found ⟨src.1, nxA a 0 src.1, src.2, []⟩).map fun w => finW w dst.2
end Go.Proofs.Yticeakkgoafiaaa


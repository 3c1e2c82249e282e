/-
  Joined by a program from the texts Lvp Ptp Mcn.
-/
import Derived.Test.YtkjffppioddnpaaMb
/- Chapter 42: languages of states; live states (plain). -/
set_option maxRecDepth 100000
set_option maxHeartbeats 4000000
set_option linter.all false
namespace Go.Proofs.Ytkjffppioddnpaa
open Go.Vm

/-- whether a list leads from a state to an accepting one -/
def La (t : Tb) (q : Int) (l : List Int) : Bool := accq t (runA t q l)
theorem La_nil {t : Tb} {q : Int} : La t q [] = accq t q := rfl
theorem La_cons {t : Tb} {q s : Int} {l : List Int} : La t q (s :: l) = La t (suc t q s) l := rfl
theorem suc_neg {t : Tb} {q s : Int} (h : q < 0) : suc t q s = -1 := by rw [suc, if_pos (.inl h)]
theorem La_neg {t : Tb} : ∀ {l : List Int} {q : Int}, q < 0 → La t q l = false
  | [], q, h => by rw [La_nil, accq, decide_eq_false (by omega), Bool.false_and]
  | s :: l, q, h => by rw [La_cons, suc_neg h]; exact La_neg (by decide)
/-- no list leads to an accepting state -/
def Dd (t : Tb) (q : Int) : Prop := ∀ l, La t q l = false
/-- the same lists -/
def Eq2 (t : Tb) (q : Int) (t' : Tb) (q' : Int) : Prop := ∀ l, La t q l = La t' q' l
theorem Eq2.suc {t t' : Tb} {q q' : Int} (h : Eq2 t q t' q') (s : Int) : Eq2 t (Go.Proofs.Ytkjffppioddnpaa.suc t q s) t' (Go.Proofs.Ytkjffppioddnpaa.suc t' q' s) := fun l => h (s :: l)
theorem Eq2.dd {t t' : Tb} {q q' : Int} (h : Eq2 t q t' q') : Dd t q ↔ Dd t' q' :=
  ⟨fun hd l => by rw [← h l]; exact hd l, fun hd l => by rw [h l]; exact hd l⟩
theorem Eq2.symm {t t' : Tb} {q q' : Int} (h : Eq2 t q t' q') : Eq2 t' q' t q := fun l => (h l).symm
theorem Eq2.trans {t t' t'' : Tb} {q q' q'' : Int} (h : Eq2 t q t' q') (h' : Eq2 t' q' t'' q'') : Eq2 t q t'' q'' := fun l => (h l).trans (h' l)
theorem Dd.neg {t : Tb} {q : Int} (h : q < 0) : Dd t q := fun _ => La_neg h
theorem Dd.suc {t : Tb} {q : Int} (h : Dd t q) (s : Int) : Dd t (Go.Proofs.Ytkjffppioddnpaa.suc t q s) := fun l => h (s :: l)
theorem eq2_dd {t t' : Tb} {q q' : Int} (h : Dd t q) (h' : Dd t' q') : Eq2 t q t' q' := fun l => by rw [h l, h' l]

section
variable {n m : Nat} {t : Tb} (ht : okT n m t)
include ht
theorem suc_at {q : Nat} (hq : q < n) {s : Nat} (hs : s < m) : suc t q s = gI (t.next.getD q []) s := by
  have hl := ht.rows
  have hr := ht.row _ (getRow0 hl hq)
  rw [suc, if_neg]
  · rw [Int.toNat_natCast]
  · rw [Int.toNat_natCast, hr]; omega
 where
  getRow0 {n : Nat} {q : Nat} (hl : t.next.length = n) (hq : q < n) : t.next.getD q [] ∈ t.next := by
    rw [List.getD_eq_getElem?_getD, List.getElem?_eq_getElem (by omega)]
    exact List.getElem_mem _
theorem row_mem {q : Nat} (hq : q < n) : t.next.getD q [] ∈ t.next := by
  have hl := ht.rows
  rw [List.getD_eq_getElem?_getD, List.getElem?_eq_getElem (by omega)]
  exact List.getElem_mem _
theorem row_len {q : Nat} (hq : q < n) : (t.next.getD q []).length = m := ht.row _ (row_mem ht hq)
theorem suc_out {q s : Int} (hq : q < (n : Int)) (hs : s < 0 ∨ (m : Int) ≤ s) : suc t q s = -1 := by
  by_cases h0 : q < 0
  · exact suc_neg h0
  · rw [suc, if_pos]
    have := row_len ht (q := q.toNat) (by omega)
    rw [this]
    omega
/-- the rules of the marks -/
def Lok (t : Tb) (n : Nat) (o : List Bool) : Prop := (∀ q, q < n → o.getD q false = true → ¬ Dd t q) ∧ (∀ q, q < n → t.acc.getD q false = true → o.getD q false = true) ∧ o.length = n
theorem getD_set {o : List Bool} {q k : Nat} (hq : q < o.length) : (o.set q true).getD k false = if q = k then true else o.getD k false := by
  rw [List.getD_eq_getElem?_getD, List.getD_eq_getElem?_getD, List.getElem?_set]
  by_cases h : q = k
  · subst h; simp [hq]
  · simp [h]
theorem toL_live {o : List Bool} (ho : Lok t n o) {q : Nat} (hq : q < n) (h : toL o (t.next.getD q []) = true) : ¬ Dd t q := by
  rw [toL, List.any_eq_true] at h
  obtain ⟨x, hx, h⟩ := h
  simp only [Bool.and_eq_true, decide_eq_true_eq] at h
  obtain ⟨j, hj, e⟩ := List.getElem_of_mem hx
  have hm := row_len ht hq
  have hxr := ht.rng _ (row_mem ht hq) x hx
  have hs := suc_at ht hq (s := j) (by omega)
  have hg : gI (t.next.getD q []) (j : Int) = x := by
    rw [gI, Int.toNat_natCast, List.getD_eq_getElem?_getD, List.getElem?_eq_getElem hj]; exact e
  rw [hg] at hs
  intro hd
  refine ho.1 x.toNat (by omega) h.2 ?_
  rw [show ((x.toNat : Nat) : Int) = x from by omega, ← hs]
  exact hd.suc j
theorem liveN_ok {o : List Bool} (ho : Lok t n o) : ∀ k, k ≤ n → Lok t n (liveN t o k).1
  | 0, _ => ho
  | k + 1, hk => by
    have ih := liveN_ok ho k (by omega)
    rw [liveN, liveI]
    split
    · rename_i h
      have hl := ih.2.2
      have hg := fun j => getD_set ht (o := (liveN t o k).1) (q := k) (k := j) (by omega)
      refine ⟨fun q hq hb => ?_, fun q hq ha => ?_, by rw [List.length_set]; exact hl⟩
      · simp only at hb
        rw [hg] at hb
        split at hb
        · rename_i e; subst e; exact toL_live ht ih hq h.2
        · exact ih.1 q hq hb
      · simp only
        rw [hg]
        split
        · rfl
        · exact ih.2.1 q hq ha
    · exact ih
theorem liveN_same {o : List Bool} : ∀ k, (liveN t o k).2 = false → (liveN t o k).1 = o ∧ ∀ q, q < k → o.getD q false = false → toL o (t.next.getD q []) = false
  | 0, _ => ⟨rfl, fun q h => by omega⟩
  | k + 1, h => by
    rw [liveN, liveI] at h ⊢
    split at h
    · cases h
    · rename_i hc
      obtain ⟨h1, h2⟩ := liveN_same k h
      rw [if_neg hc]
      refine ⟨h1, fun q hq hf => ?_⟩
      by_cases e : q = k
      · subst e
        rw [h1] at hc
        cases hb : toL o (t.next.getD q []) with
        | false => rfl
        | true => exact absurd ⟨hf, hb⟩ hc
      · exact h2 q (by omega) hf
theorem liveF_ok : ∀ (k : Nat) (o : List Bool), Lok t n o → cntF o < k → Lok t n (liveF t k o) ∧ ∀ q, q < n → (liveF t k o).getD q false = false → toL (liveF t k o) (t.next.getD q []) = false
  | 0, o, _, h => by omega
  | k + 1, o, ho, hk => by
    have hp : Lok t n (pass t o).1 := by
      have := liveN_ok ht ho n (Nat.le_refl _)
      rwa [pass, ht.rows]
    have hstep := liveF_step t (k := k + 1) (o := o) (by rw [ht.rows, ho.2.2]; exact Nat.le_refl _) hk
    rw [liveF]
    split
    · rename_i h
      have hl := (hstep.1 h).1
      exact liveF_ok k _ hp (by omega)
    · rename_i h
      rw [Bool.not_eq_true] at h
      refine ⟨hp, ?_⟩
      rw [pass] at h ⊢
      obtain ⟨h1, h2⟩ := liveN_same ht _ h
      rw [h1]
      intro q hq
      exact h2 q (by rw [ht.rows]; exact hq)
theorem live_iff {q : Nat} (hq : q < n) : (liveS t).getD q false = true ↔ ¬ Dd t q := by
  have h0 : Lok t n t.acc := by
    refine ⟨fun q hq h hd => ?_, fun q _ h => h, ht.accs⟩
    have := hd []
    rw [La_nil, accq, gB, Int.toNat_natCast, h, decide_eq_true (by omega)] at this
    cases this
  obtain ⟨h1, h2⟩ := liveF_ok ht (cntF t.acc + 1) t.acc h0 (by omega)
  rw [← liveS] at h1 h2
  refine ⟨h1.1 q hq, fun hn => ?_⟩
  cases hb : (liveS t).getD q false with
  | true => rfl
  | false =>
    exfalso
    refine hn ?_
    have key : ∀ (l : List Int) (q : Int), -1 ≤ q ∧ q < (n : Int) → (0 ≤ q → (liveS t).getD q.toNat false = false) → La t q l = false := by
      intro l
      induction l with
      | nil =>
        intro q hq hf
        by_cases h0 : 0 ≤ q
        · rw [La_nil, accq, gB]
          cases hacc : t.acc.getD q.toNat false with
          | false => rw [Bool.and_false]
          | true =>
            have := h1.2.1 q.toNat (by omega) hacc
            rw [hf h0] at this
            cases this
        · exact La_neg (by omega)
      | cons s l ih =>
        intro q hq hf
        rw [La_cons]
        refine ih _ (suc_rng ht hq) fun hs => ?_
        by_cases h0 : 0 ≤ q
        · have hd := h2 q.toNat (by omega) (hf h0)
          by_cases hsm : 0 ≤ s ∧ s < (m : Int)
          · have e := suc_at ht (q := q.toNat) (by omega) (s := s.toNat) (by omega)
            rw [show ((q.toNat : Nat) : Int) = q from by omega, show ((s.toNat : Nat) : Int) = s from by omega] at e
            have hm := row_len ht (q := q.toNat) (by omega)
            have hmem : gI (t.next.getD q.toNat []) s ∈ t.next.getD q.toNat [] := by
              have hsl : s.toNat < (t.next.getD q.toNat []).length := by omega
              rw [gI, lgetD hsl]
              exact List.getElem_mem _
            rw [toL, List.any_eq_false] at hd
            have := hd _ hmem
            rw [← e] at this
            cases hg : gB (liveS t) (suc t q s) with
            | false => exact hg
            | true => rw [hg, decide_eq_true hs] at this; exact absurd rfl this
          · rw [suc_out ht hq.2 (by omega)] at hs
            omega
        · rw [suc_neg (by omega)] at hs
          omega
    intro l
    exact key l q (by omega) (fun _ => by rw [Int.toNat_natCast]; exact hb)
end
end Go.Proofs.Ytkjffppioddnpaa

/- Chapter 42: classes of states (plain). -/
set_option maxRecDepth 100000
set_option maxHeartbeats 4000000
set_option linter.all false
namespace Go.Proofs.Ytkjffppioddnpaa
open Go.Vm

def clx (c : List Int) (x : Int) : Int := if 0 ≤ x then gI c x else -1
theorem sig_eq {c row : List Int} {q : Nat} : sigO c row q = c.getD q 0 :: row.map (clx c) := rfl
theorem clx_nat {c : List Int} {q : Nat} : clx c q = c.getD q 0 := by rw [clx, if_pos (by omega), gI, Int.toNat_natCast]
theorem clx_neg {c : List Int} {x : Int} (h : x < 0) : clx c x = -1 := by rw [clx, if_neg (by omega)]
/-- classes so far: not finer than the languages, not coarser than acceptance -/
structure Crs (n : Nat) (t : Tb) (c : List Int) : Prop where
  len : c.length = n
  rng : ∀ q, q < n → -1 ≤ c.getD q 0
  dd : ∀ q, q < n → (c.getD q 0 = -1 ↔ Dd t q)
  snd : ∀ q q', q < n → q' < n → Eq2 t q t q' → c.getD q 0 = c.getD q' 0
  acc : ∀ q q', q < n → q' < n → c.getD q 0 = c.getD q' 0 → t.acc.getD q false = t.acc.getD q' false
/-- classes that are the languages -/
structure Good (n : Nat) (t : Tb) (c : List Int) : Prop where
  len : c.length = n
  dd : ∀ x : Int, -1 ≤ x → x < (n : Int) → (clx c x < 0 ↔ Dd t x)
  eq : ∀ x y : Int, -1 ≤ x → x < (n : Int) → -1 ≤ y → y < (n : Int) → (clx c x = clx c y ↔ Eq2 t x t y)
theorem head_inj {l : List Int} {cnt : Nat} (hl : l.length = cnt) (h : ∀ k, k < cnt → ((k : Nat) : Int) ∈ l) {i j : Nat} (hi : i < l.length) (hj : j < l.length) (e : l[i]? = l[j]?) : i = j := by
  by_cases hij : i = j
  · exact hij
  exfalso
  have := len_sub (L := (List.range cnt).map fun (k : Nat) => (k : Int)) (D := l.eraseIdx j) (map_nodup (fun a b e => by omega) List.nodup_range) (fun x hx => by
    obtain ⟨k, hk, rfl⟩ := List.mem_map.1 hx
    rw [List.mem_range] at hk
    obtain ⟨u, hu, eu⟩ := List.getElem_of_mem (h k hk)
    rw [List.mem_eraseIdx_iff_getElem?]
    by_cases huj : u = j
    · refine ⟨i, hij, ?_⟩
      rw [e, ← huj, List.getElem?_eq_getElem hu, eu]
    · exact ⟨u, huj, by rw [List.getElem?_eq_getElem hu, eu]⟩)
  rw [List.length_map, List.length_range, List.length_eraseIdx, if_pos hj] at this
  omega
theorem refN_at (t : Tb) (c : List Int) : ∀ k q, q < k → (c.getD q 0 < 0 → (refN t c k).1.getD q 0 = -1) ∧ (¬ c.getD q 0 < 0 → ∃ j : Nat, (refN t c k).1.getD q 0 = (j : Int) ∧ (refN t c k).2[j]? = some (sigO c (t.next.getD q []) q))
  | 0, q, h => by omega
  | k + 1, q, h => by
    have hl := refN_len t c k
    have ih := refN_at t c k q
    have hlt : ∀ x : Int, q < k → ((refN t c k).1 ++ [x]).getD q 0 = (refN t c k).1.getD q 0 := fun x hq => by
      rw [List.getD_eq_getElem?_getD, List.getD_eq_getElem?_getD, List.getElem?_append_left (by omega)]
    have heq : ∀ x : Int, q = k → ((refN t c k).1 ++ [x]).getD q 0 = x := fun x hq => by
      rw [List.getD_eq_getElem?_getD, List.getElem?_append_right (by omega), show q - (refN t c k).1.length = 0 from by omega]; rfl
    by_cases hq : q < k
    · have ih := ih hq
      have hs : ∀ (j : Nat) (y : List (List Int)) (z : List Int), (refN t c k).2[j]? = some z → ((refN t c k).2 ++ y)[j]? = some z := fun j y z hj => by
        rw [List.getElem?_append_left (List.getElem?_eq_some_iff.1 hj).1]; exact hj
      rw [refN, refI]
      split
      · simp only [hlt _ hq]; exact ih
      · split
        · simp only [hlt _ hq]; exact ih
        · simp only [hlt _ hq]
          refine ⟨ih.1, fun hn => ?_⟩
          obtain ⟨j, h1, h2⟩ := ih.2 hn
          exact ⟨j, h1, hs j _ _ h2⟩
    · have hqk : q = k := by omega
      rw [refN, refI]
      split
      · rename_i hn
        rw [← hqk] at hn
        exact ⟨fun _ => heq _ hqk, fun h => absurd hn h⟩
      · rename_i hn
        rw [← hqk] at hn
        split
        · rename_i j hj
          simp only [heq _ hqk]
          refine ⟨fun h => absurd h hn, fun _ => ⟨j, rfl, ?_⟩⟩
          rw [hqk]
          exact idxL_some hj
        · simp only [heq _ hqk]
          refine ⟨fun h => absurd h hn, fun _ => ⟨_, rfl, ?_⟩⟩
          rw [List.getElem?_append_right (Nat.le_refl _), Nat.sub_self, hqk]
          first | rfl | trivial | simp
section
variable {n m : Nat} {t : Tb} (ht : okT n m t)
include ht
theorem clx_eq {c : List Int} (hc : Crs n t c) {x y : Int} (hx : -1 ≤ x ∧ x < (n : Int)) (hy : -1 ≤ y ∧ y < (n : Int)) (h : Eq2 t x t y) : clx c x = clx c y := by
  have aux : ∀ z : Int, -1 ≤ z ∧ z < (n : Int) → Dd t z → clx c z = -1 := fun z hz hd => by
    by_cases h0 : 0 ≤ z
    · obtain ⟨k, rfl⟩ : ∃ k : Nat, z = k := ⟨z.toNat, by omega⟩
      rw [clx_nat]
      exact (hc.dd k (by omega)).2 hd
    · exact clx_neg (by omega)
  by_cases hd : Dd t x
  · rw [aux x hx hd, aux y hy (h.dd.1 hd)]
  · have hx0 : 0 ≤ x := by
      by_cases h0 : 0 ≤ x
      · exact h0
      · exact absurd (Dd.neg (by omega)) hd
    have hy0 : 0 ≤ y := by
      by_cases h0 : 0 ≤ y
      · exact h0
      · exact absurd (h.dd.2 (Dd.neg (by omega))) hd
    obtain ⟨k, rfl⟩ : ∃ k : Nat, x = k := ⟨x.toNat, by omega⟩
    obtain ⟨j, rfl⟩ : ∃ j : Nat, y = j := ⟨y.toNat, by omega⟩
    rw [clx_nat, clx_nat]
    exact hc.snd k j (by omega) (by omega) h
theorem sig_same {c : List Int} (hc : Crs n t c) {q q' : Nat} (hq : q < n) (hq' : q' < n) (h : Eq2 t q t q') : sigO c (t.next.getD q []) q = sigO c (t.next.getD q' []) q' := by
  rw [sig_eq, sig_eq, hc.snd q q' hq hq' h]
  congr 1
  have l1 := row_len ht hq
  have l2 := row_len ht hq'
  refine List.ext_getElem (by simp only [List.length_map]; omega) fun j h1 h2 => ?_
  rw [List.length_map] at h1 h2
  rw [List.getElem_map, List.getElem_map]
  have e1 := suc_at ht hq (s := j) (by omega)
  have e2 := suc_at ht hq' (s := j) (by omega)
  rw [gI, Int.toNat_natCast, lgetD h1] at e1
  rw [gI, Int.toNat_natCast, lgetD h2] at e2
  rw [← e1, ← e2]
  exact clx_eq ht hc (suc_rng ht ⟨by omega, by omega⟩) (suc_rng ht ⟨by omega, by omega⟩) (h.suc j)
theorem ref_at (c : List Int) {q : Nat} (hq : q < n) : (c.getD q 0 < 0 → (ref t c).1.getD q 0 = -1) ∧ (¬ c.getD q 0 < 0 → ∃ j : Nat, (ref t c).1.getD q 0 = (j : Int) ∧ (ref t c).2[j]? = some (sigO c (t.next.getD q []) q)) := by
  rw [ref]
  exact refN_at t c _ q (by rw [ht.rows]; exact hq)
/-- as fine as what the states look like -/
theorem ref_sig (c : List Int) {q q' : Nat} (hq : q < n) (hq' : q' < n) (h0 : ¬ c.getD q 0 < 0) (h0' : ¬ c.getD q' 0 < 0) :
    (ref t c).1.getD q 0 = (ref t c).1.getD q' 0 ↔ sigO c (t.next.getD q []) q = sigO c (t.next.getD q' []) q' := by
  obtain ⟨j, h1, h2⟩ := (ref_at ht c hq).2 h0
  obtain ⟨j', h1', h2'⟩ := (ref_at ht c hq').2 h0'
  rw [h1, h1']
  constructor
  · intro e
    have : j = j' := by omega
    subst this
    rw [h2] at h2'
    exact Option.some.inj h2'
  · intro e
    rw [← e, ← h2] at h2'
    have hn := (refN_ok t c t.next.length).nodup
    rw [show refN t c t.next.length = ref t c from rfl] at hn
    have hj := (List.getElem?_eq_some_iff.1 h2).1
    have := (List.getElem?_inj hj hn).1 h2'.symm
    rw [this]
theorem ref_crs {c : List Int} (hc : Crs n t c) : Crs n t (ref t c).1 := by
  have hneg : ∀ q, q < n → (c.getD q 0 < 0 ↔ Dd t q) := fun q hq => by
    rw [← hc.dd q hq]
    have := hc.rng q hq
    omega
  refine ⟨by rw [ref_len, ht.rows], fun q hq => ?_, fun q hq => ?_, fun q q' hq hq' h => ?_, fun q q' hq hq' h => ?_⟩
  · by_cases h0 : c.getD q 0 < 0
    · rw [(ref_at ht c hq).1 h0]; omega
    · obtain ⟨j, h1, _⟩ := (ref_at ht c hq).2 h0
      rw [h1]; omega
  · rw [← hneg q hq]
    by_cases h0 : c.getD q 0 < 0
    · rw [(ref_at ht c hq).1 h0]; exact ⟨fun _ => h0, fun _ => rfl⟩
    · obtain ⟨j, h1, _⟩ := (ref_at ht c hq).2 h0
      rw [h1]
      constructor
      · intro h; omega
      · intro h; exact absurd h h0
  · by_cases h0 : c.getD q 0 < 0
    · have h0' : c.getD q' 0 < 0 := by rw [hneg q' hq', ← h.dd, ← hneg q hq]; exact h0
      rw [(ref_at ht c hq).1 h0, (ref_at ht c hq').1 h0']
    · have h0' : ¬ c.getD q' 0 < 0 := by rw [hneg q' hq', ← h.dd, ← hneg q hq]; exact h0
      exact (ref_sig ht c hq hq' h0 h0').2 (sig_same ht hc hq hq' h)
  · by_cases h0 : c.getD q 0 < 0
    · have h0' : c.getD q' 0 < 0 := by
        by_cases h1 : c.getD q' 0 < 0
        · exact h1
        · obtain ⟨j, h2, _⟩ := (ref_at ht c hq').2 h1
          rw [(ref_at ht c hq).1 h0, h2] at h
          omega
      have a1 := ((hneg q hq).1 h0) []
      have a2 := ((hneg q' hq').1 h0') []
      rw [La_nil, accq, gB, Int.toNat_natCast, decide_eq_true (by omega), Bool.true_and] at a1 a2
      rw [a1, a2]
    · have h0' : ¬ c.getD q' 0 < 0 := fun h1 => by
        obtain ⟨j, h2, _⟩ := (ref_at ht c hq).2 h0
        rw [(ref_at ht c hq').1 h1, h2] at h
        omega
      have := (ref_sig ht c hq hq' h0 h0').1 h
      rw [sig_eq, sig_eq] at this
      injection this with h3 _
      exact hc.acc q q' hq hq' h3
theorem ref_good {c : List Int} (hc : Crs n t c) {cnt : Nat} (hm : ∀ k, k < cnt → ((k : Nat) : Int) ∈ c) (he : (ref t c).2.length = cnt) : Good n t (ref t c).1 := by
  have hr := ref_crs ht hc
  have hneg : ∀ q, q < n → (c.getD q 0 < 0 ↔ Dd t q) := fun q hq => by
    rw [← hc.dd q hq]
    have := hc.rng q hq
    omega
  -- states of one class look alike
  have stable : ∀ q q', q < n → q' < n → ¬ c.getD q 0 < 0 → c.getD q 0 = c.getD q' 0 → sigO c (t.next.getD q []) q = sigO c (t.next.getD q' []) q' := by
    intro q q' hq hq' h0 e
    have h0' : ¬ c.getD q' 0 < 0 := by rw [← e]; exact h0
    obtain ⟨j, _, h2⟩ := (ref_at ht c hq).2 h0
    obtain ⟨j', _, h2'⟩ := (ref_at ht c hq').2 h0'
    have hj := (List.getElem?_eq_some_iff.1 h2).1
    have hj' := (List.getElem?_eq_some_iff.1 h2').1
    have hl : ((ref t c).2.map fun s => s.headD 0).length = cnt := by rw [List.length_map, he]
    have hall : ∀ k, k < cnt → ((k : Nat) : Int) ∈ (ref t c).2.map fun s => s.headD 0 := fun k hk => by
      obtain ⟨u, hu, eu⟩ := List.getElem_of_mem (hm k hk)
      have hg : c.getD u 0 = (k : Int) := by rw [lgetD hu]; exact eu
      have hun : u < n := by rw [← hc.len]; exact hu
      obtain ⟨i, _, h4⟩ := (ref_at ht c hun).2 (by rw [hg]; omega)
      refine List.mem_map.2 ⟨_, List.mem_of_getElem? h4, ?_⟩
      rw [sig_eq, hg]; rfl
    have := head_inj hl hall (i := j) (j := j') (by rw [List.length_map]; exact hj) (by rw [List.length_map]; exact hj') (by
      rw [List.getElem?_map, List.getElem?_map, h2, h2', Option.map_some, Option.map_some, sig_eq, sig_eq, e]; rfl)
    subst this
    rw [h2] at h2'
    exact Option.some.inj h2'
  have key : ∀ (l : List Int) (x y : Int), -1 ≤ x ∧ x < (n : Int) → -1 ≤ y ∧ y < (n : Int) → clx c x = clx c y → La t x l = La t y l := by
    have cdd : ∀ z : Int, -1 ≤ z ∧ z < (n : Int) → clx c z < 0 → Dd t z := fun z hz h => by
      by_cases h0 : 0 ≤ z
      · obtain ⟨k, rfl⟩ : ∃ k : Nat, z = k := ⟨z.toNat, by omega⟩
        rw [clx_nat] at h
        exact (hneg k (by omega)).1 h
      · exact Dd.neg (by omega)
    intro l
    induction l with
    | nil =>
      intro x y hx hy h
      by_cases h0 : clx c x < 0
      · rw [cdd x hx h0 [], cdd y hy (by rw [← h]; exact h0) []]
      · have hx0 : 0 ≤ x := by
          by_cases h1 : 0 ≤ x
          · exact h1
          · rw [clx_neg (by omega)] at h0; omega
        have hy0 : 0 ≤ y := by
          by_cases h1 : 0 ≤ y
          · exact h1
          · rw [h, clx_neg (by omega)] at h0; omega
        obtain ⟨k, rfl⟩ : ∃ k : Nat, x = k := ⟨x.toNat, by omega⟩
        obtain ⟨j, rfl⟩ : ∃ j : Nat, y = j := ⟨y.toNat, by omega⟩
        rw [clx_nat, clx_nat] at h
        have := hc.acc k j (by omega) (by omega) h
        rw [La_nil, La_nil, accq, accq, gB, gB, Int.toNat_natCast, Int.toNat_natCast, this, decide_eq_true (by omega), decide_eq_true (by omega)]
    | cons s l ih =>
      intro x y hx hy h
      by_cases h0 : clx c x < 0
      · rw [cdd x hx h0 _, cdd y hy (by rw [← h]; exact h0) _]
      · have hx0 : 0 ≤ x := by
          by_cases h1 : 0 ≤ x
          · exact h1
          · rw [clx_neg (by omega)] at h0; omega
        have hy0 : 0 ≤ y := by
          by_cases h1 : 0 ≤ y
          · exact h1
          · rw [h, clx_neg (by omega)] at h0; omega
        obtain ⟨k, rfl⟩ : ∃ k : Nat, x = k := ⟨x.toNat, by omega⟩
        obtain ⟨j, rfl⟩ : ∃ j : Nat, y = j := ⟨y.toNat, by omega⟩
        have hkn : k < n := by omega
        have hjn : j < n := by omega
        rw [La_cons, La_cons]
        refine ih _ _ (suc_rng ht hx) (suc_rng ht hy) ?_
        by_cases hsm : 0 ≤ s ∧ s < (m : Int)
        · obtain ⟨u, rfl⟩ : ∃ u : Nat, s = u := ⟨s.toNat, by omega⟩
          rw [clx_nat] at h0
          rw [clx_nat, clx_nat] at h
          have hst := stable k j hkn hjn h0 h
          rw [sig_eq, sig_eq] at hst
          injection hst with _ hst
          have l1 := row_len ht hkn
          have l2 := row_len ht hjn
          have e1 := suc_at ht hkn (s := u) (by omega)
          have e2 := suc_at ht hjn (s := u) (by omega)
          have h1 : u < (t.next.getD k []).length := by omega
          have h2 : u < (t.next.getD j []).length := by omega
          rw [gI, Int.toNat_natCast, lgetD h1] at e1
          rw [gI, Int.toNat_natCast, lgetD h2] at e2
          rw [e1, e2]
          have := congrArg (fun z => z[u]?) hst
          simp only [List.getElem?_map, List.getElem?_eq_getElem h1, List.getElem?_eq_getElem h2, Option.map_some, Option.some.injEq] at this
          exact this
        · rw [suc_out ht hx.2 (by omega), suc_out ht hy.2 (by omega)]
  have hdd : ∀ x : Int, -1 ≤ x → x < (n : Int) → (clx (ref t c).1 x < 0 ↔ Dd t x) := fun x h1 h2 => by
    by_cases h0 : 0 ≤ x
    · obtain ⟨k, rfl⟩ : ∃ k : Nat, x = k := ⟨x.toNat, by omega⟩
      rw [clx_nat, ← hr.dd k (by omega)]
      have := hr.rng k (by omega)
      omega
    · exact ⟨fun _ => Dd.neg (by omega), fun _ => by rw [clx_neg (by omega)]; decide⟩
  refine ⟨hr.len, hdd, fun x y hx1 hx2 hy1 hy2 => ⟨fun h => ?_, fun h => clx_eq ht hr ⟨hx1, hx2⟩ ⟨hy1, hy2⟩ h⟩⟩
  by_cases h0 : clx (ref t c).1 x < 0
  · exact eq2_dd ((hdd x hx1 hx2).1 h0) ((hdd y hy1 hy2).1 (by rw [← h]; exact h0))
  · have hx0 : 0 ≤ x := by
      by_cases h1 : 0 ≤ x
      · exact h1
      · rw [clx_neg (by omega)] at h0; omega
    have hy0 : 0 ≤ y := by
      by_cases h1 : 0 ≤ y
      · exact h1
      · rw [h, clx_neg (by omega)] at h0; omega
    have hdx := fun hd => h0 ((hdd x hx1 hx2).2 hd)
    have hdy := fun hd => h0 (by rw [h]; exact (hdd y hy1 hy2).2 hd)
    obtain ⟨k, rfl⟩ : ∃ k : Nat, x = k := ⟨x.toNat, by omega⟩
    obtain ⟨j, rfl⟩ : ∃ j : Nat, y = j := ⟨y.toNat, by omega⟩
    rw [clx_nat, clx_nat] at h
    have hs := (ref_sig ht c (by omega) (by omega) (fun hn => hdx ((hneg k (by omega)).1 hn)) (fun hn => hdy ((hneg j (by omega)).1 hn))).1 h
    rw [sig_eq, sig_eq] at hs
    injection hs with hs _
    exact fun l => key l k j ⟨hx1, hx2⟩ ⟨hy1, hy2⟩ (by rw [clx_nat, clx_nat]; exact hs)
theorem cls0_crs : Crs n t (cls0 t) := by
  have hat : ∀ q, q < n → (cls0 t).getD q 0 = if (liveS t).getD q false = false then -1 else if t.acc.getD q false = true then 1 else 0 := fun q hq => by
    have hr := ht.rows
    rw [List.getD_eq_getElem?_getD, cls0, List.getElem?_map, List.getElem?_range (by omega)]
    rfl
  have hlv := fun q (hq : q < n) => live_iff ht hq
  have hacc : ∀ q, q < n → Dd t q → t.acc.getD q false = false := fun q hq hd => by
    have a1 := hd []
    rwa [La_nil, accq, gB, Int.toNat_natCast, decide_eq_true (by omega), Bool.true_and] at a1
  have hdd : ∀ q, q < n → ((cls0 t).getD q 0 = -1 ↔ Dd t q) := fun q hq => by
    rw [hat q hq]
    split
    · rename_i h
      refine ⟨fun _ => Classical.byContradiction fun hn => ?_, fun _ => rfl⟩
      rw [(hlv q hq).2 hn] at h
      cases h
    · rename_i h
      rw [Bool.not_eq_false] at h
      have := (hlv q hq).1 h
      split <;> exact ⟨fun e => by omega, fun hd => absurd hd this⟩
  refine ⟨by simp [cls0, ht.rows], fun q hq => ?_, hdd, fun q q' hq hq' h => ?_, fun q q' hq hq' h => ?_⟩
  · rw [hat q hq]
    split
    · omega
    · split <;> omega
  · by_cases hd : Dd t q
    · rw [(hdd q hq).2 hd, (hdd q' hq').2 (h.dd.1 hd)]
    · have hd' : ¬ Dd t q' := fun h2 => hd (h.dd.2 h2)
      have h0 := h []
      rw [La_nil, La_nil, accq, accq, gB, gB, Int.toNat_natCast, Int.toNat_natCast, decide_eq_true (by omega), decide_eq_true (by omega), Bool.true_and, Bool.true_and] at h0
      rw [hat q hq, hat q' hq', (hlv q hq).2 hd, (hlv q' hq').2 hd', h0]
  · by_cases hd : Dd t q
    · have hd' : Dd t q' := (hdd q' hq').1 (by rw [← h]; exact (hdd q hq).2 hd)
      rw [hacc q hq hd, hacc q' hq' hd']
    · have hd' : ¬ Dd t q' := fun h2 => hd ((hdd q hq).1 (by rw [h]; exact (hdd q' hq').2 h2))
      rw [hat q hq, hat q' hq', (hlv q hq).2 hd, (hlv q' hq').2 hd'] at h
      simp only [Bool.true_eq_false, if_false] at h
      cases h1 : t.acc.getD q false <;> cases h2 : t.acc.getD q' false <;> rw [h1, h2] at h <;> first | rfl | (simp at h)
theorem parF_good : ∀ (k : Nat) (c : List Int) (cnt : Nat), Crs n t c → (∀ j, j < cnt → ((j : Nat) : Int) ∈ c) → n + 1 ≤ k + cnt → 0 < k → Good n t (parF t k c cnt)
  | 0, c, cnt, _, _, _, h => by omega
  | k + 1, c, cnt, hc, hm, hk, _ => by
    rw [parF]
    split
    · rename_i he
      exact ref_good ht hc hm he
    · rename_i hne
      have h1 := ref_ge t c (by rw [hc.len, ht.rows]) hm
      have h2 := ref_le t c
      rw [ht.rows] at h2
      have hok := refN_ok t c t.next.length
      exact parF_good k _ _ (ref_crs ht hc) hok.met (by omega) (by omega)
theorem parS_good : Good n t (parS t) := parF_good ht _ _ _ (cls0_crs ht) (fun j h => by omega) (by rw [ht.rows]; omega) (by omega)
end
/-- the number of classes -/
def parK (t : Tb) : Nat → List Int → Nat → Nat
  | 0, _, cnt => cnt
  | k + 1, c, cnt => if (ref t c).2.length = cnt then cnt else parK t k (ref t c).1 (ref t c).2.length
def cntS (t : Tb) : Nat := parK t (t.next.length + 2) (cls0 t) 0
theorem parK_ge (t : Tb) : ∀ (k : Nat) (c : List Int) (cnt : Nat), c.length = t.next.length → (∀ j, j < cnt → ((j : Nat) : Int) ∈ c) → cnt ≤ parK t k c cnt
  | 0, _, _, _, _ => Nat.le_refl _
  | k + 1, c, cnt, hl, hm => by
    rw [parK]
    split
    · exact Nat.le_refl _
    · have h1 := ref_ge t c hl hm
      exact Nat.le_trans h1 (parK_ge t k _ _ (ref_len t c) (refN_ok t c t.next.length).met)
theorem parK_rng (t : Tb) : ∀ (k : Nat) (c : List Int) (cnt : Nat), c.length = t.next.length → (∀ j, j < cnt → ((j : Nat) : Int) ∈ c) → t.next.length + 1 ≤ k + cnt → 0 < k → (∀ x ∈ parF t k c cnt, x < (parK t k c cnt : Int)) ∧ (∀ j, j < parK t k c cnt → ((j : Nat) : Int) ∈ parF t k c cnt) ∧ parK t k c cnt ≤ t.next.length
  | 0, _, _, _, _, _, h => by omega
  | k + 1, c, cnt, hl, hm, hk, _ => by
    have h1 := ref_ge t c hl hm
    have h2 := ref_le t c
    have hok := refN_ok t c t.next.length
    rw [parK, parF]
    by_cases he : (ref t c).2.length = cnt
    · rw [if_pos he, if_pos he]
      refine ⟨fun x hx => ?_, fun j hj => hok.met j (by rw [← he] at hj; exact hj), by omega⟩
      have := (hok.rng x hx).2
      rw [show refN t c t.next.length = ref t c from rfl, he] at this
      exact this
    · rw [if_neg he, if_neg he]
      exact parK_rng t k _ _ (ref_len t c) hok.met (by omega) (by omega)
theorem cntS_rng (t : Tb) : (∀ x ∈ parS t, x < (cntS t : Int)) ∧ (∀ j, j < cntS t → ((j : Nat) : Int) ∈ parS t) ∧ cntS t ≤ t.next.length :=
  parK_rng t _ _ _ (by simp [cls0]) (fun j h => by omega) (by omega) (by omega)
end Go.Proofs.Ytkjffppioddnpaa

/- Chapter 42: the minimal table depends on the language alone (plain). -/
set_option maxRecDepth 100000
set_option maxHeartbeats 4000000
set_option linter.all false
namespace Go.Proofs.Ytkjffppioddnpaa
open Go.Vm

theorem idx_sim {a b : Int} : ∀ {l l' : List Int}, l.length = l'.length → (∀ i, i < l.length → (l.getD i 0 = a ↔ l'.getD i 0 = b)) → idxI a l = idxI b l'
  | [], [], _, _ => rfl
  | [], _ :: _, h, _ => by simp at h
  | _ :: _, [], h, _ => by simp at h
  | x :: l, y :: l', h, hi => by
    have h0 := hi 0 (by simp)
    simp only [List.getD_cons_zero] at h0
    have ih := idx_sim (l := l) (l' := l') (by simpa using h) (fun i hl => by simpa using hi (i + 1) (by simpa using hl))
    simp only [idxI]
    by_cases e : a = x
    · rw [if_pos e, if_pos (h0.1 e.symm).symm]
    · rw [if_neg e, if_neg (fun e2 => e (h0.2 e2.symm).symm), ih]
theorem mr_cond {c : List Int} {x : Int} : (x < 0 ∨ gI c x < 0) ↔ clx c x < 0 := by
  rw [clx]
  by_cases h : 0 ≤ x
  · rw [if_pos h]; omega
  · rw [if_neg h]; omega
theorem clx_gI {c : List Int} {x : Int} (h : 0 ≤ x) : clx c x = gI c x := by rw [clx, if_pos h]
theorem getD_map {c : List Int} {o : List Int} {i : Nat} (hi : i < o.length) : (o.map (gI c)).getD i 0 = gI c (o.getD i 0) := by
  rw [lgetD (by rw [List.length_map]; exact hi), lgetD hi, List.getElem_map]
theorem getD_mem {o : List Int} {i : Nat} (hi : i < o.length) : o.getD i 0 ∈ o := by
  rw [lgetD hi]; exact List.getElem_mem _
theorem getD_left {o : List Int} {y : Int} {i : Nat} (hi : i < o.length) : (o ++ [y]).getD i 0 = o.getD i 0 := by
  rw [List.getD_eq_getElem?_getD, List.getD_eq_getElem?_getD, List.getElem?_append_left hi]
theorem getD_last {o : List Int} {y : Int} : (o ++ [y]).getD o.length 0 = y := by
  rw [List.getD_eq_getElem?_getD, List.getElem?_append_right (Nat.le_refl _), Nat.sub_self]; rfl
section
variable {n n' m : Nat} {t t' : Tb} (ht : okT n m t) (ht' : okT n' m t') {c c' : List Int} (hc : Good n t c) (hc' : Good n' t' c')
include ht ht' hc hc'
/-- two searches that go alike -/
def Sim (t t' : Tb) (o o' : List Int) : Prop := o.length = o'.length ∧ ∀ i, i < o.length → Eq2 t (o.getD i 0) t' (o'.getD i 0)
theorem mrI_sim {o o' r : List Int} (ho : Ook n c o) (ho' : Ook n' c' o') (hs : Sim t t' o o') {x x' : Int} (hx : -1 ≤ x ∧ x < (n : Int)) (hx' : -1 ≤ x' ∧ x' < (n' : Int)) (he : Eq2 t x t' x') :
    Sim t t' (mrI c x (o, r)).1 (mrI c' x' (o', r)).1 ∧ (mrI c x (o, r)).2 = (mrI c' x' (o', r)).2 := by
  have hdd : clx c x < 0 ↔ clx c' x' < 0 := by rw [hc.dd x hx.1 hx.2, hc'.dd x' hx'.1 hx'.2]; exact he.dd
  rw [mrI, mrI]
  by_cases h0 : clx c x < 0
  · rw [if_pos (mr_cond.2 h0), if_pos (mr_cond.2 (hdd.1 h0))]
    exact ⟨hs, rfl⟩
  · rw [if_neg (fun h => h0 (mr_cond.1 h)), if_neg (fun h => h0 (hdd.2 (mr_cond.1 h)))]
    have hx0 : 0 ≤ x := by
      by_cases h1 : 0 ≤ x
      · exact h1
      · rw [clx_neg (by omega)] at h0; omega
    have hx0' : 0 ≤ x' := by
      by_cases h1 : 0 ≤ x'
      · exact h1
      · exfalso; rw [hdd, clx_neg (by omega)] at h0; omega
    have hidx : idxI (gI c x) (o.map (gI c)) = idxI (gI c' x') (o'.map (gI c')) := by
      refine idx_sim (by simp [hs.1]) fun i hi => ?_
      rw [List.length_map] at hi
      have hi' : i < o'.length := by rw [← hs.1]; exact hi
      have hm := ho.rng _ (getD_mem hi)
      have hm' := ho'.rng _ (getD_mem hi')
      rw [getD_map hi, getD_map hi', ← clx_gI hm.1, ← clx_gI hm'.1, ← clx_gI hx0, ← clx_gI hx0', hc.eq _ _ (by omega) hm.2 hx.1 hx.2, hc'.eq _ _ (by omega) hm'.2 hx'.1 hx'.2]
      have h1 := hs.2 i hi
      exact ⟨fun h => h1.symm.trans (h.trans he), fun h => h1.trans (h.trans he.symm)⟩
    simp only [hidx]
    cases idxI (gI c' x') (o'.map (gI c')) with
    | some k => exact ⟨hs, rfl⟩
    | none =>
      simp only
      refine ⟨⟨by simp [hs.1], fun i hi => ?_⟩, by rw [hs.1]⟩
      by_cases hio : i < o.length
      · rw [getD_left hio, getD_left (by rw [← hs.1]; exact hio)]
        exact hs.2 i hio
      · have : i = o.length := by simp at hi; omega
        subst this
        rw [getD_last, hs.1, getD_last]
        exact he
theorem mrN_sim {o o' : List Int} (ho : Ook n c o) (ho' : Ook n' c' o') (hs : Sim t t' o o') {q q' : Nat} (hq : q < n) (hq' : q' < n') (he : Eq2 t q t' q') :
    ∀ j, j ≤ m → Sim t t' (mrN c (t.next.getD q []) o j).1 (mrN c' (t'.next.getD q' []) o' j).1 ∧ (mrN c (t.next.getD q []) o j).2 = (mrN c' (t'.next.getD q' []) o' j).2
  | 0, _ => ⟨hs, rfl⟩
  | j + 1, hj => by
    have ih := mrN_sim ho ho' hs hq hq' he j (by omega)
    have l1 := row_len ht hq
    have l2 := row_len ht' hq'
    have o1 := mrN_ok (n := n) (c := c) (row := t.next.getD q []) (fun x hx => (ht.rng _ (row_mem ht hq) x hx).2) ho j (by omega)
    have o2 := mrN_ok (n := n') (c := c') (row := t'.next.getD q' []) (fun x hx => (ht'.rng _ (row_mem ht' hq') x hx).2) ho' j (by omega)
    have e1 := suc_at ht hq (s := j) (by omega)
    have e2 := suc_at ht' hq' (s := j) (by omega)
    rw [mrN, mrN, ← e1, ← e2]
    generalize mrN c (t.next.getD q []) o j = s at ih o1
    generalize mrN c' (t'.next.getD q' []) o' j = s' at ih o2
    obtain ⟨a, r⟩ := s
    obtain ⟨a', r'⟩ := s'
    simp only at ih
    obtain ⟨ih1, rfl⟩ := ih
    exact mrI_sim ht ht' hc hc' o1 o2 ih1 (suc_rng ht ⟨by omega, by omega⟩) (suc_rng ht' ⟨by omega, by omega⟩) (he.suc j)
theorem minN_sim (h0 : Eq2 t 0 t' 0) : ∀ i, Sim t t' (minN t c i).order (minN t' c' i).order ∧ (minN t c i).rows = (minN t' c' i).rows ∧ (minN t c i).accs = (minN t' c' i).accs
  | 0 => ⟨⟨rfl, fun i hi => by
      have : i = 0 := by simp [minN] at hi; omega
      subst this
      exact h0⟩, rfl, rfl⟩
  | i + 1 => by
    obtain ⟨ih1, ih2, ih3⟩ := minN_sim h0 i
    have o1 := minN_ok ht (c := c) i
    have o2 := minN_ok ht' (c := c') i
    rw [minN, minN]
    generalize minN t c i = s at ih1 ih2 ih3 o1
    generalize minN t' c' i = s' at ih1 ih2 ih3 o2
    by_cases hi : i < s.order.length
    · have hi' : i < s'.order.length := by rw [← ih1.1]; exact hi
      have hq := o1.rng _ (getD_mem hi)
      have hq' := o2.rng _ (getD_mem hi')
      have he := ih1.2 i hi
      rw [minI, minI, List.getElem?_eq_getElem hi, List.getElem?_eq_getElem hi']
      rw [lgetD hi] at hq he
      rw [lgetD hi'] at hq' he
      simp only
      generalize s.order[i] = q at hq he
      generalize s'.order[i] = q' at hq' he
      obtain ⟨k, rfl⟩ : ∃ k : Nat, q = k := ⟨q.toNat, by omega⟩
      obtain ⟨k', rfl⟩ : ∃ k' : Nat, q' = k' := ⟨q'.toNat, by omega⟩
      rw [Int.toNat_natCast, Int.toNat_natCast, row_len ht (by omega), row_len ht' (by omega)]
      obtain ⟨h1, h2⟩ := mrN_sim ht ht' hc hc' o1 o2 ih1 (q := k) (q' := k') (by omega) (by omega) he m (Nat.le_refl _)
      refine ⟨h1, by rw [ih2, h2], ?_⟩
      have := he []
      rw [La_nil, La_nil, accq, accq, decide_eq_true (by omega), decide_eq_true (by omega), Bool.true_and, Bool.true_and] at this
      rw [ih3, this]
    · rw [minI_stop (by omega), minI_stop (by rw [← ih1.1]; omega)]
      exact ⟨ih1, ih2, ih3⟩
theorem minF_eq (h0 : Eq2 t 0 t' 0) : minF t c = minF t' c' := by
  have a1 := (minN_ok ht (c := c) n).len
  have a2 := (minN_ok ht' (c := c') n').len
  have e1 := minN_at (t := t) (c := c) (i := n) (j := max n n') a1 (by omega)
  have e2 := minN_at (t := t') (c := c') (i := n') (j := max n n') a2 (by omega)
  obtain ⟨_, h2, h3⟩ := minN_sim ht ht' hc hc' h0 (max n n')
  rw [minF, minF, ht.rows, ht'.rows, ← e1, ← e2, h2, h3]
end
/-- what an entry of a row says -/
def Ent (c o : List Int) (e x : Int) : Prop := (clx c x < 0 ∧ e = -1) ∨ (¬ clx c x < 0 ∧ ∃ k : Nat, e = (k : Int) ∧ k < o.length ∧ clx c (o.getD k 0) = clx c x)
theorem Ent.mono {c o r : List Int} {e x : Int} (h : Ent c o e x) : Ent c (o ++ r) e x := by
  rcases h with h | ⟨h1, k, h2, h3, h4⟩
  · exact .inl h
  · refine .inr ⟨h1, k, h2, by rw [List.length_append]; omega, ?_⟩
    rw [List.getD_eq_getElem?_getD, List.getElem?_append_left h3, ← List.getD_eq_getElem?_getD]
    exact h4
structure Miv (m : Nat) (t : Tb) (c : List Int) (i : Nat) (s : Ms) : Prop where
  acs : s.accs.length = s.rows.length
  cnt : (s.rows.length = i ∧ i ≤ s.order.length) ∨ (s.rows.length = s.order.length ∧ s.order.length ≤ i)
  row : ∀ k, k < s.rows.length → (s.rows.getD k []).length = m
  ent : ∀ k, k < s.rows.length → ∀ j, j < m → Ent c s.order (gI (s.rows.getD k []) j) (suc t (s.order.getD k 0) j)
  acc : ∀ k, k < s.rows.length → s.accs.getD k false = gB t.acc (s.order.getD k 0)
  fst : s.order.getD 0 0 = 0 ∧ 0 < s.order.length
  liv : ∀ k, k < s.order.length → 0 < k → ¬ clx c (s.order.getD k 0) < 0
section
variable {n m : Nat} {t : Tb} (ht : okT n m t) {c : List Int}
include ht
theorem mrN_ent {o : List Int} (ho : Ook n c o) {q : Nat} (hq : q < n) : ∀ j, j ≤ m → ∀ u, u < j → Ent c (mrN c (t.next.getD q []) o j).1 (gI (mrN c (t.next.getD q []) o j).2 u) (suc t q u)
  | 0, _, u, h => by omega
  | j + 1, hj, u, hu => by
    have ih := fun hu' => mrN_ent ho hq j (by omega) u hu'
    have hl := mrN_len c (t.next.getD q []) o j
    have l1 := row_len ht hq
    have o1 := mrN_ok (n := n) (c := c) (row := t.next.getD q []) (fun x hx => (ht.rng _ (row_mem ht hq) x hx).2) ho j (by omega)
    have e1 := suc_at ht hq (s := j) (by omega)
    rw [mrN, ← e1]
    generalize mrN c (t.next.getD q []) o j = s at ih hl o1
    obtain ⟨a, r⟩ := s
    simp only at ih hl o1
    have hlt : ∀ y : Int, u < j → gI (r ++ [y]) u = gI r u := fun y h => by
      rw [gI, gI, Int.toNat_natCast]; exact getD_left (by omega)
    have heq : ∀ y : Int, u = j → gI (r ++ [y]) u = y := fun y h => by
      rw [gI, Int.toNat_natCast, h, ← hl]; exact getD_last
    have hx := suc_rng ht (q := q) (s := j) ⟨by omega, by omega⟩
    rw [mrI]
    by_cases h0 : clx c (suc t q j) < 0
    · rw [if_pos (mr_cond.2 h0)]
      simp only
      by_cases huj : u < j
      · rw [hlt _ huj]; exact ih huj
      · rw [heq _ (by omega), show u = j from by omega]
        exact .inl ⟨h0, rfl⟩
    · rw [if_neg (fun h => h0 (mr_cond.1 h))]
      have hx0 : 0 ≤ suc t q j := by
        by_cases h1 : 0 ≤ suc t q j
        · exact h1
        · rw [clx_neg (by omega)] at h0; omega
      cases hi : idxI (gI c (suc t q j)) (a.map (gI c)) with
      | some k =>
        simp only
        by_cases huj : u < j
        · rw [hlt _ huj]; exact ih huj
        · rw [heq _ (by omega), show u = j from by omega]
          have h2 := idxI_some hi
          have hk := (List.getElem?_eq_some_iff.1 h2).1
          rw [List.length_map] at hk
          refine .inr ⟨h0, k, rfl, hk, ?_⟩
          have h3 := (o1.rng _ (getD_mem hk)).1
          rw [clx_gI h3, clx_gI hx0, ← getD_map hk, List.getD_eq_getElem?_getD, h2]; rfl
      | none =>
        simp only
        by_cases huj : u < j
        · rw [hlt _ huj]; exact (ih huj).mono
        · rw [heq _ (by omega), show u = j from by omega]
          refine .inr ⟨h0, a.length, rfl, by simp, ?_⟩
          rw [getD_last]
theorem mrN_liv {o : List Int} (ho : Ook n c o) {row : List Int} (hr : ∀ x ∈ row, x < (n : Int)) (h : ∀ k, k < o.length → 0 < k → ¬ clx c (o.getD k 0) < 0) (hp : 0 < o.length) : ∀ j, j ≤ row.length → ∀ k, k < (mrN c row o j).1.length → 0 < k → ¬ clx c ((mrN c row o j).1.getD k 0) < 0
  | 0, _, k, hk, h0 => h k hk h0
  | j + 1, hj, k, hk, h0 => by
    have ih := mrN_liv ho hr h hp j (by omega)
    rw [mrN] at hk ⊢
    generalize mrN c row o j = s at ih hk
    obtain ⟨a, r⟩ := s
    simp only at ih
    rw [mrI] at hk ⊢
    by_cases h1 : clx c (gI row j) < 0
    · rw [if_pos (mr_cond.2 h1)] at hk ⊢
      exact ih k hk h0
    · rw [if_neg (fun h => h1 (mr_cond.1 h))] at hk ⊢
      cases hi : idxI (gI c (gI row j)) (a.map (gI c)) with
      | some u => rw [hi] at hk; simp only at hk ⊢; exact ih k hk h0
      | none =>
        rw [hi] at hk
        simp only at hk ⊢
        by_cases hka : k < a.length
        · rw [getD_left hka]; exact ih k hka h0
        · have : k = a.length := by simp at hk; omega
          rw [this, getD_last]
          exact h1
theorem minN_inv : ∀ i, Miv m t c i (minN t c i)
  | 0 => ⟨rfl, .inl ⟨rfl, Nat.zero_le _⟩, fun k h => by simp [minN] at h, fun k h => by simp [minN] at h, fun k h => by simp [minN] at h, ⟨rfl, Nat.one_pos⟩, fun k h h0 => by simp [minN] at h; omega⟩
  | i + 1 => by
    have ih := minN_inv i
    have o1 := minN_ok ht (c := c) i
    rw [minN]
    generalize minN t c i = s at ih o1
    obtain ⟨o, rows, accs⟩ := s
    simp only at o1
    have i1 := ih.acs
    have i2 := ih.cnt
    have i6 := ih.fst
    simp only at i1 i2 i6
    by_cases hi : i < o.length
    · have hq := o1.rng _ (getD_mem hi)
      have hri : rows.length = i := by omega
      rw [lgetD hi] at hq
      rw [minI, List.getElem?_eq_getElem hi]
      simp only
      have hgi : o.getD i 0 = o[i] := lgetD hi
      generalize o[i] = q at hq hgi
      obtain ⟨k, rfl⟩ : ∃ k : Nat, q = k := ⟨q.toNat, by omega⟩
      have hkn : k < n := by omega
      rw [Int.toNat_natCast, row_len ht hkn]
      have hen := mrN_ent ht o1 hkn m (Nat.le_refl _)
      have hlv := mrN_liv ht o1 (row := t.next.getD k []) (fun x hx => (ht.rng _ (row_mem ht hkn) x hx).2) ih.liv i6.2 m (by rw [row_len ht hkn]; exact Nat.le_refl _)
      have hlen := mrN_len c (t.next.getD k []) o m
      obtain ⟨r, hr⟩ := mrN_pre c (t.next.getD k []) o m
      have hgo : ∀ u, u < o.length → (mrN c (t.next.getD k []) o m).1.getD u 0 = o.getD u 0 := fun u hu => by
        rw [hr, List.getD_eq_getElem?_getD, List.getElem?_append_left hu, ← List.getD_eq_getElem?_getD]
      have hml : o.length ≤ (mrN c (t.next.getD k []) o m).1.length := by rw [hr, List.length_append]; omega
      have hrow : ∀ u, u < rows.length + 1 → (rows ++ [(mrN c (t.next.getD k []) o m).2]).getD u [] = if u < rows.length then rows.getD u [] else (mrN c (t.next.getD k []) o m).2 := fun u hu => by
        rw [List.getD_eq_getElem?_getD]
        split
        · rename_i h; rw [List.getElem?_append_left h, ← List.getD_eq_getElem?_getD]
        · rename_i h; rw [List.getElem?_append_right (by omega), show u - rows.length = 0 from by omega]; rfl
      refine ⟨by simp [i1], .inl ⟨by simp only [List.length_append, List.length_singleton]; omega, by simp only; omega⟩, fun u hu => ?_, fun u hu j hj => ?_, fun u hu => ?_, ⟨by simp only; rw [hgo 0 i6.2]; exact i6.1, by simp only; omega⟩, hlv⟩
      · simp only [List.length_append, List.length_singleton] at hu
        simp only
        rw [hrow u hu]
        split
        · rename_i h; exact ih.row u h
        · exact hlen
      · simp only [List.length_append, List.length_singleton] at hu
        simp only
        rw [hrow u hu, hgo u (by omega)]
        split
        · rename_i h
          rw [hr]
          exact (ih.ent u h j hj).mono
        · rename_i h
          rw [show u = i from by omega, hgi]
          exact hen j hj
      · simp only [List.length_append, List.length_singleton] at hu
        simp only
        rw [hgo u (by omega), List.getD_eq_getElem?_getD]
        by_cases h : u < rows.length
        · rw [List.getElem?_append_left (by omega), ← List.getD_eq_getElem?_getD]
          exact ih.acc u h
        · rw [List.getElem?_append_right (by omega), show u - accs.length = 0 from by omega, show u = i from by omega, hgi]
          rfl
    · rw [minI_stop (by simp only; omega)]
      exact ⟨ih.acs, .inr ⟨by simp only; omega, by simp only; omega⟩, ih.row, ih.ent, ih.acc, ih.fst, ih.liv⟩
/-- the table: its order, of classes apart -/
theorem minF_ord : ∃ o : List Int, Ook n c o ∧ o.getD 0 0 = 0 ∧ 0 < o.length ∧ (minF t c).next.length = o.length ∧ (minF t c).acc.length = o.length ∧
    (∀ k, k < o.length → ((minF t c).next.getD k []).length = m) ∧ (∀ k, k < o.length → ∀ j, j < m → Ent c o (gI ((minF t c).next.getD k []) j) (suc t (o.getD k 0) j)) ∧
    (∀ k, k < o.length → (minF t c).acc.getD k false = gB t.acc (o.getD k 0)) ∧ (∀ k, k < o.length → 0 < k → ¬ clx c (o.getD k 0) < 0) := by
  have hi := minN_inv ht (c := c) n
  have ho := minN_ok ht (c := c) n
  have hl := ho.len
  have h2 := hi.cnt
  have hr : (minN t c n).rows.length = (minN t c n).order.length := by omega
  rw [minF, ht.rows]
  have h1 := hi.acs
  refine ⟨(minN t c n).order, ho, hi.fst.1, hi.fst.2, hr, by simp only; omega, ?_, ?_, ?_, hi.liv⟩
  · rw [← hr]; exact hi.row
  · rw [← hr]; exact hi.ent
  · rw [← hr]; exact hi.acc
theorem minF_ok : okT (minF t c).next.length m (minF t c) ∧ (minF t c).next.length ≤ n := by
  obtain ⟨o, h1, h2, h3, h4, h5, h6, h7, _⟩ := minF_ord ht (c := c)
  have hl := h1.len
  have hb := ht.big
  refine ⟨⟨rfl, by rw [h5, h4], fun r hr => ?_, fun r hr x hx => ?_, by omega, by omega, ht.cols, ht.col1⟩, by omega⟩
  · obtain ⟨k, hk, e⟩ := List.getElem_of_mem hr
    have := h6 k (by omega)
    rwa [lgetD hk, e] at this
  · obtain ⟨k, hk, e⟩ := List.getElem_of_mem hr
    have hm := h6 k (by omega)
    rw [lgetD hk, e] at hm
    obtain ⟨j, hj, e2⟩ := List.getElem_of_mem hx
    have := h7 k (by omega) j (by omega)
    rw [lgetD hk, e, gI, Int.toNat_natCast, lgetD hj, e2] at this
    rcases this with ⟨_, h⟩ | ⟨_, u, h, hu, _⟩
    · omega
    · omega
theorem minF_lang (hc : Good n t c) : Eq2 (minF t c) 0 t 0 := by
  obtain ⟨o, h1, h2, h3, h4, h5, h6, h7, h8, _⟩ := minF_ord ht (c := c)
  have hM := (minF_ok ht (c := c)).1
  generalize minF t c = M at h4 h5 h6 h7 h8 hM
  have key : ∀ (l : List Int) (k : Nat), k < o.length → La M k l = La t (o.getD k 0) l := by
    intro l
    induction l with
    | nil =>
      intro k hk
      have := (h1.rng _ (getD_mem hk)).1
      rw [La_nil, La_nil, accq, accq, gB, Int.toNat_natCast, h8 k hk, decide_eq_true (by omega), decide_eq_true this]
    | cons s l ih =>
      intro k hk
      have hr := h1.rng _ (getD_mem hk)
      rw [La_cons, La_cons]
      by_cases hs : 0 ≤ s ∧ s < (m : Int)
      · obtain ⟨j, rfl⟩ : ∃ j : Nat, s = j := ⟨s.toNat, by omega⟩
        rw [suc_at hM (by omega) (by omega)]
        have hx := suc_rng ht (q := o.getD k 0) (s := (j : Int)) ⟨by omega, hr.2⟩
        rcases h7 k hk j (by omega) with ⟨h, e⟩ | ⟨h, u, e, hu, he⟩
        · rw [e, La_neg (by decide)]
          exact ((hc.dd _ hx.1 hx.2).1 h l).symm
        · rw [e, ih u hu]
          have hru := h1.rng _ (getD_mem hu)
          exact (hc.eq _ _ (by omega) hru.2 hx.1 hx.2).1 he l
      · rw [suc_out hM (by omega) (by omega), suc_out ht hr.2 (by omega), La_neg (by decide), La_neg (by decide)]
  intro l
  have := key l 0 h3
  rw [h2] at this
  exact this
/-- as many states as classes -/
theorem minF_cnt (hc : Good n t (parS t)) (hreach : ∀ q : Nat, q < n → ∃ l, runA t 0 l = (q : Int)) : (Dd t 0 → cntS t = 0) ∧ (¬ Dd t 0 → (minF t (parS t)).next.length = cntS t) := by
  obtain ⟨o, h1, h2, h3, h4, h5, h6, h7, h8, h9⟩ := minF_ord ht (c := parS t)
  obtain ⟨k1, k2, k3⟩ := cntS_rng t
  have hpl := parS_len t
  rw [ht.rows] at hpl
  have hval : ∀ k, k < cntS t → ∃ q : Nat, q < n ∧ clx (parS t) q = (k : Int) := fun k hk => by
    obtain ⟨q, hq, e⟩ := List.getElem_of_mem (k2 k hk)
    exact ⟨q, by omega, by rw [clx_nat, lgetD hq, e]⟩
  constructor
  · intro hd
    by_cases h0 : cntS t = 0
    · exact h0
    · exfalso
      obtain ⟨q, hq, e⟩ := hval 0 (by omega)
      obtain ⟨l, hl⟩ := hreach q hq
      have : Dd t q := fun l2 => by
        have := hd (l ++ l2)
        rw [La, runA, List.foldl_append] at this
        rw [La, ← hl]
        exact this
      have := (hc.dd q (by omega) (by omega)).2 this
      omega
  · intro hd
    rw [h4]
    have hliv : ∀ k, k < o.length → ¬ clx (parS t) (o.getD k 0) < 0 := fun k hk => by
      by_cases h0 : 0 < k
      · exact h9 k hk h0
      · rw [show k = 0 from by omega, h2]
        intro h
        have := ht.pos
        exact hd ((hc.dd 0 (by omega) (by omega)).1 h)
    have hle : o.length ≤ cntS t := by
      have := nat_len (N := cntS t) (l := (o.map (gI (parS t))).map Int.toNat) (by
        have hn := h1.apart
        have hp : ∀ x ∈ o.map (gI (parS t)), 0 ≤ x := fun x hx => by
          obtain ⟨y, hy, rfl⟩ := List.mem_map.1 hx
          obtain ⟨k, hk, e⟩ := List.getElem_of_mem hy
          have := hliv k hk
          have hr := (h1.rng y hy).1
          rw [lgetD hk, e, clx_gI hr] at this
          omega
        generalize o.map (gI (parS t)) = L at hn hp
        induction L with
        | nil => simp
        | cons x r ih =>
          rw [List.nodup_cons] at hn
          rw [List.map_cons, List.nodup_cons]
          refine ⟨fun hm => ?_, ih hn.2 (fun y hy => hp y (by simp [hy]))⟩
          obtain ⟨y, hy, e⟩ := List.mem_map.1 hm
          have hy0 := hp y (by simp [hy])
          have hx0 := hp x (by simp)
          exact hn.1 ((show y = x from by omega) ▸ hy)) (fun k hk => by
        obtain ⟨x, hx, rfl⟩ := List.mem_map.1 hk
        obtain ⟨y, hy, rfl⟩ := List.mem_map.1 hx
        obtain ⟨u, hu, e⟩ := List.getElem_of_mem hy
        have hr := h1.rng y hy
        have hl := hliv u hu
        rw [lgetD hu, e, clx_gI hr.1] at hl
        have hyl : y.toNat < (parS t).length := by omega
        have := k1 (gI (parS t) y) (by rw [gI, lgetD hyl]; exact List.getElem_mem _)
        omega)
      simpa using this
    have hge : cntS t ≤ o.length := by
      have hall : ∀ (l : List Int), ¬ Dd t (runA t 0 l) → ∃ k, k < o.length ∧ clx (parS t) (o.getD k 0) = clx (parS t) (runA t 0 l) := by
        have hgen : ∀ (l : List Int) (k : Nat), k < o.length → ∀ x : Int, -1 ≤ x ∧ x < (n : Int) → clx (parS t) (o.getD k 0) = clx (parS t) x → ¬ Dd t (runA t x l) → ∃ k, k < o.length ∧ clx (parS t) (o.getD k 0) = clx (parS t) (runA t x l) := by
          intro l
          induction l with
          | nil => intro k hk x _ he _; exact ⟨k, hk, he⟩
          | cons s l ih =>
            intro k hk x hx he hnd
            have hr := h1.rng _ (getD_mem hk)
            have hx2 := suc_rng ht (q := x) (s := s) hx
            have hnx : ¬ Dd t (suc t x s) := fun hd2 => hnd (by
              intro l2
              have := hd2 (l ++ l2)
              rw [La, runA, List.foldl_append] at this
              exact this)
            have heq := (hc.eq _ _ (by omega) hr.2 hx.1 hx.2).1 he
            have hsm : 0 ≤ s ∧ s < (m : Int) := by
              by_cases h : 0 ≤ s ∧ s < (m : Int)
              · exact h
              · exfalso
                rw [suc_out ht hx.2 (by omega)] at hnx
                exact hnx (Dd.neg (by decide))
            obtain ⟨j, rfl⟩ : ∃ j : Nat, s = j := ⟨s.toNat, by omega⟩
            have hy := suc_rng ht (q := o.getD k 0) (s := (j : Int)) ⟨by omega, hr.2⟩
            rcases h7 k hk j (by omega) with ⟨h, _⟩ | ⟨_, u, _, hu, he2⟩
            · exact absurd ((heq.suc j).dd.1 ((hc.dd _ hy.1 hy.2).1 h)) hnx
            · exact ih u hu (suc t x j) hx2 (he2.trans ((hc.eq _ _ hy.1 hy.2 hx2.1 hx2.2).2 (heq.suc j))) hnd
        intro l hnd
        have := ht.pos
        exact hgen l 0 h3 0 ⟨by omega, by omega⟩ (by rw [h2]) hnd
      have := len_sub (L := (List.range (cntS t)).map fun (k : Nat) => (k : Int)) (D := o.map (clx (parS t))) (map_nodup (fun a b e => by omega) List.nodup_range) (fun x hx => by
        obtain ⟨k, hk, rfl⟩ := List.mem_map.1 hx
        rw [List.mem_range] at hk
        obtain ⟨q, hq, e⟩ := hval k hk
        obtain ⟨l, hl⟩ := hreach q hq
        have hnd : ¬ Dd t (runA t 0 l) := by
          rw [hl]
          intro h
          have := (hc.dd q (by omega) (by omega)).2 h
          omega
        obtain ⟨u, hu, he⟩ := hall l hnd
        rw [hl, e] at he
        exact List.mem_map.2 ⟨_, getD_mem hu, he⟩)
      simpa using this
    omega
end
theorem chkT_of {n m : Nat} {t : Tb} (ht : okT n m t) (h64 : n ≤ 64) : chkT t = 0 := by
  have hr := ht.rows
  have ha := ht.accs
  have hp := ht.pos
  have hc := ht.cols
  have hc1 := ht.col1
  have hh : (t.next.headD []).length = m := by
    cases hn : t.next with
    | nil => rw [hn] at hr; simp at hr; omega
    | cons r s => exact ht.row r (by rw [hn]; simp)
  rw [chkT, if_neg (by omega), if_neg (by omega), hh, if_neg (by omega), if_neg, if_neg]
  · rw [Bool.not_eq_true, List.any_eq_false]
    intro r hr2 hb
    rw [rowBad, List.any_eq_true] at hb
    obtain ⟨x, hx, hb⟩ := hb
    have := ht.rng r hr2 x hx
    simp only [Bool.or_eq_true, decide_eq_true_eq] at hb
    omega
  · rw [Bool.not_eq_true, List.any_eq_false]
    intro r hr2 hb
    rw [decide_eq_true_eq] at hb
    exact hb (ht.row r hr2)
/-- one language, one minimal table -/
theorem minS_eq {n n' m : Nat} {t t' : Tb} (ht : okT n m t) (ht' : okT n' m t') (h : Eq2 t 0 t' 0) : minS t = minS t' := minF_eq ht ht' (parS_good ht) (parS_good ht') h
theorem minS_lang {n m : Nat} {t : Tb} (ht : okT n m t) : Eq2 (minS t) 0 t 0 := minF_lang ht (parS_good ht)
theorem minS_ok {n m : Nat} {t : Tb} (ht : okT n m t) : okT (minS t).next.length m (minS t) ∧ (minS t).next.length ≤ n := minF_ok ht
theorem minS_min {n m : Nat} {t : Tb} (ht : okT n m t) : minS (minS t) = minS t := minS_eq (minS_ok ht).1 ht (minS_lang ht)
theorem accA_La {t : Tb} {l : List Int} (h : chkT t = 0) : accA t l = La t 0 l := by rw [accA, h, decide_eq_true rfl, Bool.true_and]; rfl
end Go.Proofs.Ytkjffppioddnpaa


/-
  Joined by a program from the texts Dsp Dis Eqt Exa Awk Law Ddp.
-/
import Derived.Test.YtkjffppioddnpaaMb
import Derived.Test.YtkjffppioddnpaaMc
import Derived.Test.YtkjffppioddnpaaRows
import Derived.Test.YtkjffppioddnpaaVm7
/- Chapter 42: the search for a distinguishing list (plain). -/
set_option maxRecDepth 100000
set_option maxHeartbeats 4000000
set_option linter.all false
namespace Go.Proofs.Ytkjffppioddnpaa
open Go.Vm
structure Vt where
  p : Int
  q : Int
  path : List Int
def vin (p q : Int) (l : List Vt) : Bool := l.any fun v => decide (v.p = p) && decide (v.q = q)
def seen (sk : Bool) (p q : Int) (l : List Vt) : Bool := (sk && (decide (p < 0) && decide (q < 0))) || vin p q l
def dI (sk : Bool) (a b : Tb) (v : Vt) (s : Nat) (l : List Vt) : List Vt :=
  if seen sk (suc a v.p s) (suc b v.q s) l = true then l else l ++ [⟨suc a v.p s, suc b v.q s, v.path ++ [(s : Int)]⟩]
def dN (sk : Bool) (a b : Tb) (v : Vt) (l : List Vt) : Nat → List Vt
  | 0 => l
  | n + 1 => dI sk a b v n (dN sk a b v l n)
def dst (sk : Bool) (a b : Tb) (M : Nat) : Nat → List Vt
  | 0 => [⟨0, 0, []⟩]
  | i + 1 => match (dst sk a b M i)[i]? with
    | some v => dN sk a b v (dst sk a b M i) M
    | none => dst sk a b M i
def dif (a b : Tb) (v : Vt) : Bool := accq a v.p != accq b v.q
def dF (sk : Bool) (a b : Tb) (M : Nat) : Nat → Nat → Option (List Int)
  | 0, _ => none
  | k + 1, i => match (dst sk a b M i)[i]? with
    | none => none
    | some v => if dif a b v = true then some v.path else dF sk a b M k (i + 1)
def colsT (t : Tb) : Nat := (t.next.headD []).length
def disN : Nat := 4226
def disR (sk : Bool) (a b : Tb) : Option (List Int) := dF sk a b (max (colsT a) (colsT b)) disN 0
def disO (sk : Bool) (a b : Tb) : Option (List Int) := if chkT a ≠ 0 ∨ chkT b ≠ 0 then none else disR sk a b
theorem dN_pre (sk : Bool) (a b : Tb) (v : Vt) (l : List Vt) : ∀ n, ∃ r, dN sk a b v l n = l ++ r
  | 0 => ⟨[], by simp [dN]⟩
  | n + 1 => by
    obtain ⟨r, hr⟩ := dN_pre sk a b v l n
    rw [dN, dI]
    split
    · exact ⟨r, hr⟩
    · exact ⟨_, by rw [hr, List.append_assoc]⟩
structure Vok (na nb : Nat) (l : List Vt) : Prop where
  rng : ∀ v ∈ l, -1 ≤ v.p ∧ v.p < (na : Int) ∧ -1 ≤ v.q ∧ v.q < (nb : Int)
  apart : (l.map fun v => (v.p, v.q)).Nodup
theorem vin_iff {p q : Int} {l : List Vt} : vin p q l = true ↔ (p, q) ∈ l.map fun v => (v.p, v.q) := by
  rw [vin, List.any_eq_true, List.mem_map]
  constructor
  · rintro ⟨v, hv, h⟩
    simp only [Bool.and_eq_true, decide_eq_true_eq] at h
    exact ⟨v, hv, by rw [h.1, h.2]⟩
  · rintro ⟨v, hv, h⟩
    injection h with h1 h2
    exact ⟨v, hv, by simp [h1, h2]⟩
theorem dI_ok {sk : Bool} {a b : Tb} {na nb ma mb : Nat} (ha : okT na ma a) (hb : okT nb mb b) {v : Vt} (hv : -1 ≤ v.p ∧ v.p < (na : Int) ∧ -1 ≤ v.q ∧ v.q < (nb : Int)) {s : Nat} {l : List Vt} (h : Vok na nb l) : Vok na nb (dI sk a b v s l) := by
  rw [dI]
  split
  · exact h
  · rename_i hs
    have h1 := suc_rng ha (q := v.p) (s := (s : Int)) ⟨hv.1, hv.2.1⟩
    have h2 := suc_rng hb (q := v.q) (s := (s : Int)) ⟨hv.2.2.1, hv.2.2.2⟩
    refine ⟨fun u hu => ?_, ?_⟩
    · rcases List.mem_append.1 hu with hu | hu
      · exact h.rng u hu
      · rw [List.mem_singleton] at hu
        subst hu
        exact ⟨h1.1, h1.2, h2.1, h2.2⟩
    · rw [List.map_append, List.nodup_append]
      refine ⟨h.apart, by simp, ?_⟩
      intro x hx y hy e
      simp at hy
      subst hy
      rw [e] at hx
      have := vin_iff.2 hx
      rw [seen, this, Bool.or_true] at hs
      exact hs rfl
theorem dN_ok {sk : Bool} {a b : Tb} {na nb ma mb : Nat} (ha : okT na ma a) (hb : okT nb mb b) {v : Vt} (hv : -1 ≤ v.p ∧ v.p < (na : Int) ∧ -1 ≤ v.q ∧ v.q < (nb : Int)) {l : List Vt} (h : Vok na nb l) : ∀ n, Vok na nb (dN sk a b v l n)
  | 0 => h
  | n + 1 => dI_ok ha hb hv (dN_ok ha hb hv h n)
theorem dst_ok {sk : Bool} {a b : Tb} {na nb ma mb M : Nat} (ha : okT na ma a) (hb : okT nb mb b) : ∀ i, Vok na nb (dst sk a b M i)
  | 0 => by
    have := ha.pos
    have := hb.pos
    exact ⟨fun v hv => by simp [dst] at hv; subst hv; simp only; omega, by simp [dst]⟩
  | i + 1 => by
    have ih := dst_ok (sk := sk) (M := M) ha hb i
    rw [dst]
    split
    · rename_i v hv
      exact dN_ok ha hb (ih.rng v (List.mem_of_getElem? hv)) ih M
    · exact ih
theorem Vok.len {na nb : Nat} {l : List Vt} (h : Vok na nb l) (ha : na ≤ 64) (hb : nb ≤ 64) : l.length ≤ 4225 := by
  have h1 := nat_len (N := 4225) (l := (l.map fun v => (v.p, v.q)).map fun x => (x.1 + 1).toNat * 65 + (x.2 + 1).toNat) (by
    have hn := h.apart
    have hr : ∀ x ∈ l.map (fun v => (v.p, v.q)), -1 ≤ x.1 ∧ x.1 < 64 ∧ -1 ≤ x.2 ∧ x.2 < 64 := fun x hx => by
      obtain ⟨v, hv, rfl⟩ := List.mem_map.1 hx
      have := h.rng v hv
      simp only; omega
    generalize l.map (fun v => (v.p, v.q)) = L at hn hr
    induction L with
    | nil => simp
    | cons x r ih =>
      rw [List.nodup_cons] at hn
      rw [List.map_cons, List.nodup_cons]
      refine ⟨fun hm => ?_, ih hn.2 (fun y hy => hr y (by simp [hy]))⟩
      obtain ⟨y, hy, e⟩ := List.mem_map.1 hm
      have hy0 := hr y (by simp [hy])
      have hx0 := hr x (by simp)
      have h1 : y.1 = x.1 := by omega
      have h2 : y.2 = x.2 := by omega
      exact hn.1 ((Prod.ext h1 h2 : y = x) ▸ hy)) (fun k hk => by
    obtain ⟨x, hx, rfl⟩ := List.mem_map.1 hk
    obtain ⟨v, hv, rfl⟩ := List.mem_map.1 hx
    have := h.rng v hv
    simp only; omega)
  simpa using h1
end Go.Proofs.Ytkjffppioddnpaa

/- Chapter 42: the program's Distinguish. -/
set_option maxRecDepth 100000
set_option maxHeartbeats 4000000
set_option linter.all false
namespace Go.Proofs.Ytkjffppioddnpaa
open Go.Vm
theorem dN0 {sk : Bool} {a b : Tb} {v : Vt} {l : List Vt} : dN sk a b v l 0 = l := rfl
theorem dst0 {sk : Bool} {a b : Tb} {M : Nat} : dst sk a b M 0 = [⟨0, 0, []⟩] := rfl
def cfgV : Cfg := { lv := [20], ef := [98], ord := [], em := [101, 104], fl := [], ks := some [0, 1, 4, 5] }
def pthV : List Int → V
  | [] => .sl true [] 0
  | l => slI l
def encVt (v : Vt) : List V := [.int .i64 v.p, .int .i64 v.q, pthV v.path]
theorem lenVt (v : Vt) : (encVt v).length = 3 := rfl
theorem pth_sl (l : List Int) : ∃ b cs n, pthV l = .sl b cs n := by
  cases l with
  | nil => exact ⟨_, _, _, rfl⟩
  | cons x r => exact ⟨_, _, _, rfl⟩
theorem bel_pthV {n : Nat} (l : List Int) : (pthV l).bel n = true := by
  cases l with
  | nil => rfl
  | cons x r => exact bel_slI _
theorem one_pthV {g : Bool} {p : Prop} {l : List Int} : ones g [pthV l] p = p := by
  cases l with
  | nil => rfl
  | cons x r => simp only [pthV, slI, ones, V.one]
theorem bel_encVt {n : Nat} (v : Vt) : belAll n (encVt v) = true := by rw [encVt, belAll_cons, belAll_cons, belAll_cons, bel_pthV]; rfl
theorem bel_flatVt {n : Nat} (l : List Vt) : belAll n (l.flatMap encVt) = true := belAll_flat (fun v => bel_encVt v) l
def enV (l : List Vt) : List (V × V) := l.map fun v => (.agg [.int .i64 v.p, .int .i64 v.q], .bool true)
theorem keyV {p q : Int} : keyOK tt 64 (.agg [.int .i64 p, .int .i64 q]) := ⟨rfl, rfl⟩
theorem keysV {l : List Vt} : keysOK tt 64 (enV l) := fun e he => by
  obtain ⟨v, _, rfl⟩ := List.mem_map.1 he
  exact keyV
theorem veqV {p q p' q' : Int} : veq (.agg [.int .i64 p, .int .i64 q]) (.agg [.int .i64 p', .int .i64 q']) = (decide (p' = p) && decide (q' = q)) := by
  show ((kindEq .i64 .i64 && (p == p')) && ((kindEq .i64 .i64 && (q == q')) && true)) = _
  rw [ibeq_dec, ibeq_dec, show kindEq .i64 .i64 = true from rfl, Bool.true_and, Bool.true_and, Bool.and_true]
  simp only [eq_comm]
theorem mGet_enV {p q : Int} : ∀ l : List Vt, mGet (.bool false) (.agg [.int .i64 p, .int .i64 q]) (enV l) = .bool (vin p q l)
  | [] => rfl
  | v :: r => by
    have ih := mGet_enV (p := p) (q := q) r
    simp only [enV, List.map_cons, mGet, veqV, vin, List.any_cons] at ih ⊢
    cases h : (decide (v.p = p) && decide (v.q = q))
    · simpa using ih
    · simp
theorem mPut_enV {v : Vt} : ∀ l : List Vt, vin v.p v.q l = false → mPut (.agg [.int .i64 v.p, .int .i64 v.q]) (.bool true) (enV l) = enV (l ++ [v])
  | [], _ => rfl
  | u :: r, h => by
    simp only [vin, List.any_cons, Bool.or_eq_false_iff] at h
    have ih := mPut_enV r h.2
    simp only [enV, List.map_cons, mPut, veqV, List.cons_append, h.1] at ih ⊢
    simpa using ih
theorem bel_enV1 {n : Nat} : ∀ (l : List Vt), belAll n ((enV l).map (·.1)) = true
  | [] => rfl
  | x :: r => by
    have := bel_enV1 (n := n) r
    simp only [enV, List.map_cons, belAll_cons] at this ⊢
    rw [this]; rfl
theorem bel_enV2 {n : Nat} : ∀ (l : List Vt), belAll n ((enV l).map (·.2)) = true
  | [] => rfl
  | x :: r => by
    have := bel_enV2 (n := n) r
    simp only [enV, List.map_cons, belAll_cons] at this ⊢
    rw [this]; rfl
theorem bel_mapV {n : Nat} {l : List Vt} : (Ob.map (enV l)).bel n = true := by simp only [Ob.bel, bel_enV1, bel_enV2]; rfl
theorem take_ints {l : List Int} : List.take l.length (l.map (V.int .i64)) = l.map (V.int .i64) := List.take_of_length_le (by simp)
def disV : Option (List Int) → V
  | some l => .tup [pthV l, .bool true]
  | none => .tup [.sl true [] 0, .bool false]
theorem bel_disV {n : Nat} (o : Option (List Int)) : (disV o).bel n = true := by
  cases o with
  | none => rfl
  | some l => rw [disV, bel_tup, belAll_cons, belAll_cons, bel_pthV]; rfl
theorem kc4 {a b c d : Nat} {H H' : List Ob} (ha : getO H' a = getO H a) (hb : getO H' b = getO H b) (hc : getO H' c = getO H c) (hd : getO H' d = getO H d) : KeepsC (some [a, b, c, d]) H H' := by
  intro j ver cs hm hg
  have : j = a ∨ j = b ∨ j = c ∨ j = d := by
    have aux : ∀ l : List Nat, memN l (some j) = true → j ∈ l := by
      intro l
      induction l with
      | nil => intro h; simp [memN] at h
      | cons x r ih =>
        intro h
        simp only [memN] at h
        split at h
        · rename_i e; rw [Nat.eq_of_beq_eq_true e]; simp
        · exact List.mem_cons_of_mem _ (ih h)
    simpa using aux _ hm
  rcases this with rfl | rfl | rfl | rfl
  · rw [ha]; exact hg
  · rw [hb]; exact hg
  · rw [hc]; exact hg
  · rw [hd]; exact hg
theorem shs_ints {k : Nat} {l : List Int} : shs k (l.map (V.int .i64)) = l.map (V.int .i64) := shs_ok (bel_ints l)
def cfgC5 : Cfg := { lv := [5], ef := [], ord := [], em := [] }
theorem pcj33 {l : List Int} (h : 0 < l.length) (hl : l.length ≤ 2 ^ 30) : PCJ Try.prog 33 [slI l] (.buf 0 1 0 l.length 1) [.cells 1 (l.map (.int .i64))] := by
  have h0 : ¬ l.length = 0 := by omega
  refine PCJ.walk tok mixed  cfgC5 Try.func33 rfl Try.call33 (by simp [belAll_append, bel_ints, bel_bools, bel_rows, bel_slI, bel_slR, bel_slB, bel_encT, bel_pthV, bel_flatVt, bel_mapV, bel_encVt, bel_disV]) ?_; simp (maxSteps := 2000000) -implicitDefEqProofs +contextual (disch := first | assumption | omega | decide +kernel) only [push_cast, ↓capI, br2_true, br2_false, frk_tt, frk_tf, frk_f, frkD_tt, frkD_tf, frkD_f, pk2_true, pk2_false, imp_true, seval, Nat.reduceLeDiff, Nat.reduceEqDiff, reduceCtorEq, ↓reduceIte, cfg0, cfgV, ones_ints, ones_bools, getV_map, getV_mapO, List.length_map, Nat.mul_one, slI, slR, slB, encT, keys0', mPut_nil', keyV, keysV, cfgC5, mGet_enV, encVt, one_pthV, shs_ints, Try.ntmps33,  cfgC5]
  simp (maxSteps := 2000000) -implicitDefEqProofs +contextual (disch := first | assumption | omega | decide +kernel) only [push_cast, ↓capI, br2_true, br2_false, frk_tt, frk_tf, frk_f, frkD_tt, frkD_tf, frkD_f, pk2_true, pk2_false, imp_true, seval, Nat.reduceLeDiff, Nat.reduceEqDiff, reduceCtorEq, ↓reduceIte, cfg0, cfgV, ones_ints, ones_bools, getV_map, getV_mapO, List.length_map, Nat.mul_one, slI, slR, slB, encT, keys0', mPut_nil', keyV, keysV, cfgC5, mGet_enV, encVt, one_pthV, shs_ints, take_ints]
  refine endJ.ret ([]) (by simp [belAll_append, bel_ints, bel_bools, bel_rows, bel_slI, bel_slR, bel_slB, bel_encT, bel_pthV, bel_flatVt, bel_mapV, bel_encVt, bel_disV, fzs_ok, getO, setO, fzs, fz, fzH, Nat.beq, cfg0, cfgV, ones_ints, ones_bools, getV_map, getV_mapO, List.length_map, Nat.mul_one, slI, slR, slB, encT, keys0', mPut_nil', keyV, keysV, cfgC5, mGet_enV, encVt, one_pthV, shs_ints]) (by simp [belAll_append, bel_ints, bel_bools, bel_rows, bel_slI, bel_slR, bel_slB, bel_encT, bel_pthV, bel_flatVt, bel_mapV, bel_encVt, bel_disV, fzs_ok, imp, lenOK_iff, List.take_of_length_le, evRes, getT, getO, setO, fzs, fz, fzH, Nat.beq, retV, Res.then, ldT, ldR, mkV, getV, cfg0, cfgV, ones_ints, ones_bools, getV_map, getV_mapO, List.length_map, Nat.mul_one, slI, slR, slB, encT, keys0', mPut_nil', keyV, keysV, cfgC5, mGet_enV, encVt, one_pthV, shs_ints, Try.f33]) (by first | rfl | simp [belAll_append, bel_ints, bel_bools, bel_rows, bel_slI, bel_slR, bel_slB, bel_encT, bel_pthV, bel_flatVt, bel_mapV, bel_encVt, bel_disV]) (by first | rfl | simp [belAll_append, bel_ints, bel_bools, bel_rows, bel_slI, bel_slR, bel_slB, bel_encT, bel_pthV, bel_flatVt, bel_mapV, bel_encVt, bel_disV])
theorem pc33 : PC Try.prog 33 [.sl true [] 0] (.sl true [] 0) := by
  refine PC.walk tok mixed cfgV Try.func33 rfl Try.call33 (by simp [belAll_append, bel_ints, bel_bools, bel_rows, bel_slI, bel_slR, bel_slB, bel_encT, bel_pthV, bel_flatVt, bel_mapV, bel_encVt, bel_disV]) (by first | rfl | simp [belAll_append, bel_ints, bel_bools, bel_rows, bel_slI, bel_slR, bel_slB, bel_encT, bel_pthV, bel_flatVt, bel_mapV, bel_encVt, bel_disV]) ?_; simp (maxSteps := 2000000) -implicitDefEqProofs +contextual (disch := first | assumption | omega | decide +kernel) only [push_cast, ↓capI, br2_true, br2_false, frk_tt, frk_tf, frk_f, frkD_tt, frkD_tf, frkD_f, pk2_true, pk2_false, imp_true, seval, Nat.reduceLeDiff, Nat.reduceEqDiff, reduceCtorEq, ↓reduceIte, cfg0, cfgV, ones_ints, ones_bools, getV_map, getV_mapO, List.length_map, Nat.mul_one, slI, slR, slB, encT, keys0', mPut_nil', keyV, keysV, cfgC5, mGet_enV, encVt, one_pthV, shs_ints, Try.ntmps33]
  refine endK.ret ?_ (by first | rfl | simp [belAll_append, bel_ints, bel_bools, bel_rows, bel_slI, bel_slR, bel_slB, bel_encT, bel_pthV, bel_flatVt, bel_mapV, bel_encVt, bel_disV]); simp [evRes, getT, retV, Try.f33]
theorem headD_get {l : List (List Int)} (h : 0 < l.length) : (l.headD []).length = (l[0]'h).length := by
  cases l with
  | nil => cases h
  | cons r s => rfl
theorem path_len (sk : Bool) (a b : Tb) (M : Nat) : ∀ i, ∀ v ∈ dst sk a b M i, v.path.length ≤ i
  | 0, v, h => by simp [dst] at h; subst h; exact Nat.le_refl _
  | i + 1, v, h => by
    have ih := path_len sk a b M i
    rw [dst] at h
    split at h
    · rename_i u hu
      have hu2 := ih u (List.mem_of_getElem? hu)
      have aux : ∀ n, ∀ v ∈ dN sk a b u (dst sk a b M i) n, v.path.length ≤ i + 1 := by
        intro n
        induction n with
        | zero => intro v hv; exact Nat.le_succ_of_le (ih v hv)
        | succ n ihn =>
          intro v hv
          rw [dN, dI] at hv
          split at hv
          · exact ihn v hv
          · rcases List.mem_append.1 hv with hv | hv
            · exact ihn v hv
            · rw [List.mem_singleton] at hv
              subst hv
              simp; omega
      exact aux M v h
    · exact Nat.le_succ_of_le (ih v h)
theorem pc15 (a b : Tb) : PC Try.prog 15 [.agg (encT a), .agg (encT b)] (disV (disO false a b)) := by
  have h20a := pc20 a
  have h20b := pc20 b
  rw [disO]
  by_cases hca : chkT a = 0
  case neg =>
    rw [if_pos (.inl hca)]
    obtain ⟨na, ca⟩ := a
    obtain ⟨nb, cb⟩ := b
    refine PC.walk tok mixed cfgV Try.func15 rfl Try.call15 (by simp [belAll_append, bel_ints, bel_bools, bel_rows, bel_slI, bel_slR, bel_slB, bel_encT, bel_pthV, bel_flatVt, bel_mapV, bel_encVt, bel_disV]) (by first | rfl | simp [belAll_append, bel_ints, bel_bools, bel_rows, bel_slI, bel_slR, bel_slB, bel_encT, bel_pthV, bel_flatVt, bel_mapV, bel_encVt, bel_disV]) ?_; simp (maxSteps := 2000000) -implicitDefEqProofs +contextual (disch := first | assumption | omega | decide +kernel) only [push_cast, ↓capI, br2_true, br2_false, frk_tt, frk_tf, frk_f, frkD_tt, frkD_tf, frkD_f, pk2_true, pk2_false, imp_true, seval, Nat.reduceLeDiff, Nat.reduceEqDiff, reduceCtorEq, ↓reduceIte, cfg0, cfgV, ones_ints, ones_bools, getV_map, getV_mapO, List.length_map, Nat.mul_one, slI, slR, slB, encT, keys0', mPut_nil', keyV, keysV, cfgC5, mGet_enV, encVt, one_pthV, shs_ints, Try.ntmps15]
    refine callO.pc h20a ?_
    simp (maxSteps := 2000000) -implicitDefEqProofs +contextual (disch := first | assumption | omega | decide +kernel) only [push_cast, ↓capI, br2_true, br2_false, frk_tt, frk_tf, frk_f, frkD_tt, frkD_tf, frkD_f, pk2_true, pk2_false, imp_true, seval, Nat.reduceLeDiff, Nat.reduceEqDiff, reduceCtorEq, ↓reduceIte, cfg0, cfgV, ones_ints, ones_bools, getV_map, getV_mapO, List.length_map, Nat.mul_one, slI, slR, slB, encT, keys0', mPut_nil', keyV, keysV, cfgC5, mGet_enV, encVt, one_pthV, shs_ints, hca]
    refine endK.ret ?_ (by first | rfl | simp [belAll_append, bel_ints, bel_bools, bel_rows, bel_slI, bel_slR, bel_slB, bel_encT, bel_pthV, bel_flatVt, bel_mapV, bel_encVt, bel_disV]); simp [evRes, getT, retV, Try.f15,  disV]
  by_cases hcb : chkT b = 0
  case neg =>
    rw [if_pos (.inr hcb)]
    obtain ⟨na, ca⟩ := a
    obtain ⟨nb, cb⟩ := b
    refine PC.walk tok mixed cfgV Try.func15 rfl Try.call15 (by simp [belAll_append, bel_ints, bel_bools, bel_rows, bel_slI, bel_slR, bel_slB, bel_encT, bel_pthV, bel_flatVt, bel_mapV, bel_encVt, bel_disV]) (by first | rfl | simp [belAll_append, bel_ints, bel_bools, bel_rows, bel_slI, bel_slR, bel_slB, bel_encT, bel_pthV, bel_flatVt, bel_mapV, bel_encVt, bel_disV]) ?_; simp (maxSteps := 2000000) -implicitDefEqProofs +contextual (disch := first | assumption | omega | decide +kernel) only [push_cast, ↓capI, br2_true, br2_false, frk_tt, frk_tf, frk_f, frkD_tt, frkD_tf, frkD_f, pk2_true, pk2_false, imp_true, seval, Nat.reduceLeDiff, Nat.reduceEqDiff, reduceCtorEq, ↓reduceIte, cfg0, cfgV, ones_ints, ones_bools, getV_map, getV_mapO, List.length_map, Nat.mul_one, slI, slR, slB, encT, keys0', mPut_nil', keyV, keysV, cfgC5, mGet_enV, encVt, one_pthV, shs_ints, Try.ntmps15]
    refine callO.pc h20a ?_
    simp (maxSteps := 2000000) -implicitDefEqProofs +contextual (disch := first | assumption | omega | decide +kernel) only [push_cast, ↓capI, br2_true, br2_false, frk_tt, frk_tf, frk_f, frkD_tt, frkD_tf, frkD_f, pk2_true, pk2_false, imp_true, seval, Nat.reduceLeDiff, Nat.reduceEqDiff, reduceCtorEq, ↓reduceIte, cfg0, cfgV, ones_ints, ones_bools, getV_map, getV_mapO, List.length_map, Nat.mul_one, slI, slR, slB, encT, keys0', mPut_nil', keyV, keysV, cfgC5, mGet_enV, encVt, one_pthV, shs_ints, hca]
    refine callO.pc h20b ?_
    simp (maxSteps := 2000000) -implicitDefEqProofs +contextual (disch := first | assumption | omega | decide +kernel) only [push_cast, ↓capI, br2_true, br2_false, frk_tt, frk_tf, frk_f, frkD_tt, frkD_tf, frkD_f, pk2_true, pk2_false, imp_true, seval, Nat.reduceLeDiff, Nat.reduceEqDiff, reduceCtorEq, ↓reduceIte, cfg0, cfgV, ones_ints, ones_bools, getV_map, getV_mapO, List.length_map, Nat.mul_one, slI, slR, slB, encT, keys0', mPut_nil', keyV, keysV, cfgC5, mGet_enV, encVt, one_pthV, shs_ints, hcb]
    refine endK.ret ?_ (by first | rfl | simp [belAll_append, bel_ints, bel_bools, bel_rows, bel_slI, bel_slR, bel_slB, bel_encT, bel_pthV, bel_flatVt, bel_mapV, bel_encVt, bel_disV]); simp [evRes, getT, retV, Try.f15,  disV]
  rw [if_neg (by omega)]
  obtain ⟨hta, ha64⟩ := okT_of hca
  obtain ⟨htb, hb64⟩ := okT_of hcb
  have hsa := fun q s (h : q < (a.next.length : Int)) => pcSuc 30 (.inl rfl) (t := a) (q := q) (s := s) h
  have hsb := fun q s (h : q < (b.next.length : Int)) => pcSuc 30 (.inl rfl) (t := b) (q := q) (s := s) h
  have hok := fun i => dst_ok (sk := false) (M := max (colsT a) (colsT b)) hta htb i
  have hpl := path_len false a b (max (colsT a) (colsT b))
  have hca1 := hta.cols
  have hcb1 := htb.cols
  have haa := hta.accs
  have hbb := htb.accs
  have hpa := hta.pos
  have hpb := htb.pos
  rw [disR]
  have hM : max (colsT a) (colsT b) ≤ 16 := by simp only [colsT]; omega
  have hMd : ((max (colsT a) (colsT b) : Nat) : Int) = max (colsT a : Int) (colsT b : Int) := by omega
  have hcola : colsT a = (a.next[0]'hpa).length := headD_get hpa
  have hcolb : colsT b = (b.next[0]'hpb).length := headD_get hpb
  generalize max (colsT a) (colsT b) = M at hM hMd hok hpl ⊢
  have hfin : ∀ i v, (dst false a b M i)[i]? = some v → i < disN - 1 := fun i v hv => by
    have h1 := (List.getElem?_eq_some_iff.1 hv).1
    have h2 := (hok i).len ha64 hb64
    rw [disN]; omega
  have hacc : ∀ (q : Int) (t : Tb), accq t q = (decide (0 ≤ q) && gB t.acc q) := fun q t => rfl
  obtain ⟨na, ca⟩ := a
  obtain ⟨nb, cb⟩ := b
  simp only at haa hbb hpa hpb ha64 hb64 hsa hsb hcola hcolb
  refine PC.walk tok mixed cfgV Try.func15 rfl Try.call15 (by simp [belAll_append, bel_ints, bel_bools, bel_rows, bel_slI, bel_slR, bel_slB, bel_encT, bel_pthV, bel_flatVt, bel_mapV, bel_encVt, bel_disV]) (by first | rfl | simp [belAll_append, bel_ints, bel_bools, bel_rows, bel_slI, bel_slR, bel_slB, bel_encT, bel_pthV, bel_flatVt, bel_mapV, bel_encVt, bel_disV]) ?_; simp (maxSteps := 2000000) -implicitDefEqProofs +contextual (disch := first | assumption | omega | decide +kernel) only [push_cast, ↓capI, br2_true, br2_false, frk_tt, frk_tf, frk_f, frkD_tt, frkD_tf, frkD_f, pk2_true, pk2_false, imp_true, seval, Nat.reduceLeDiff, Nat.reduceEqDiff, reduceCtorEq, ↓reduceIte, cfg0, cfgV, ones_ints, ones_bools, getV_map, getV_mapO, List.length_map, Nat.mul_one, slI, slR, slB, encT, keys0', mPut_nil', keyV, keysV, cfgC5, mGet_enV, encVt, one_pthV, shs_ints, Try.ntmps15]
  refine callO.pc h20a ?_
  simp (maxSteps := 2000000) -implicitDefEqProofs +contextual (disch := first | assumption | omega | decide +kernel) only [push_cast, ↓capI, br2_true, br2_false, frk_tt, frk_tf, frk_f, frkD_tt, frkD_tf, frkD_f, pk2_true, pk2_false, imp_true, seval, Nat.reduceLeDiff, Nat.reduceEqDiff, reduceCtorEq, ↓reduceIte, cfg0, cfgV, ones_ints, ones_bools, getV_map, getV_mapO, List.length_map, Nat.mul_one, slI, slR, slB, encT, keys0', mPut_nil', keyV, keysV, cfgC5, mGet_enV, encVt, one_pthV, shs_ints, hca]
  refine callO.pc h20b ?_
  simp (maxSteps := 2000000) -implicitDefEqProofs +contextual (disch := first | assumption | omega | decide +kernel) only [push_cast, ↓capI, br2_true, br2_false, frk_tt, frk_tf, frk_f, frkD_tt, frkD_tf, frkD_f, pk2_true, pk2_false, imp_true, seval, Nat.reduceLeDiff, Nat.reduceEqDiff, reduceCtorEq, ↓reduceIte, cfg0, cfgV, ones_ints, ones_bools, getV_map, getV_mapO, List.length_map, Nat.mul_one, slI, slR, slB, encT, keys0', mPut_nil', keyV, keysV, cfgC5, mGet_enV, encVt, one_pthV, shs_ints, hcb]
  refine T.lp tok mixed cfgV (fun ((s : Nat × Nat × List Vt)) => dd 2 (kp 2 (dd 2 (sv (.buf 2 s.2.1 (s.2.2.length * 3) ((dst false ⟨na, ca⟩ ⟨nb, cb⟩ M s.1).drop s.1).length 3) (kp 1 (dd 98 (nl))))))) (fun H0 ((s : Nat × Nat × List Vt)) => [.cells 0 (encT ⟨na, ca⟩), .cells 0 (encT ⟨nb, cb⟩), .cells s.2.1 ((s.2.2 ++ (dst false ⟨na, ca⟩ ⟨nb, cb⟩ M s.1).drop s.1).flatMap encVt), .map (enV (dst false ⟨na, ca⟩ ⟨nb, cb⟩ M s.1))]) (fun ((s : Nat × Nat × List Vt)) => s.1 ≤ (dst false ⟨na, ca⟩ ⟨nb, cb⟩ M s.1).length ∧ dF false ⟨na, ca⟩ ⟨nb, cb⟩ M (disN - s.1) s.1 = dF false ⟨na, ca⟩ ⟨nb, cb⟩ M disN 0) (fun ((s : Nat × Nat × List Vt)) => disN - s.1) ((0, 0, [])) ?_ ?_ ?_
  · exact ⟨Nat.zero_le _, rfl⟩
  · exact Gn.canon (J := []) (by simp [List.append_nil, encT, slR, slB, slI, dN0, dst0, encVt, enV, pthV]) (by simp [wk, dN0, dst0, encVt, putT, kp, dd, sv, nl, pthV]) (by simp [List.length_append]) (by simp [belAll_append, bel_ints, bel_bools, bel_rows, bel_slI, bel_slR, bel_slB, bel_encT, bel_pthV, bel_flatVt, bel_mapV, bel_encVt, bel_disV, kp, dd, sv, nl]) (by simp [belAll_append, bel_ints, bel_bools, bel_rows, bel_slI, bel_slR, bel_slB, bel_encT, bel_pthV, bel_flatVt, bel_mapV, bel_encVt, bel_disV])
  · intro s hs
    obtain ⟨i, ver, pre⟩ := s
    obtain ⟨hi, hs⟩ := hs
    simp only at hi hs
    have hoki := hok i
    have hpli := hpl i
    have hnext : dst false ⟨na, ca⟩ ⟨nb, cb⟩ M (i + 1) = match (dst false ⟨na, ca⟩ ⟨nb, cb⟩ M i)[i]? with | some v => dN false ⟨na, ca⟩ ⟨nb, cb⟩ v (dst false ⟨na, ca⟩ ⟨nb, cb⟩ M i) M | none => dst false ⟨na, ca⟩ ⟨nb, cb⟩ M i := rfl
    have hL := hoki.len ha64 hb64
    have hdf : disN - i = (disN - i - 1) + 1 := by rw [disN]; omega
    rw [hdf, dF] at hs
    generalize hD : dst false ⟨na, ca⟩ ⟨nb, cb⟩ M i = L at hoki hpli hnext hi hL hs
    simp only [hD]
    by_cases hlt : i < L.length
    · have hv0 : L[i]? = some L[i] := List.getElem?_eq_getElem hlt
      have hdr : L.drop i = L[i] :: L.drop (i + 1) := List.drop_eq_getElem_cons hlt
      have hvr := hoki.rng L[i] (List.getElem_mem hlt)
      have hvp := hpli L[i] (List.getElem_mem hlt)
      rw [hv0] at hs hnext
      simp only at hs hnext
      rw [hdr]
      have hvok := fun s => dN_ok (sk := false) hta htb hvr hoki s
      generalize L[i] = v at hs hnext hvr hvp hdr hvok ⊢
      obtain ⟨p, q, path⟩ := v
      simp only at hvr hvp
      have hgv : getV ((pre ++ ⟨p, q, path⟩ :: L.drop (i + 1)).flatMap encVt) (pre.length * 3) 3 = [.int .i64 p, .int .i64 q, pthV path] := by
        have := get_flat (enc := encVt) lenVt (pre ++ ⟨p, q, path⟩ :: L.drop (i + 1)) pre.length (by simp)
        rw [this]
        simp [encVt]
      have hfl : ((pre ++ ⟨p, q, path⟩ :: L.drop (i + 1)).flatMap encVt).length = pre.length * 3 + 3 + (L.drop (i + 1)).length * 3 := by
        rw [len_flat (enc := encVt) lenVt, List.length_append, List.length_cons]; omega
      rw [dif, hacc, hacc] at hs
      simp only at hs
      have hpK : 0 ≤ p → ∃ k : Nat, p = (k : Int) ∧ ∃ h : k < ca.length, gB ca p = ca[k] := fun h => ⟨p.toNat, by omega, by omega, lgetD (by omega)⟩
      have hqK : 0 ≤ q → ∃ k : Nat, q = (k : Int) ∧ ∃ h : k < cb.length, gB cb q = cb[k] := fun h => ⟨q.toNat, by omega, by omega, lgetD (by omega)⟩
      generalize hrest : L.drop (i + 1) = rest at hgv hfl hdr
      obtain ⟨pb, pcs, pn, hpv⟩ := pth_sl path
      have hbp : ∀ n, belAll n pcs = true := fun n => by
        have := bel_pthV (n := n) path
        rw [hpv, bel_sl] at this
        exact this
      have htn : ((rest.length : Int) + 1).toNat = rest.length + 1 := by omega
      have hMx : (if na[0].length < nb[0].length then (nb[0].length : Int) else (na[0].length : Int)) = (M : Int) := by
        rw [hMd, hcola, hcolb]
        split <;> omega
      by_cases hp : 0 ≤ p
      by_cases hq : 0 ≤ q
      obtain ⟨k, hpk, hk, hgk⟩ := hpK hp
      obtain ⟨kq, hql, hl, hgl⟩ := hqK hq
      rw [hgk, hgl, decide_eq_true hp, decide_eq_true hq, Bool.true_and, Bool.true_and] at hs
      rw [hpk, hql] at hgv hfl
      simp (maxSteps := 2000000) -implicitDefEqProofs +contextual (disch := first | assumption | omega | decide +kernel) only [push_cast, ↓capI, br2_true, br2_false, frk_tt, frk_tf, frk_f, frkD_tt, frkD_tf, frkD_f, pk2_true, pk2_false, imp_true, seval, Nat.reduceLeDiff, Nat.reduceEqDiff, reduceCtorEq, ↓reduceIte, cfg0, cfgV, ones_ints, ones_bools, getV_map, getV_mapO, List.length_map, Nat.mul_one, slI, slR, slB, encT, keys0', mPut_nil', keyV, keysV, cfgC5, mGet_enV, encVt, one_pthV, shs_ints, List.length_cons, hgv, hfl, hpk, hql, hk, hl, hpv, htn, Nat.add_sub_cancel, hMx]
      refine ⟨fun hx => ?_, fun hx => ?_⟩
      · rw [if_pos (by simpa using hx)] at hs
        rw [← hs]
        refine endK.ret ?_ (by first | rfl | simp [belAll_append, bel_ints, bel_bools, bel_rows, bel_slI, bel_slR, bel_slB, bel_encT, bel_pthV, bel_flatVt, bel_mapV, bel_encVt, bel_disV]); simp [evRes, getT, retV, Try.f15,  disV, hpv]
      rw [if_neg (by simpa using hx)] at hs
      rotate_left
      obtain ⟨k, hpk, hk, hgk⟩ := hpK hp
      have hql : q = q := rfl
      rw [hgk, decide_eq_true hp, decide_eq_false hq, Bool.true_and, Bool.false_and] at hs
      rw [hpk] at hgv hfl
      simp (maxSteps := 2000000) -implicitDefEqProofs +contextual (disch := first | assumption | omega | decide +kernel) only [push_cast, ↓capI, br2_true, br2_false, frk_tt, frk_tf, frk_f, frkD_tt, frkD_tf, frkD_f, pk2_true, pk2_false, imp_true, seval, Nat.reduceLeDiff, Nat.reduceEqDiff, reduceCtorEq, ↓reduceIte, cfg0, cfgV, ones_ints, ones_bools, getV_map, getV_mapO, List.length_map, Nat.mul_one, slI, slR, slB, encT, keys0', mPut_nil', keyV, keysV, cfgC5, mGet_enV, encVt, one_pthV, shs_ints, List.length_cons, hgv, hfl, hpk, hk, hq, hpv, htn, Nat.add_sub_cancel, hMx]
      refine ⟨fun hx => ?_, fun hx => ?_⟩
      · rw [if_pos (by simpa using hx)] at hs
        rw [← hs]
        refine endK.ret ?_ (by first | rfl | simp [belAll_append, bel_ints, bel_bools, bel_rows, bel_slI, bel_slR, bel_slB, bel_encT, bel_pthV, bel_flatVt, bel_mapV, bel_encVt, bel_disV]); simp [evRes, getT, retV, Try.f15,  disV, hpv]
      rw [if_neg (by simpa using hx)] at hs
      rotate_left
      by_cases hq : 0 ≤ q
      obtain ⟨kq, hql, hl, hgl⟩ := hqK hq
      have hpk : p = p := rfl
      rw [hgl, decide_eq_false hp, decide_eq_true hq, Bool.true_and, Bool.false_and] at hs
      rw [hql] at hgv hfl
      cases hz : cb[kq]
      rw [hz, if_neg (by decide)] at hs
      simp (maxSteps := 2000000) -implicitDefEqProofs +contextual (disch := first | assumption | omega | decide +kernel) only [push_cast, ↓capI, br2_true, br2_false, frk_tt, frk_tf, frk_f, frkD_tt, frkD_tf, frkD_f, pk2_true, pk2_false, imp_true, seval, Nat.reduceLeDiff, Nat.reduceEqDiff, reduceCtorEq, ↓reduceIte, cfg0, cfgV, ones_ints, ones_bools, getV_map, getV_mapO, List.length_map, Nat.mul_one, slI, slR, slB, encT, keys0', mPut_nil', keyV, keysV, cfgC5, mGet_enV, encVt, one_pthV, shs_ints, List.length_cons, hgv, hfl, hql, hp, hl, hz, hpv, htn, Nat.add_sub_cancel, hMx]
      rotate_left
      · rw [hz, if_pos (by decide)] at hs
        rw [← hs]
        simp (maxSteps := 2000000) -implicitDefEqProofs +contextual (disch := first | assumption | omega | decide +kernel) only [push_cast, ↓capI, br2_true, br2_false, frk_tt, frk_tf, frk_f, frkD_tt, frkD_tf, frkD_f, pk2_true, pk2_false, imp_true, seval, Nat.reduceLeDiff, Nat.reduceEqDiff, reduceCtorEq, ↓reduceIte, cfg0, cfgV, ones_ints, ones_bools, getV_map, getV_mapO, List.length_map, Nat.mul_one, slI, slR, slB, encT, keys0', mPut_nil', keyV, keysV, cfgC5, mGet_enV, encVt, one_pthV, shs_ints, List.length_cons, hgv, hfl, hql, hp, hl, hz, hpv, htn, Nat.add_sub_cancel, hMx]
        refine endK.ret ?_ (by first | rfl | simp [belAll_append, bel_ints, bel_bools, bel_rows, bel_slI, bel_slR, bel_slB, bel_encT, bel_pthV, bel_flatVt, bel_mapV, bel_encVt, bel_disV]); simp [evRes, getT, retV, Try.f15,  disV, hpv]
      have hpk : p = p := rfl
      have hql : q = q := rfl
      rw [decide_eq_false hp, decide_eq_false hq, Bool.false_and, Bool.false_and, if_neg (by decide)] at hs
      simp (maxSteps := 2000000) -implicitDefEqProofs +contextual (disch := first | assumption | omega | decide +kernel) only [push_cast, ↓capI, br2_true, br2_false, frk_tt, frk_tf, frk_f, frkD_tt, frkD_tf, frkD_f, pk2_true, pk2_false, imp_true, seval, Nat.reduceLeDiff, Nat.reduceEqDiff, reduceCtorEq, ↓reduceIte, cfg0, cfgV, ones_ints, ones_bools, getV_map, getV_mapO, List.length_map, Nat.mul_one, slI, slR, slB, encT, keys0', mPut_nil', keyV, keysV, cfgC5, mGet_enV, encVt, one_pthV, shs_ints, List.length_cons, hgv, hfl, hp, hq, hpv, htn, Nat.add_sub_cancel, hMx]
      all_goals
        refine T.lp tok mixed cfgV (fun ((u : Nat × Nat × List Vt)) => dd 2 (kp 2 (dd 2 (sv (.buf 2 u.2.1 (u.2.2.length * 3) ((dN false ⟨na, ca⟩ ⟨nb, cb⟩ ⟨p, q, path⟩ L u.1).drop (i + 1)).length 3) (kp 2 (dd 62 (kp 1 (sv (.int .i64 (u.1 : Int)) (dd 33 (nl)))))))))) (fun H0 ((u : Nat × Nat × List Vt)) => [.cells 0 (encT ⟨na, ca⟩), .cells 0 (encT ⟨nb, cb⟩), .cells u.2.1 ((u.2.2 ++ (dN false ⟨na, ca⟩ ⟨nb, cb⟩ ⟨p, q, path⟩ L u.1).drop (i + 1)).flatMap encVt), .map (enV (dN false ⟨na, ca⟩ ⟨nb, cb⟩ ⟨p, q, path⟩ L u.1)), .cells 0 (encVt ⟨p, q, path⟩)]) (fun ((u : Nat × Nat × List Vt)) => u.1 ≤ M) (fun ((u : Nat × Nat × List Vt)) => M - u.1) ((0, ver, pre ++ [⟨p, q, path⟩])) ?_ ?_ ?_
        · exact Nat.zero_le _
        · exact Gn.canon (J := []) (by simp [List.append_nil, encT, slR, slB, slI, dN0, dst0, encVt, hrest, hpv, hpk, hql]) (by simp [wk, dN0, dst0, encVt, putT, kp, dd, sv, nl, hrest, Nat.add_mul, hpv, hpk, hql]) (by simp [List.length_append]) (by simp [belAll_append, bel_ints, bel_bools, bel_rows, bel_slI, bel_slR, bel_slB, bel_encT, bel_pthV, bel_flatVt, bel_mapV, bel_encVt, bel_disV, kp, dd, sv, nl]) (by simp [belAll_append, bel_ints, bel_bools, bel_rows, bel_slI, bel_slR, bel_slB, bel_encT, bel_pthV, bel_flatVt, bel_mapV, bel_encVt, bel_disV])
        · intro u hu
          obtain ⟨s, ver2, pre2⟩ := u
          simp only at hu
          obtain ⟨r2, hr2⟩ := dN_pre false ⟨na, ca⟩ ⟨nb, cb⟩ ⟨p, q, path⟩ L s
          have hokl := hvok s
          have hnx : dN false ⟨na, ca⟩ ⟨nb, cb⟩ ⟨p, q, path⟩ L (s + 1) = dI false ⟨na, ca⟩ ⟨nb, cb⟩ ⟨p, q, path⟩ s (dN false ⟨na, ca⟩ ⟨nb, cb⟩ ⟨p, q, path⟩ L s) := rfl
          have hlast : s = M → dN false ⟨na, ca⟩ ⟨nb, cb⟩ ⟨p, q, path⟩ L M = dN false ⟨na, ca⟩ ⟨nb, cb⟩ ⟨p, q, path⟩ L s := fun e => by rw [e]
          generalize hD2 : dN false ⟨na, ca⟩ ⟨nb, cb⟩ ⟨p, q, path⟩ L s = l at hokl hnx hlast hr2
          simp only [hD2]
          have hil : i + 1 ≤ l.length := by rw [hr2, List.length_append]; omega
          have hln : l.length - (i + 1) + 1 = l.length - i := by omega
          by_cases hsM : s < M
          · have hca2 := hsa p s (by omega)
            have hcb2 := hsb q s (by omega)
            have hmg := mGet_enV (p := suc ⟨na, ca⟩ p s) (q := suc ⟨nb, cb⟩ q s) l
            have hfl2 : ((pre2 ++ l.drop (i + 1)).flatMap encVt).length = pre2.length * 3 + (l.drop (i + 1)).length * 3 := by
              rw [len_flat (enc := encVt) lenVt, List.length_append]; omega
            have hdr2 : ((pre2 ++ l.drop (i + 1)).flatMap encVt).drop (pre2.length * 3) = (l.drop (i + 1)).flatMap encVt := by
              rw [drop_flat (enc := encVt) lenVt, List.drop_left]
            have hl2 := hokl.len ha64 hb64
            rw [dI] at hnx
            simp only [seen, Bool.false_and, Bool.false_or] at hnx
            cases hvn : vin (suc ⟨na, ca⟩ p s) (suc ⟨nb, cb⟩ q s) l with
            | true =>
              rw [hvn] at hmg
              rw [hvn, if_pos rfl] at hnx
              simp (maxSteps := 2000000) -implicitDefEqProofs +contextual (disch := first | assumption | omega | decide +kernel) only [push_cast, ↓capI, br2_true, br2_false, frk_tt, frk_tf, frk_f, frkD_tt, frkD_tf, frkD_f, pk2_true, pk2_false, imp_true, seval, Nat.reduceLeDiff, Nat.reduceEqDiff, reduceCtorEq, ↓reduceIte, cfg0, cfgV, ones_ints, ones_bools, getV_map, getV_mapO, List.length_map, Nat.mul_one, slI, slR, slB, encT, keys0', mPut_nil', keyV, keysV, cfgC5, mGet_enV, encVt, one_pthV, shs_ints, hsM, hpv]
              refine callG.pc1 hca2 ?_
              simp (maxSteps := 2000000) -implicitDefEqProofs +contextual (disch := first | assumption | omega | decide +kernel) only [push_cast, ↓capI, br2_true, br2_false, frk_tt, frk_tf, frk_f, frkD_tt, frkD_tf, frkD_f, pk2_true, pk2_false, imp_true, seval, Nat.reduceLeDiff, Nat.reduceEqDiff, reduceCtorEq, ↓reduceIte, cfg0, cfgV, ones_ints, ones_bools, getV_map, getV_mapO, List.length_map, Nat.mul_one, slI, slR, slB, encT, keys0', mPut_nil', keyV, keysV, cfgC5, mGet_enV, encVt, one_pthV, shs_ints]
              refine callG.pc1 hcb2 ?_
              simp (maxSteps := 2000000) -implicitDefEqProofs +contextual (disch := first | assumption | omega | decide +kernel) only [push_cast, ↓capI, br2_true, br2_false, frk_tt, frk_tf, frk_f, frkD_tt, frkD_tf, frkD_f, pk2_true, pk2_false, imp_true, seval, Nat.reduceLeDiff, Nat.reduceEqDiff, reduceCtorEq, ↓reduceIte, cfg0, cfgV, ones_ints, ones_bools, getV_map, getV_mapO, List.length_map, Nat.mul_one, slI, slR, slB, encT, keys0', mPut_nil', keyV, keysV, cfgC5, mGet_enV, encVt, one_pthV, shs_ints, hmg]
              refine ⟨(s + 1, ver2, pre2), by simp only; omega, by (try simp only); omega, ?_⟩; exact Gn.canon (by first | rfl | (simp [List.append_nil, encT, slR, slB, slI, dN0, dst0, encVt, hnx, hpv]; done) | (simp [List.append_nil, encT, slR, slB, slI, dN0, dst0, encVt, hnx, hpv]; rfl)) (by simp [wk, dN0, dst0, encVt, hnx, hpv]) (by simp [List.length_append]) (by simp [belAll_append, bel_ints, bel_bools, bel_rows, bel_slI, bel_slR, bel_slB, bel_encT, bel_pthV, bel_flatVt, bel_mapV, bel_encVt, bel_disV, hbp]) (by simp [belAll_append, bel_ints, bel_bools, bel_rows, bel_slI, bel_slR, bel_slB, bel_encT, bel_pthV, bel_flatVt, bel_mapV, bel_encVt, bel_disV, hbp])
            | false =>
              rw [hvn] at hmg
              rw [hvn, if_neg (by decide)] at hnx
              have hmp := mPut_enV (v := ⟨suc ⟨na, ca⟩ p s, suc ⟨nb, cb⟩ q s, path ++ [(s : Int)]⟩) l hvn
              have hdr3 : (l ++ [⟨suc ⟨na, ca⟩ p s, suc ⟨nb, cb⟩ q s, path ++ [(s : Int)]⟩] : List Vt).drop (i + 1) = l.drop (i + 1) ++ [⟨suc ⟨na, ca⟩ p s, suc ⟨nb, cb⟩ q s, path ++ [(s : Int)]⟩] := List.drop_append_of_le_length hil
              simp only at hmp
              cases path with
              | nil =>
                have e : pthV [] = .sl true [] 0 := rfl
                simp only [List.nil_append, List.cons_append] at hdr3 hnx hmp
                simp (maxSteps := 2000000) -implicitDefEqProofs +contextual (disch := first | assumption | omega | decide +kernel) only [push_cast, ↓capI, br2_true, br2_false, frk_tt, frk_tf, frk_f, frkD_tt, frkD_tf, frkD_f, pk2_true, pk2_false, imp_true, seval, Nat.reduceLeDiff, Nat.reduceEqDiff, reduceCtorEq, ↓reduceIte, cfg0, cfgV, ones_ints, ones_bools, getV_map, getV_mapO, List.length_map, Nat.mul_one, slI, slR, slB, encT, keys0', mPut_nil', keyV, keysV, cfgC5, mGet_enV, encVt, one_pthV, shs_ints, hsM, e]
                refine callG.pc1 hca2 ?_
                simp (maxSteps := 2000000) -implicitDefEqProofs +contextual (disch := first | assumption | omega | decide +kernel) only [push_cast, ↓capI, br2_true, br2_false, frk_tt, frk_tf, frk_f, frkD_tt, frkD_tf, frkD_f, pk2_true, pk2_false, imp_true, seval, Nat.reduceLeDiff, Nat.reduceEqDiff, reduceCtorEq, ↓reduceIte, cfg0, cfgV, ones_ints, ones_bools, getV_map, getV_mapO, List.length_map, Nat.mul_one, slI, slR, slB, encT, keys0', mPut_nil', keyV, keysV, cfgC5, mGet_enV, encVt, one_pthV, shs_ints]
                refine callG.pc1 hcb2 ?_
                simp (maxSteps := 2000000) -implicitDefEqProofs +contextual (disch := first | assumption | omega | decide +kernel) only [push_cast, ↓capI, br2_true, br2_false, frk_tt, frk_tf, frk_f, frkD_tt, frkD_tf, frkD_f, pk2_true, pk2_false, imp_true, seval, Nat.reduceLeDiff, Nat.reduceEqDiff, reduceCtorEq, ↓reduceIte, cfg0, cfgV, ones_ints, ones_bools, getV_map, getV_mapO, List.length_map, Nat.mul_one, slI, slR, slB, encT, keys0', mPut_nil', keyV, keysV, cfgC5, mGet_enV, encVt, one_pthV, shs_ints, hmg, hmp]
                refine callX.pc pc33 ?_
                simp (maxSteps := 2000000) -implicitDefEqProofs +contextual (disch := first | assumption | omega | decide +kernel) only [push_cast, ↓capI, br2_true, br2_false, frk_tt, frk_tf, frk_f, frkD_tt, frkD_tf, frkD_f, pk2_true, pk2_false, imp_true, seval, Nat.reduceLeDiff, Nat.reduceEqDiff, reduceCtorEq, ↓reduceIte, cfg0, cfgV, ones_ints, ones_bools, getV_map, getV_mapO, List.length_map, Nat.mul_one, slI, slR, slB, encT, keys0', mPut_nil', keyV, keysV, cfgC5, mGet_enV, encVt, one_pthV, shs_ints, hfl2, hdr2]
                refine ⟨kc4 rfl rfl rfl rfl, kc4 rfl rfl rfl rfl, ?_⟩
                refine ⟨(s + 1, ver2 + 1, []), by simp only; omega, by (try simp only); omega, ?_⟩; refine (Gn.freeze (id := 6) rfl).trans ?_; exact Gn.canon (by first | rfl | (simp [List.append_nil, encT, slR, slB, slI, dN0, dst0, encVt, fzs, fz, fzs_ok, fzH, setO, getO, Nat.beq, List.take_of_length_le, belAll_append, bel_ints, bel_bools, bel_rows, bel_slI, bel_slR, bel_slB, bel_encT, bel_pthV, bel_flatVt, bel_mapV, bel_encVt, bel_disV, hnx, hdr3, pthV, slI, fzs_app, hln]; done) | (simp [List.append_nil, encT, slR, slB, slI, dN0, dst0, encVt, fzs, fz, fzs_ok, fzH, setO, getO, Nat.beq, List.take_of_length_le, belAll_append, bel_ints, bel_bools, bel_rows, bel_slI, bel_slR, bel_slB, bel_encT, bel_pthV, bel_flatVt, bel_mapV, bel_encVt, bel_disV, hnx, hdr3, pthV, slI, fzs_app, hln]; rfl)) (by simp [wk, dN0, dst0, encVt, fzs, fz, fzs_ok, fzH, setO, getO, Nat.beq, List.take_of_length_le, belAll_append, bel_ints, bel_bools, bel_rows, bel_slI, bel_slR, bel_slB, bel_encT, bel_pthV, bel_flatVt, bel_mapV, bel_encVt, bel_disV, hnx, hdr3, pthV, slI, fzs_app, hln, cfg0, cfgV, ones_ints, ones_bools, getV_map, getV_mapO, List.length_map, Nat.mul_one, slI, slR, slB, encT, keys0', mPut_nil', keyV, keysV, cfgC5, mGet_enV, encVt, one_pthV, shs_ints]) (by simp [List.length_append]) (by simp [belAll_append, bel_ints, bel_bools, bel_rows, bel_slI, bel_slR, bel_slB, bel_encT, bel_pthV, bel_flatVt, bel_mapV, bel_encVt, bel_disV]) (by simp [belAll_append, bel_ints, bel_bools, bel_rows, bel_slI, bel_slR, bel_slB, bel_encT, bel_pthV, bel_flatVt, bel_mapV, bel_encVt, bel_disV])
              | cons y t =>
                have e : pthV (y :: t) = slI (y :: t) := rfl
                have htl : t.length ≤ 68719476734 := by
                  simp only [List.length_cons] at hvp
                  omega
                simp only [List.nil_append, List.cons_append] at hdr3 hnx hmp
                simp (maxSteps := 2000000) -implicitDefEqProofs +contextual (disch := first | assumption | omega | decide +kernel) only [push_cast, ↓capI, br2_true, br2_false, frk_tt, frk_tf, frk_f, frkD_tt, frkD_tf, frkD_f, pk2_true, pk2_false, imp_true, seval, Nat.reduceLeDiff, Nat.reduceEqDiff, reduceCtorEq, ↓reduceIte, cfg0, cfgV, ones_ints, ones_bools, getV_map, getV_mapO, List.length_map, Nat.mul_one, slI, slR, slB, encT, keys0', mPut_nil', keyV, keysV, cfgC5, mGet_enV, encVt, one_pthV, shs_ints, hsM, e]
                refine callG.pc1 hca2 ?_
                simp (maxSteps := 2000000) -implicitDefEqProofs +contextual (disch := first | assumption | omega | decide +kernel) only [push_cast, ↓capI, br2_true, br2_false, frk_tt, frk_tf, frk_f, frkD_tt, frkD_tf, frkD_f, pk2_true, pk2_false, imp_true, seval, Nat.reduceLeDiff, Nat.reduceEqDiff, reduceCtorEq, ↓reduceIte, cfg0, cfgV, ones_ints, ones_bools, getV_map, getV_mapO, List.length_map, Nat.mul_one, slI, slR, slB, encT, keys0', mPut_nil', keyV, keysV, cfgC5, mGet_enV, encVt, one_pthV, shs_ints]
                refine callG.pc1 hcb2 ?_
                simp (maxSteps := 2000000) -implicitDefEqProofs +contextual (disch := first | assumption | omega | decide +kernel) only [push_cast, ↓capI, br2_true, br2_false, frk_tt, frk_tf, frk_f, frkD_tt, frkD_tf, frkD_f, pk2_true, pk2_false, imp_true, seval, Nat.reduceLeDiff, Nat.reduceEqDiff, reduceCtorEq, ↓reduceIte, cfg0, cfgV, ones_ints, ones_bools, getV_map, getV_mapO, List.length_map, Nat.mul_one, slI, slR, slB, encT, keys0', mPut_nil', keyV, keysV, cfgC5, mGet_enV, encVt, one_pthV, shs_ints, hmg, hmp]
                refine callX.pcj (pcj33 (l := y :: t) (by simp) (by omega)) (by simp [shOs, noUn, Ob.sh]) ?_
                simp (maxSteps := 2000000) -implicitDefEqProofs +contextual (disch := first | assumption | omega | decide +kernel) only [push_cast, ↓capI, br2_true, br2_false, frk_tt, frk_tf, frk_f, frkD_tt, frkD_tf, frkD_f, pk2_true, pk2_false, imp_true, seval, Nat.reduceLeDiff, Nat.reduceEqDiff, reduceCtorEq, ↓reduceIte, cfg0, cfgV, ones_ints, ones_bools, getV_map, getV_mapO, List.length_map, Nat.mul_one, slI, slR, slB, encT, keys0', mPut_nil', keyV, keysV, cfgC5, mGet_enV, encVt, one_pthV, shs_ints, hfl2, hdr2, htl]
                refine ⟨kc4 rfl rfl rfl rfl, kc4 rfl rfl rfl rfl, ?_⟩
                refine ⟨(s + 1, ver2 + 1, []), by simp only; omega, by (try simp only); omega, ?_⟩; refine (Gn.freeze (id := 6) rfl).trans ?_; exact Gn.canon (by first | rfl | (simp [List.append_nil, encT, slR, slB, slI, dN0, dst0, encVt, fzs, fz, fzs_ok, fzH, setO, getO, Nat.beq, List.take_of_length_le, belAll_append, bel_ints, bel_bools, bel_rows, bel_slI, bel_slR, bel_slB, bel_encT, bel_pthV, bel_flatVt, bel_mapV, bel_encVt, bel_disV, hnx, hdr3, pthV, slI, fzs_app, hln]; done) | (simp [List.append_nil, encT, slR, slB, slI, dN0, dst0, encVt, fzs, fz, fzs_ok, fzH, setO, getO, Nat.beq, List.take_of_length_le, belAll_append, bel_ints, bel_bools, bel_rows, bel_slI, bel_slR, bel_slB, bel_encT, bel_pthV, bel_flatVt, bel_mapV, bel_encVt, bel_disV, hnx, hdr3, pthV, slI, fzs_app, hln]; rfl)) (by simp [wk, dN0, dst0, encVt, fzs, fz, fzs_ok, fzH, setO, getO, Nat.beq, List.take_of_length_le, belAll_append, bel_ints, bel_bools, bel_rows, bel_slI, bel_slR, bel_slB, bel_encT, bel_pthV, bel_flatVt, bel_mapV, bel_encVt, bel_disV, hnx, hdr3, pthV, slI, fzs_app, hln, cfg0, cfgV, ones_ints, ones_bools, getV_map, getV_mapO, List.length_map, Nat.mul_one, slI, slR, slB, encT, keys0', mPut_nil', keyV, keysV, cfgC5, mGet_enV, encVt, one_pthV, shs_ints]) (by simp [List.length_append]) (by simp [belAll_append, bel_ints, bel_bools, bel_rows, bel_slI, bel_slR, bel_slB, bel_encT, bel_pthV, bel_flatVt, bel_mapV, bel_encVt, bel_disV]) (by simp [belAll_append, bel_ints, bel_bools, bel_rows, bel_slI, bel_slR, bel_slB, bel_encT, bel_pthV, bel_flatVt, bel_mapV, bel_encVt, bel_disV])
          · have hsM2 : s = M := by omega
            subst hsM2
            rw [hlast rfl] at hnext
            simp (maxSteps := 2000000) -implicitDefEqProofs +contextual (disch := first | assumption | omega | decide +kernel) only [push_cast, ↓capI, br2_true, br2_false, frk_tt, frk_tf, frk_f, frkD_tt, frkD_tf, frkD_f, pk2_true, pk2_false, imp_true, seval, Nat.reduceLeDiff, Nat.reduceEqDiff, reduceCtorEq, ↓reduceIte, cfg0, cfgV, ones_ints, ones_bools, getV_map, getV_mapO, List.length_map, Nat.mul_one, slI, slR, slB, encT, keys0', mPut_nil', keyV, keysV, cfgC5, mGet_enV, encVt, one_pthV, shs_ints, hsM]
            refine ⟨(i + 1, ver2, pre2), ⟨by rw [hnext]; exact hil, hs⟩, by (try simp only); omega, ?_⟩; exact Gn.canon (by first | rfl | (simp [List.append_nil, encT, slR, slB, slI, dN0, dst0, encVt, hnext]; rfl)) (by simp [wk, dN0, dst0, encVt, hnext]) (by simp [List.length_append]) (by simp [belAll_append, bel_ints, bel_bools, bel_rows, bel_slI, bel_slR, bel_slB, bel_encT, bel_pthV, bel_flatVt, bel_mapV, bel_encVt, bel_disV]) (by simp [belAll_append, bel_ints, bel_bools, bel_rows, bel_slI, bel_slR, bel_slB, bel_encT, bel_pthV, bel_flatVt, bel_mapV, bel_encVt, bel_disV])
    · have hd0 : L.drop i = [] := List.drop_eq_nil_of_le (by omega)
      rw [List.getElem?_eq_none (by omega)] at hs
      simp only at hs
      rw [hd0, ← hs]
      simp (maxSteps := 2000000) -implicitDefEqProofs +contextual (disch := first | assumption | omega | decide +kernel) only [push_cast, ↓capI, br2_true, br2_false, frk_tt, frk_tf, frk_f, frkD_tt, frkD_tf, frkD_f, pk2_true, pk2_false, imp_true, seval, Nat.reduceLeDiff, Nat.reduceEqDiff, reduceCtorEq, ↓reduceIte, cfg0, cfgV, ones_ints, ones_bools, getV_map, getV_mapO, List.length_map, Nat.mul_one, slI, slR, slB, encT, keys0', mPut_nil', keyV, keysV, cfgC5, mGet_enV, encVt, one_pthV, shs_ints, List.length_nil]
      refine endK.ret ?_ (by first | rfl | simp [belAll_append, bel_ints, bel_bools, bel_rows, bel_slI, bel_slR, bel_slB, bel_encT, bel_pthV, bel_flatVt, bel_mapV, bel_encVt, bel_disV]); simp [evRes, getT, retV, Try.f15,  disV]
end Go.Proofs.Ytkjffppioddnpaa

/- Chapter 42: equality of automata and of lists, small automata. -/
set_option maxRecDepth 100000
set_option maxHeartbeats 4000000
set_option linter.all false
namespace Go.Proofs.Ytkjffppioddnpaa
open Go.Vm
theorem take_step {α : Type} {a b : List α} {i : Nat} (h : a.take i = b.take i) (ha : i < a.length) (hb : i < b.length) (he : a[i] = b[i]) : a.take (i + 1) = b.take (i + 1) := by
  rw [List.take_succ_eq_append_getElem ha, List.take_succ_eq_append_getElem hb, h, he]
theorem ne_at {α : Type} {a b : List α} {i : Nat} (ha : i < a.length) (hb : i < b.length) (he : ¬ a[i] = b[i]) : ¬ a = b := fun e => by
  subst e; exact he rfl
theorem take_all {α : Type} {a b : List α} {i : Nat} (h : a.take i = b.take i) (ha : a.length ≤ i) (hb : b.length ≤ i) : a = b := by
  rw [List.take_of_length_le ha, List.take_of_length_le hb] at h; exact h
theorem Tb.eq_iff {a b : Tb} : a = b ↔ a.next = b.next ∧ a.acc = b.acc := by
  cases a; cases b; simp
instance : DecidableEq Tb := fun a b => if h : a.next = b.next ∧ a.acc = b.acc then .isTrue (Tb.eq_iff.2 h) else .isFalse (fun e => h (Tb.eq_iff.1 e))
theorem pc17 {a b : List Int} (ha : a.length ≤ 4000000) : PC Try.prog 17 [slI a, slI b] (.bool (decide (a = b))) := by
  by_cases hl : a.length = b.length
  · refine PC.walk tok mixed cfg0 Try.func17 rfl Try.call17 (by simp [bel_ints, bel_bools, bel_rows, bel_slI, bel_slR, bel_slB, bel_encT]) (by first | rfl | simp [bel_ints, bel_bools, bel_rows, bel_slI, bel_slR, bel_slB, bel_encT]) ?_; simp (maxSteps := 2000000) -implicitDefEqProofs +contextual (disch := first | assumption | omega | decide +kernel) only [push_cast, ↓capI, br2_true, br2_false, frk_tt, frk_tf, frk_f, frkD_tt, frkD_tf, frkD_f, pk2_true, pk2_false, imp_true, seval, Nat.reduceLeDiff, Nat.reduceEqDiff, reduceCtorEq, ↓reduceIte, cfg0, ones_ints, ones_bools, getV_map, getV_mapO, List.length_map, Nat.mul_one, slI, slR, slB, encT, Try.ntmps17]
    (try simp (maxSteps := 2000000) -implicitDefEqProofs +contextual (disch := first | assumption | omega | decide +kernel) only [push_cast, ↓capI, br2_true, br2_false, frk_tt, frk_tf, frk_f, frkD_tt, frkD_tf, frkD_f, pk2_true, pk2_false, imp_true, seval, Nat.reduceLeDiff, Nat.reduceEqDiff, reduceCtorEq, ↓reduceIte, cfg0, ones_ints, ones_bools, getV_map, getV_mapO, List.length_map, Nat.mul_one, slI, slR, slB, encT, hl])
    refine T.lp tok mixed cfg0 (fun ((i : Nat)) => kp 2 (dd 3 (sv (.int .i64 (i : Int)) (dd 20 (nl))))) (fun H0 ((i : Nat)) => H0) (fun ((i : Nat)) => i ≤ a.length ∧ a.take i = b.take i) (fun ((i : Nat)) => a.length - i) (0) ?_ ?_ ?_
    · exact ⟨by omega, rfl⟩
    · exact Gn.canon (J := _) (by first | rfl | (simp [List.append_nil, encT, slR, slB, slI]; done) | (simp [List.append_nil, encT, slR, slB, slI]; rfl)) (by simp [wk, putT, kp, dd, sv, nl]) (by simp [List.length_append]) (by simp [bel_ints, bel_bools, bel_rows, bel_slI, bel_slR, bel_slB, bel_encT, kp, dd, sv, nl]) (by simp [bel_ints, bel_bools, bel_rows, bel_slI, bel_slR, bel_slB, bel_encT])
    · intro i hi
      obtain ⟨hi, he⟩ := hi
      by_cases hlt : i < a.length
      · have hib : i < b.length := by omega
        by_cases hx : a[i] = b[i]
        · simp (maxSteps := 2000000) -implicitDefEqProofs +contextual (disch := first | assumption | omega | decide +kernel) only [push_cast, ↓capI, br2_true, br2_false, frk_tt, frk_tf, frk_f, frkD_tt, frkD_tf, frkD_f, pk2_true, pk2_false, imp_true, seval, Nat.reduceLeDiff, Nat.reduceEqDiff, reduceCtorEq, ↓reduceIte, cfg0, ones_ints, ones_bools, getV_map, getV_mapO, List.length_map, Nat.mul_one, slI, slR, slB, encT, hlt, hib, hx]
          refine ⟨(i + 1), ⟨by omega, take_step he hlt hib hx⟩, by (try simp only); omega, ?_⟩; exact Gn.canon (by first | rfl | (simp [List.append_nil, encT, slR, slB, slI]; rfl)) (by simp [wk]) (by simp [List.length_append]) (by simp [bel_ints, bel_bools, bel_rows, bel_slI, bel_slR, bel_slB, bel_encT]) (by simp [bel_ints, bel_bools, bel_rows, bel_slI, bel_slR, bel_slB, bel_encT])
        · rw [decide_eq_false (ne_at hlt hib hx)]
          simp (maxSteps := 2000000) -implicitDefEqProofs +contextual (disch := first | assumption | omega | decide +kernel) only [push_cast, ↓capI, br2_true, br2_false, frk_tt, frk_tf, frk_f, frkD_tt, frkD_tf, frkD_f, pk2_true, pk2_false, imp_true, seval, Nat.reduceLeDiff, Nat.reduceEqDiff, reduceCtorEq, ↓reduceIte, cfg0, ones_ints, ones_bools, getV_map, getV_mapO, List.length_map, Nat.mul_one, slI, slR, slB, encT, hlt, hib, hx]
          refine endK.ret ?_ (by first | rfl | simp [bel_ints, bel_bools, bel_rows, bel_slI, bel_slR, bel_slB, bel_encT]); simp [evRes, getT, retV, Try.f17]
      · rw [decide_eq_true (take_all he (by omega) (by omega))]
        simp (maxSteps := 2000000) -implicitDefEqProofs +contextual (disch := first | assumption | omega | decide +kernel) only [push_cast, ↓capI, br2_true, br2_false, frk_tt, frk_tf, frk_f, frkD_tt, frkD_tf, frkD_f, pk2_true, pk2_false, imp_true, seval, Nat.reduceLeDiff, Nat.reduceEqDiff, reduceCtorEq, ↓reduceIte, cfg0, ones_ints, ones_bools, getV_map, getV_mapO, List.length_map, Nat.mul_one, slI, slR, slB, encT, hlt]
        refine endK.ret ?_ (by first | rfl | simp [bel_ints, bel_bools, bel_rows, bel_slI, bel_slR, bel_slB, bel_encT]); simp [evRes, getT, retV, Try.f17]
  · rw [decide_eq_false (fun e => hl (by rw [e]))]
    refine PC.walk tok mixed cfg0 Try.func17 rfl Try.call17 (by simp [bel_ints, bel_bools, bel_rows, bel_slI, bel_slR, bel_slB, bel_encT]) (by first | rfl | simp [bel_ints, bel_bools, bel_rows, bel_slI, bel_slR, bel_slB, bel_encT]) ?_; simp (maxSteps := 2000000) -implicitDefEqProofs +contextual (disch := first | assumption | omega | decide +kernel) only [push_cast, ↓capI, br2_true, br2_false, frk_tt, frk_tf, frk_f, frkD_tt, frkD_tf, frkD_f, pk2_true, pk2_false, imp_true, seval, Nat.reduceLeDiff, Nat.reduceEqDiff, reduceCtorEq, ↓reduceIte, cfg0, ones_ints, ones_bools, getV_map, getV_mapO, List.length_map, Nat.mul_one, slI, slR, slB, encT, Try.ntmps17]
    (try simp (maxSteps := 2000000) -implicitDefEqProofs +contextual (disch := first | assumption | omega | decide +kernel) only [push_cast, ↓capI, br2_true, br2_false, frk_tt, frk_tf, frk_f, frkD_tt, frkD_tf, frkD_f, pk2_true, pk2_false, imp_true, seval, Nat.reduceLeDiff, Nat.reduceEqDiff, reduceCtorEq, ↓reduceIte, cfg0, ones_ints, ones_bools, getV_map, getV_mapO, List.length_map, Nat.mul_one, slI, slR, slB, encT, hl])
    refine endK.ret ?_ (by first | rfl | simp [bel_ints, bel_bools, bel_rows, bel_slI, bel_slR, bel_slB, bel_encT]); simp [evRes, getT, retV, Try.f17]
theorem pc11 {a b : Tb} (h1 : a.next.length ≤ 2 ^ 30) (h2 : a.acc.length ≤ 2 ^ 30) (h3 : ∀ r ∈ a.next, r.length ≤ 2 ^ 30) : PC Try.prog 11 [.agg (encT a), .agg (encT b)] (.bool (decide (a = b))) := by
  obtain ⟨na, ca⟩ := a
  obtain ⟨nb, cb⟩ := b
  simp only at h1 h2 h3
  by_cases hl1 : na.length = nb.length
  case neg =>
    rw [decide_eq_false (fun e => hl1 (by injection e with e1 e2; rw [e1]))]
    refine PC.walk tok mixed cfg0 Try.func11 rfl Try.call11 (by simp [bel_ints, bel_bools, bel_rows, bel_slI, bel_slR, bel_slB, bel_encT]) (by first | rfl | simp [bel_ints, bel_bools, bel_rows, bel_slI, bel_slR, bel_slB, bel_encT]) ?_; simp (maxSteps := 2000000) -implicitDefEqProofs +contextual (disch := first | assumption | omega | decide +kernel) only [push_cast, ↓capI, br2_true, br2_false, frk_tt, frk_tf, frk_f, frkD_tt, frkD_tf, frkD_f, pk2_true, pk2_false, imp_true, seval, Nat.reduceLeDiff, Nat.reduceEqDiff, reduceCtorEq, ↓reduceIte, cfg0, ones_ints, ones_bools, getV_map, getV_mapO, List.length_map, Nat.mul_one, slI, slR, slB, encT, Try.ntmps11]
    (try simp (maxSteps := 2000000) -implicitDefEqProofs +contextual (disch := first | assumption | omega | decide +kernel) only [push_cast, ↓capI, br2_true, br2_false, frk_tt, frk_tf, frk_f, frkD_tt, frkD_tf, frkD_f, pk2_true, pk2_false, imp_true, seval, Nat.reduceLeDiff, Nat.reduceEqDiff, reduceCtorEq, ↓reduceIte, cfg0, ones_ints, ones_bools, getV_map, getV_mapO, List.length_map, Nat.mul_one, slI, slR, slB, encT, hl1])
    refine endK.ret ?_ (by first | rfl | simp [bel_ints, bel_bools, bel_rows, bel_slI, bel_slR, bel_slB, bel_encT]); simp [evRes, getT, retV, Try.f11]
  by_cases hl2 : ca.length = cb.length
  case neg =>
    rw [decide_eq_false (fun e => hl2 (by injection e with e1 e2; rw [e2]))]
    refine PC.walk tok mixed cfg0 Try.func11 rfl Try.call11 (by simp [bel_ints, bel_bools, bel_rows, bel_slI, bel_slR, bel_slB, bel_encT]) (by first | rfl | simp [bel_ints, bel_bools, bel_rows, bel_slI, bel_slR, bel_slB, bel_encT]) ?_; simp (maxSteps := 2000000) -implicitDefEqProofs +contextual (disch := first | assumption | omega | decide +kernel) only [push_cast, ↓capI, br2_true, br2_false, frk_tt, frk_tf, frk_f, frkD_tt, frkD_tf, frkD_f, pk2_true, pk2_false, imp_true, seval, Nat.reduceLeDiff, Nat.reduceEqDiff, reduceCtorEq, ↓reduceIte, cfg0, ones_ints, ones_bools, getV_map, getV_mapO, List.length_map, Nat.mul_one, slI, slR, slB, encT, Try.ntmps11]
    (try simp (maxSteps := 2000000) -implicitDefEqProofs +contextual (disch := first | assumption | omega | decide +kernel) only [push_cast, ↓capI, br2_true, br2_false, frk_tt, frk_tf, frk_f, frkD_tt, frkD_tf, frkD_f, pk2_true, pk2_false, imp_true, seval, Nat.reduceLeDiff, Nat.reduceEqDiff, reduceCtorEq, ↓reduceIte, cfg0, ones_ints, ones_bools, getV_map, getV_mapO, List.length_map, Nat.mul_one, slI, slR, slB, encT, hl1, hl2])
    refine endK.ret ?_ (by first | rfl | simp [bel_ints, bel_bools, bel_rows, bel_slI, bel_slR, bel_slB, bel_encT]); simp [evRes, getT, retV, Try.f11]
  refine PC.walk tok mixed cfg0 Try.func11 rfl Try.call11 (by simp [bel_ints, bel_bools, bel_rows, bel_slI, bel_slR, bel_slB, bel_encT]) (by first | rfl | simp [bel_ints, bel_bools, bel_rows, bel_slI, bel_slR, bel_slB, bel_encT]) ?_; simp (maxSteps := 2000000) -implicitDefEqProofs +contextual (disch := first | assumption | omega | decide +kernel) only [push_cast, ↓capI, br2_true, br2_false, frk_tt, frk_tf, frk_f, frkD_tt, frkD_tf, frkD_f, pk2_true, pk2_false, imp_true, seval, Nat.reduceLeDiff, Nat.reduceEqDiff, reduceCtorEq, ↓reduceIte, cfg0, ones_ints, ones_bools, getV_map, getV_mapO, List.length_map, Nat.mul_one, slI, slR, slB, encT, Try.ntmps11]
  (try simp (maxSteps := 2000000) -implicitDefEqProofs +contextual (disch := first | assumption | omega | decide +kernel) only [push_cast, ↓capI, br2_true, br2_false, frk_tt, frk_tf, frk_f, frkD_tt, frkD_tf, frkD_f, pk2_true, pk2_false, imp_true, seval, Nat.reduceLeDiff, Nat.reduceEqDiff, reduceCtorEq, ↓reduceIte, cfg0, ones_ints, ones_bools, getV_map, getV_mapO, List.length_map, Nat.mul_one, slI, slR, slB, encT, hl1, hl2])
  refine T.lp tok mixed cfg0 (fun ((i : Nat)) => dd 2 (kp 2 (dd 1 (sv (.int .i64 (i : Int)) (dd 83 (nl)))))) (fun H0 ((i : Nat)) => H0) (fun ((i : Nat)) => i ≤ ca.length ∧ ca.take i = cb.take i) (fun ((i : Nat)) => ca.length - i) (0) ?_ ?_ ?_
  · exact ⟨by omega, rfl⟩
  · exact Gn.canon (J := _) (by first | rfl | (simp [List.append_nil, encT, slR, slB, slI]; done) | (simp [List.append_nil, encT, slR, slB, slI]; rfl)) (by simp [wk, putT, kp, dd, sv, nl]) (by simp [List.length_append]) (by simp [bel_ints, bel_bools, bel_rows, bel_slI, bel_slR, bel_slB, bel_encT, kp, dd, sv, nl]) (by simp [bel_ints, bel_bools, bel_rows, bel_slI, bel_slR, bel_slB, bel_encT])
  · intro i hi
    obtain ⟨hi, he⟩ := hi
    by_cases hlt : i < ca.length
    · have hib : i < cb.length := by omega
      by_cases hx : ca[i] = cb[i]
      · simp (maxSteps := 2000000) -implicitDefEqProofs +contextual (disch := first | assumption | omega | decide +kernel) only [push_cast, ↓capI, br2_true, br2_false, frk_tt, frk_tf, frk_f, frkD_tt, frkD_tf, frkD_f, pk2_true, pk2_false, imp_true, seval, Nat.reduceLeDiff, Nat.reduceEqDiff, reduceCtorEq, ↓reduceIte, cfg0, ones_ints, ones_bools, getV_map, getV_mapO, List.length_map, Nat.mul_one, slI, slR, slB, encT, hlt, hib, hx]
        refine ⟨(i + 1), ⟨by omega, take_step he hlt hib hx⟩, by (try simp only); omega, ?_⟩; exact Gn.canon (by first | rfl | (simp [List.append_nil, encT, slR, slB, slI]; rfl)) (by simp [wk]) (by simp [List.length_append]) (by simp [bel_ints, bel_bools, bel_rows, bel_slI, bel_slR, bel_slB, bel_encT]) (by simp [bel_ints, bel_bools, bel_rows, bel_slI, bel_slR, bel_slB, bel_encT])
      · rw [decide_eq_false (fun e => ne_at hlt hib hx (by injection e))]
        simp (maxSteps := 2000000) -implicitDefEqProofs +contextual (disch := first | assumption | omega | decide +kernel) only [push_cast, ↓capI, br2_true, br2_false, frk_tt, frk_tf, frk_f, frkD_tt, frkD_tf, frkD_f, pk2_true, pk2_false, imp_true, seval, Nat.reduceLeDiff, Nat.reduceEqDiff, reduceCtorEq, ↓reduceIte, cfg0, ones_ints, ones_bools, getV_map, getV_mapO, List.length_map, Nat.mul_one, slI, slR, slB, encT, hlt, hib, hx]
        refine endK.ret ?_ (by first | rfl | simp [bel_ints, bel_bools, bel_rows, bel_slI, bel_slR, bel_slB, bel_encT]); simp [evRes, getT, retV, Try.f11]
    · have hcc := take_all he (by omega) (by omega)
      subst hcc
      simp (maxSteps := 2000000) -implicitDefEqProofs +contextual (disch := first | assumption | omega | decide +kernel) only [push_cast, ↓capI, br2_true, br2_false, frk_tt, frk_tf, frk_f, frkD_tt, frkD_tf, frkD_f, pk2_true, pk2_false, imp_true, seval, Nat.reduceLeDiff, Nat.reduceEqDiff, reduceCtorEq, ↓reduceIte, cfg0, ones_ints, ones_bools, getV_map, getV_mapO, List.length_map, Nat.mul_one, slI, slR, slB, encT, hlt]
      refine T.lp tok mixed cfg0 (fun ((i : Nat)) => dd 2 (kp 2 (dd 2 (sv (.int .i64 (i : Int)) (dd 82 (nl)))))) (fun H0 ((i : Nat)) => H0) (fun ((i : Nat)) => i ≤ na.length ∧ na.take i = nb.take i) (fun ((i : Nat)) => na.length - i) (0) ?_ ?_ ?_
      · exact ⟨by omega, rfl⟩
      · exact Gn.canon (J := _) (by first | rfl | (simp [List.append_nil, encT, slR, slB, slI]; done) | (simp [List.append_nil, encT, slR, slB, slI]; rfl)) (by simp [wk, putT, kp, dd, sv, nl]) (by simp [List.length_append]) (by simp [bel_ints, bel_bools, bel_rows, bel_slI, bel_slR, bel_slB, bel_encT, kp, dd, sv, nl]) (by simp [bel_ints, bel_bools, bel_rows, bel_slI, bel_slR, bel_slB, bel_encT])
      · intro k hk
        obtain ⟨hk, he2⟩ := hk
        by_cases hlk : k < na.length
        · have hkb : k < nb.length := by omega
          have hrl := h3 na[k] (List.getElem_mem hlk)
          by_cases hrw : na[k].length = nb[k].length
          · simp (maxSteps := 2000000) -implicitDefEqProofs +contextual (disch := first | assumption | omega | decide +kernel) only [push_cast, ↓capI, br2_true, br2_false, frk_tt, frk_tf, frk_f, frkD_tt, frkD_tf, frkD_f, pk2_true, pk2_false, imp_true, seval, Nat.reduceLeDiff, Nat.reduceEqDiff, reduceCtorEq, ↓reduceIte, cfg0, ones_ints, ones_bools, getV_map, getV_mapO, List.length_map, Nat.mul_one, slI, slR, slB, encT, hlk, hkb, hrw]
            refine T.lp tok mixed cfg0 (fun ((s : Nat)) => dd 2 (kp 2 (dd 2 (kp 1 (sv (.int .i64 (s : Int)) (dd 81 (nl))))))) (fun H0 ((s : Nat)) => H0) (fun ((s : Nat)) => s ≤ na[k].length ∧ na[k].take s = nb[k].take s) (fun ((s : Nat)) => na[k].length - s) (0) ?_ ?_ ?_
            · exact ⟨by omega, rfl⟩
            · exact Gn.canon (J := _) (by first | rfl | (simp [List.append_nil, encT, slR, slB, slI]; done) | (simp [List.append_nil, encT, slR, slB, slI]; rfl)) (by simp [wk, putT, kp, dd, sv, nl]) (by simp [List.length_append]) (by simp [bel_ints, bel_bools, bel_rows, bel_slI, bel_slR, bel_slB, bel_encT, kp, dd, sv, nl]) (by simp [bel_ints, bel_bools, bel_rows, bel_slI, bel_slR, bel_slB, bel_encT])
            · intro s hs
              obtain ⟨hs, he3⟩ := hs
              by_cases hls : s < na[k].length
              · have hsb : s < nb[k].length := by omega
                by_cases hx : na[k][s] = nb[k][s]
                · simp (maxSteps := 2000000) -implicitDefEqProofs +contextual (disch := first | assumption | omega | decide +kernel) only [push_cast, ↓capI, br2_true, br2_false, frk_tt, frk_tf, frk_f, frkD_tt, frkD_tf, frkD_f, pk2_true, pk2_false, imp_true, seval, Nat.reduceLeDiff, Nat.reduceEqDiff, reduceCtorEq, ↓reduceIte, cfg0, ones_ints, ones_bools, getV_map, getV_mapO, List.length_map, Nat.mul_one, slI, slR, slB, encT, hlk, hkb, hls, hsb, hx]
                  refine ⟨(s + 1), ⟨by omega, take_step he3 hls hsb hx⟩, by (try simp only); omega, ?_⟩; exact Gn.canon (by first | rfl | (simp [List.append_nil, encT, slR, slB, slI]; rfl)) (by simp [wk]) (by simp [List.length_append]) (by simp [bel_ints, bel_bools, bel_rows, bel_slI, bel_slR, bel_slB, bel_encT]) (by simp [bel_ints, bel_bools, bel_rows, bel_slI, bel_slR, bel_slB, bel_encT])
                · rw [decide_eq_false (fun e => ne_at hlk hkb (ne_at hls hsb hx) (by injection e))]
                  simp (maxSteps := 2000000) -implicitDefEqProofs +contextual (disch := first | assumption | omega | decide +kernel) only [push_cast, ↓capI, br2_true, br2_false, frk_tt, frk_tf, frk_f, frkD_tt, frkD_tf, frkD_f, pk2_true, pk2_false, imp_true, seval, Nat.reduceLeDiff, Nat.reduceEqDiff, reduceCtorEq, ↓reduceIte, cfg0, ones_ints, ones_bools, getV_map, getV_mapO, List.length_map, Nat.mul_one, slI, slR, slB, encT, hlk, hkb, hls, hsb, hx]
                  refine endK.ret ?_ (by first | rfl | simp [bel_ints, bel_bools, bel_rows, bel_slI, bel_slR, bel_slB, bel_encT]); simp [evRes, getT, retV, Try.f11]
              · have hx := take_all he3 (by omega) (by omega)
                simp (maxSteps := 2000000) -implicitDefEqProofs +contextual (disch := first | assumption | omega | decide +kernel) only [push_cast, ↓capI, br2_true, br2_false, frk_tt, frk_tf, frk_f, frkD_tt, frkD_tf, frkD_f, pk2_true, pk2_false, imp_true, seval, Nat.reduceLeDiff, Nat.reduceEqDiff, reduceCtorEq, ↓reduceIte, cfg0, ones_ints, ones_bools, getV_map, getV_mapO, List.length_map, Nat.mul_one, slI, slR, slB, encT, hlk, hls]
                refine ⟨(k + 1), ⟨by omega, take_step he2 hlk hkb hx⟩, by (try simp only); omega, ?_⟩; exact Gn.canon (by first | rfl | (simp [List.append_nil, encT, slR, slB, slI]; rfl)) (by simp [wk]) (by simp [List.length_append]) (by simp [bel_ints, bel_bools, bel_rows, bel_slI, bel_slR, bel_slB, bel_encT]) (by simp [bel_ints, bel_bools, bel_rows, bel_slI, bel_slR, bel_slB, bel_encT])
          · rw [decide_eq_false (fun e => ne_at hlk hkb (fun e2 => hrw (by rw [e2])) (by injection e))]
            simp (maxSteps := 2000000) -implicitDefEqProofs +contextual (disch := first | assumption | omega | decide +kernel) only [push_cast, ↓capI, br2_true, br2_false, frk_tt, frk_tf, frk_f, frkD_tt, frkD_tf, frkD_f, pk2_true, pk2_false, imp_true, seval, Nat.reduceLeDiff, Nat.reduceEqDiff, reduceCtorEq, ↓reduceIte, cfg0, ones_ints, ones_bools, getV_map, getV_mapO, List.length_map, Nat.mul_one, slI, slR, slB, encT, hlk, hkb, hrw]
            refine endK.ret ?_ (by first | rfl | simp [bel_ints, bel_bools, bel_rows, bel_slI, bel_slR, bel_slB, bel_encT]); simp [evRes, getT, retV, Try.f11]
        · have hnn := take_all he2 (by omega) (by omega)
          subst hnn
          rw [decide_eq_true rfl]
          simp (maxSteps := 2000000) -implicitDefEqProofs +contextual (disch := first | assumption | omega | decide +kernel) only [push_cast, ↓capI, br2_true, br2_false, frk_tt, frk_tf, frk_f, frkD_tt, frkD_tf, frkD_f, pk2_true, pk2_false, imp_true, seval, Nat.reduceLeDiff, Nat.reduceEqDiff, reduceCtorEq, ↓reduceIte, cfg0, ones_ints, ones_bools, getV_map, getV_mapO, List.length_map, Nat.mul_one, slI, slR, slB, encT, hlk]
          refine endK.ret ?_ (by first | rfl | simp [bel_ints, bel_bools, bel_rows, bel_slI, bel_slR, bel_slB, bel_encT]); simp [evRes, getT, retV, Try.f11]
end Go.Proofs.Ytkjffppioddnpaa

/- Chapter 42: the chapter's examples, reckoned. -/
set_option maxRecDepth 100000
set_option maxHeartbeats 4000000
set_option linter.all false
namespace Go.Proofs.Ytkjffppioddnpaa
open Go.Vm
theorem flat_inj (sw : Int) : ∀ (p q : Pr) (r s : List Nd), okP sw p → okP sw q → flat p ++ r = flat q ++ s → p = q ∧ r = s := by
  intro p
  induction p with
  | leaf x =>
    intro q r s hp hq h
    have h1 := hp.1
    cases q with
    | leaf y =>
      injection h with h1 h2
      exact ⟨by rw [h1], h2⟩
    | un y q =>
      injection h with h2 _
      have := hq.1
      rw [h2] at h1
      omega
    | bin y q1 q2 =>
      injection h with h2 _
      have := hq.1
      rw [h2] at h1
      omega
  | un x p ih =>
    intro q r s hp hq h
    have h1 := hp.1
    cases q with
    | leaf y =>
      injection h with h2 _
      have := hq.1
      rw [h2] at h1
      omega
    | un y q =>
      injection h with h2 h3
      obtain ⟨e1, e2⟩ := ih q r s hp.2 hq.2 h3
      exact ⟨by rw [h2, e1], e2⟩
    | bin y q1 q2 =>
      injection h with h2 _
      have := hq.1
      rw [h2] at h1
      omega
  | bin x p1 p2 i1 i2 =>
    intro q r s hp hq h
    have h1 := hp.1
    cases q with
    | leaf y =>
      injection h with h2 _
      have := hq.1
      rw [h2] at h1
      omega
    | un y q =>
      injection h with h2 _
      have := hq.1
      rw [h2] at h1
      omega
    | bin y q1 q2 =>
      injection h with h2 h3
      rw [List.append_eq, List.append_eq, List.append_assoc, List.append_assoc] at h3
      obtain ⟨e1, e2⟩ := i1 q1 _ _ hp.2.1 hq.2.1 h3
      obtain ⟨e3, e4⟩ := i2 q2 r s hp.2.2 hq.2.2 e2
      exact ⟨by rw [h2, e1, e3], e4⟩
theorem bldP (p : Pr) (m : Nat) (h1 : 1 ≤ m) (h2 : m ≤ 16) (hp : okP m p) (hc : checkP m (flat p) = 0) (hl : (flat p).length ≤ 24) {t : Tb} (ht : minS (detT (nxP p) m) = t) :
    PC Try.prog 9 [slN (flat p), .int .i64 (m : Int)] (bldV t) := by
  rcases bld9 (r := flat p) (sw := m) (by omega) with ⟨h, _⟩ | ⟨_, h, _⟩ | ⟨_, _, q, hq, e, _, h⟩
  · omega
  · exact absurd hc h
  · obtain ⟨e2, _⟩ := flat_inj m p q [] [] hp hq (by rw [e])
    subst e2
    rw [← ht]
    exact h
theorem det_small {x : Nx} {m i : Nat} (h : (detN m x i).sets.length ≤ i) (hi : i ≤ bigN) : detT x m = ⟨(detN m x i).rows, (detN m x i).accs⟩ := by
  rw [detT, detN_at h hi]
def pOne : Pr := .leaf ⟨3, 1⟩
def pAll : Pr := .un (op0 6) (.leaf (op0 2))
def pSome : Pr := .bin (op0 4) (.leaf (op0 3)) (.un (op0 6) (.leaf (op0 3)))
def pAny : Pr := .leaf (op0 2)
def tOne : Tb := ⟨[[-1, 1, -1], [-1, -1, -1]], [false, true]⟩
def tAll : Tb := ⟨[[0, 0]], [true]⟩
def tSome : Tb := ⟨[[1], [1]], [false, true]⟩
def tAny : Tb := ⟨[[1, 1, 1], [-1, -1, -1]], [false, true]⟩
theorem rOne : minS (detT (nxP pOne) 3) = tOne := by
  rw [det_small (i := 3) (by decide +kernel) (by decide)]
  decide +kernel
theorem rAll : minS (detT (nxP pAll) 2) = tAll := by
  rw [det_small (i := 3) (by decide +kernel) (by decide)]
  decide +kernel
theorem rSome : minS (detT (nxP pSome) 1) = tSome := by
  rw [det_small (i := 3) (by decide +kernel) (by decide)]
  decide +kernel
theorem rAny : minS (detT (nxP pAny) 3) = tAny := by
  rw [det_small (i := 3) (by decide +kernel) (by decide)]
  decide +kernel
theorem bOne : PC Try.prog 9 [.sl false [.int .i64 3, .int .i64 1] 1, .int .i64 3] (.tup [.agg (encT tOne), .int .i64 0]) :=
  bldP pOne 3 (by decide) (by decide) ⟨.inr (.inr rfl), by decide +kernel⟩ (by decide +kernel) (by decide) rOne
theorem bAll : PC Try.prog 9 [.sl false [.int .i64 6, .int .i64 0, .int .i64 2, .int .i64 0] 2, .int .i64 2] (.tup [.agg (encT tAll), .int .i64 0]) :=
  bldP pAll 2 (by decide) (by decide) ⟨rfl, .inr (.inl rfl), by decide +kernel⟩ (by decide +kernel) (by decide) rAll
theorem bSome : PC Try.prog 9 [.sl false [.int .i64 4, .int .i64 0, .int .i64 3, .int .i64 0, .int .i64 6, .int .i64 0, .int .i64 3, .int .i64 0] 4, .int .i64 1] (.tup [.agg (encT tSome), .int .i64 0]) :=
  bldP pSome 1 (by decide) (by decide) ⟨.inl rfl, ⟨.inr (.inr rfl), by decide +kernel⟩, rfl, .inr (.inr rfl), by decide +kernel⟩ (by decide +kernel) (by decide) rSome
theorem bAny : PC Try.prog 9 [.sl false [.int .i64 2, .int .i64 0] 1, .int .i64 3] (.tup [.agg (encT tAny), .int .i64 0]) :=
  bldP pAny 3 (by decide) (by decide) ⟨.inr (.inl rfl), by decide +kernel⟩ (by decide +kernel) (by decide) rAny
theorem dOne : disO false tOne tAny = some [0] := by decide +kernel
theorem aOne1 : accA tOne [1] = true := by decide +kernel
theorem aOne0 : accA tOne [0] = false := by decide +kernel
theorem c0 : chkT ⟨[], []⟩ = 8 := by decide +kernel
end Go.Proofs.Ytkjffppioddnpaa

/- Chapter 42: the chapter's examples. -/
set_option maxRecDepth 100000
set_option maxHeartbeats 8000000
set_option linter.all false
namespace Go.Proofs.Ytkjffppioddnpaa
open Go.Vm
def xOne : V := .agg [.sl false [.sl false [.int .i64 (-1), .int .i64 1, .int .i64 (-1)] 3, .sl false [.int .i64 (-1), .int .i64 (-1), .int .i64 (-1)] 3] 2, .sl false [.bool false, .bool true] 2]
def xAll : V := .agg [.sl false [.sl false [.int .i64 0, .int .i64 0] 2] 1, .sl false [.bool true] 1]
def xSome : V := .agg [.sl false [.sl false [.int .i64 1] 1, .sl false [.int .i64 1] 1] 2, .sl false [.bool false, .bool true] 2]
def xAny : V := .agg [.sl false [.sl false [.int .i64 1, .int .i64 1, .int .i64 1] 3, .sl false [.int .i64 (-1), .int .i64 (-1), .int .i64 (-1)] 3] 2, .sl false [.bool false, .bool true] 2]
theorem kOne : PC Try.prog 9 [.sl false [.int .i64 3, .int .i64 1] 1, .int .i64 3] (.tup [xOne, .int .i64 0]) := bOne
theorem kAll : PC Try.prog 9 [.sl false [.int .i64 6, .int .i64 0, .int .i64 2, .int .i64 0] 2, .int .i64 2] (.tup [xAll, .int .i64 0]) := bAll
theorem kSome : PC Try.prog 9 [.sl false [.int .i64 4, .int .i64 0, .int .i64 3, .int .i64 0, .int .i64 6, .int .i64 0, .int .i64 3, .int .i64 0] 4, .int .i64 1] (.tup [xSome, .int .i64 0]) := bSome
theorem kAny : PC Try.prog 9 [.sl false [.int .i64 2, .int .i64 0] 1, .int .i64 3] (.tup [xAny, .int .i64 0]) := bAny
theorem kDis : PC Try.prog 15 [xOne, xAny] (.tup [.sl false [.int .i64 0] 1, .bool true]) := by
  have := pc15 tOne tAny
  rw [dOne] at this
  exact this
theorem kEq (t : Tb) (h1 : t.next.length ≤ 2) (h2 : t.acc.length ≤ 2) (h3 : ∀ r ∈ t.next, r.length ≤ 3) : PC Try.prog 11 [.agg (encT t), .agg (encT t)] (.bool true) := by
  have := pc11 (a := t) (b := t) (by omega) (by omega) (fun r hr => by have := h3 r hr; omega)
  rwa [decide_eq_true rfl] at this
theorem kEq1 : PC Try.prog 11 [xOne, xOne] (.bool true) := kEq tOne (by decide) (by decide) (by decide)
theorem kEq2 : PC Try.prog 11 [xAll, xAll] (.bool true) := kEq tAll (by decide) (by decide) (by decide)
theorem kEq3 : PC Try.prog 11 [xSome, xSome] (.bool true) := kEq tSome (by decide) (by decide) (by decide)
theorem kInts : PC Try.prog 17 [.sl false [.int .i64 0] 1, .sl false [.int .i64 0] 1] (.bool true) := pc17 (a := [0]) (b := [0]) (by decide)
theorem kAcc1 : PC Try.prog 12 [xOne, .sl false [.int .i64 1] 1] (.bool true) := by
  have := pc12 tOne (l := [1]) (by decide)
  rw [aOne1] at this
  exact this
theorem kAcc0 : PC Try.prog 12 [xOne, .sl false [.int .i64 0] 1] (.bool false) := by
  have := pc12 tOne (l := [0]) (by decide)
  rw [aOne0] at this
  exact this
theorem kChk : PC Try.prog 20 [.agg [.sl true [] 0, .sl true [] 0]] (.int .i64 8) := by
  refine PC.lax ?_
  have := pc20 ⟨[], []⟩
  rw [c0] at this
  exact this
theorem pc8 : PC Try.prog 8 [] (.bool true) := by
  refine PC.walk tok mixed cfg0 Try.func8 rfl Try.call8 (by simp [belAll_append, bel_ints, bel_bools, bel_rows, bel_slI, bel_slR, bel_slB, bel_encT]) (by first | rfl | simp [belAll_append, bel_ints, bel_bools, bel_rows, bel_slI, bel_slR, bel_slB, bel_encT]) ?_; simp (maxSteps := 2000000) -implicitDefEqProofs +contextual (disch := first | assumption | omega | decide +kernel) only [push_cast, ↓capI, br2_true, br2_false, frk_tt, frk_tf, frk_f, frkD_tt, frkD_tf, frkD_f, pk2_true, pk2_false, imp_true, seval, Nat.reduceLeDiff, Nat.reduceEqDiff, reduceCtorEq, ↓reduceIte, cfg0, Try.ntmps8]
  refine callO.pc kOne ?_
  simp (maxSteps := 2000000) -implicitDefEqProofs +contextual (disch := first | assumption | omega | decide +kernel) only [push_cast, ↓capI, br2_true, br2_false, frk_tt, frk_tf, frk_f, frkD_tt, frkD_tf, frkD_f, pk2_true, pk2_false, imp_true, seval, Nat.reduceLeDiff, Nat.reduceEqDiff, reduceCtorEq, ↓reduceIte, cfg0, xOne]
  refine callO.pc kAll ?_
  simp (maxSteps := 2000000) -implicitDefEqProofs +contextual (disch := first | assumption | omega | decide +kernel) only [push_cast, ↓capI, br2_true, br2_false, frk_tt, frk_tf, frk_f, frkD_tt, frkD_tf, frkD_f, pk2_true, pk2_false, imp_true, seval, Nat.reduceLeDiff, Nat.reduceEqDiff, reduceCtorEq, ↓reduceIte, cfg0, xAll]
  refine callO.pc kSome ?_
  simp (maxSteps := 2000000) -implicitDefEqProofs +contextual (disch := first | assumption | omega | decide +kernel) only [push_cast, ↓capI, br2_true, br2_false, frk_tt, frk_tf, frk_f, frkD_tt, frkD_tf, frkD_f, pk2_true, pk2_false, imp_true, seval, Nat.reduceLeDiff, Nat.reduceEqDiff, reduceCtorEq, ↓reduceIte, cfg0, xSome]
  refine callO.pc kAny ?_
  simp (maxSteps := 2000000) -implicitDefEqProofs +contextual (disch := first | assumption | omega | decide +kernel) only [push_cast, ↓capI, br2_true, br2_false, frk_tt, frk_tf, frk_f, frkD_tt, frkD_tf, frkD_f, pk2_true, pk2_false, imp_true, seval, Nat.reduceLeDiff, Nat.reduceEqDiff, reduceCtorEq, ↓reduceIte, cfg0, xAny]
  refine callO.pc kDis ?_
  simp (maxSteps := 2000000) -implicitDefEqProofs +contextual (disch := first | assumption | omega | decide +kernel) only [push_cast, ↓capI, br2_true, br2_false, frk_tt, frk_tf, frk_f, frkD_tt, frkD_tf, frkD_f, pk2_true, pk2_false, imp_true, seval, Nat.reduceLeDiff, Nat.reduceEqDiff, reduceCtorEq, ↓reduceIte, cfg0]
  refine callO.pc kEq1 ?_
  simp (maxSteps := 2000000) -implicitDefEqProofs +contextual (disch := first | assumption | omega | decide +kernel) only [push_cast, ↓capI, br2_true, br2_false, frk_tt, frk_tf, frk_f, frkD_tt, frkD_tf, frkD_f, pk2_true, pk2_false, imp_true, seval, Nat.reduceLeDiff, Nat.reduceEqDiff, reduceCtorEq, ↓reduceIte, cfg0]
  refine callO.pc kEq2 ?_
  simp (maxSteps := 2000000) -implicitDefEqProofs +contextual (disch := first | assumption | omega | decide +kernel) only [push_cast, ↓capI, br2_true, br2_false, frk_tt, frk_tf, frk_f, frkD_tt, frkD_tf, frkD_f, pk2_true, pk2_false, imp_true, seval, Nat.reduceLeDiff, Nat.reduceEqDiff, reduceCtorEq, ↓reduceIte, cfg0]
  refine callO.pc kEq3 ?_
  simp (maxSteps := 2000000) -implicitDefEqProofs +contextual (disch := first | assumption | omega | decide +kernel) only [push_cast, ↓capI, br2_true, br2_false, frk_tt, frk_tf, frk_f, frkD_tt, frkD_tf, frkD_f, pk2_true, pk2_false, imp_true, seval, Nat.reduceLeDiff, Nat.reduceEqDiff, reduceCtorEq, ↓reduceIte, cfg0]
  refine callO.pc kInts ?_
  simp (maxSteps := 2000000) -implicitDefEqProofs +contextual (disch := first | assumption | omega | decide +kernel) only [push_cast, ↓capI, br2_true, br2_false, frk_tt, frk_tf, frk_f, frkD_tt, frkD_tf, frkD_f, pk2_true, pk2_false, imp_true, seval, Nat.reduceLeDiff, Nat.reduceEqDiff, reduceCtorEq, ↓reduceIte, cfg0]
  refine callO.pc kAcc1 ?_
  simp (maxSteps := 2000000) -implicitDefEqProofs +contextual (disch := first | assumption | omega | decide +kernel) only [push_cast, ↓capI, br2_true, br2_false, frk_tt, frk_tf, frk_f, frkD_tt, frkD_tf, frkD_f, pk2_true, pk2_false, imp_true, seval, Nat.reduceLeDiff, Nat.reduceEqDiff, reduceCtorEq, ↓reduceIte, cfg0]
  refine callO.pc kAcc0 ?_
  simp (maxSteps := 2000000) -implicitDefEqProofs +contextual (disch := first | assumption | omega | decide +kernel) only [push_cast, ↓capI, br2_true, br2_false, frk_tt, frk_tf, frk_f, frkD_tt, frkD_tf, frkD_f, pk2_true, pk2_false, imp_true, seval, Nat.reduceLeDiff, Nat.reduceEqDiff, reduceCtorEq, ↓reduceIte, cfg0]
  refine callO.pc kChk ?_
  simp (maxSteps := 2000000) -implicitDefEqProofs +contextual (disch := first | assumption | omega | decide +kernel) only [push_cast, ↓capI, br2_true, br2_false, frk_tt, frk_tf, frk_f, frkD_tt, frkD_tf, frkD_f, pk2_true, pk2_false, imp_true, seval, Nat.reduceLeDiff, Nat.reduceEqDiff, reduceCtorEq, ↓reduceIte, cfg0]
  refine endK.ret ?_ (by first | rfl | simp [belAll_append, bel_ints, bel_bools, bel_rows, bel_slI, bel_slR, bel_slB, bel_encT]); simp [evRes, getT, retV, Try.f8]
end Go.Proofs.Ytkjffppioddnpaa

/- Chapter 42: the arguments of the laws as plain data. -/
set_option maxRecDepth 100000
set_option maxHeartbeats 4000000
set_option linter.all false
namespace Go.Proofs.Ytkjffppioddnpaa
open Go.Vm Go.ChangeShapes Go.WideShapes Go.ChangeAt Go.RowKit
theorem own : ownKnob Try.prog.godebug = none := by kernel_rfl
theorem laidOut : laidOutB Try.prog = true := by kernel_rfl
theorem laxs_one {cs : List V} {y : V} (h : laxs cs = [y]) : ∃ x, cs = [x] ∧ lax x = y := by
  match cs, h with
  | [], h => cases h
  | [x], h => simp only [laxs, List.cons.injEq, and_true] at h; exact ⟨x, rfl, h⟩
  | x :: y :: r, h => simp [laxs] at h
theorem typ_I {m : Nat} (c : List V) (h : Typ tt (m + 1) 3 c) : ∃ x : Int, laxs c = [.int .i64 x] ∧ True := by
  obtain ⟨a, rfl, _⟩ := typ_int (by rw [tt_3]) h
  exact ⟨a, rfl, trivial⟩
theorem typ_N {m : Nat} (c : List V) (h : Typ tt (m + 2) 45 c) : ∃ x : Nd, laxs c = encN x ∧ True := by
  have h := typ_struct (by rw [tt_45]) h
  obtain ⟨c1, r1, rfl, h1, h⟩ := typF_cons h
  obtain ⟨c2, r2, rfl, h2, h⟩ := typF_cons h
  obtain rfl := typF_nil h
  obtain ⟨a, ha, _⟩ := typ_I _ h1
  obtain ⟨b, hb, _⟩ := typ_I _ h2
  refine ⟨⟨a, b⟩, ?_, trivial⟩
  rw [laxs_append, laxs_append, ha, hb]
  rfl
theorem typ_slN {m : Nat} {c : List V} (h : Typ tt (m + 3) 22 c) : ∃ l : List Nd, lax (mkV (tt 22) c) = slN l := by
  obtain ⟨l, hl, _, _⟩ := typ_slice (by rw [tt_22]) typ_N h
  obtain ⟨x, rfl, hx⟩ := laxs_one hl
  refine ⟨l, ?_⟩
  rw [tt_22]
  exact hx
theorem typ_J {m : Nat} {c : List V} (h : Typ tt (m + 1) 3 c) : ∃ x : Int, lax (mkV (tt 3) c) = .int .i64 x := by
  obtain ⟨a, rfl, _⟩ := typ_int (by rw [tt_3]) h
  exact ⟨a, by rw [tt_3]; rfl⟩
theorem spec_two {s : ChangeSpec} {H : Type} (h : s.fn H = fun | [d, e] => { results := [.lit (.bool true)], args := [d, e] } | _ => Rows.none) (ds : List (DataW H)) (hl : ds.length = 2) :
    s.fn H ds = { results := [.lit (.bool true)], args := ds } := by
  rw [h]
  match ds, hl with
  | [d, e], _ => rfl
end Go.Proofs.Ytkjffppioddnpaa

/- Chapter 42: lists found by Distinguish; equal automata. -/
set_option maxRecDepth 100000
set_option maxHeartbeats 4000000
set_option linter.all false
namespace Go.Proofs.Ytkjffppioddnpaa
open Go.Vm
theorem pc11z : PC Try.prog 11 [zTb, zTb] (.bool true) := by
  refine PC.lax ?_
  have := pc11 (a := ⟨[], []⟩) (b := ⟨[], []⟩) (by decide) (by decide) (fun r hr => by simp at hr)
  rw [decide_eq_true rfl] at this
  exact this
theorem pc11s {n m : Nat} {t : Tb} (ht : okT n m t) : PC Try.prog 11 [.agg (encT t), .agg (encT t)] (.bool true) := by
  have h1 := ht.rows
  have h2 := ht.accs
  have h3 := ht.big
  have h4 := ht.cols
  have := pc11 (a := t) (b := t) (by omega) (by omega) (fun r hr => by rw [ht.row r hr]; omega)
  rwa [decide_eq_true rfl] at this
end Go.Proofs.Ytkjffppioddnpaa


/-
  Joined by a program from the texts Tab Pla Chq Chr Liv Cls Mns Min.
-/
import Derived.Test.YtkjffppioddnpaaMa
/- Chapter 42: tables, and the states that the program's subset construction goes through. -/
set_option maxRecDepth 100000
set_option maxHeartbeats 4000000
set_option linter.all false
namespace Go.Proofs.Ytkjffppioddnpaa
open Go.Vm
theorem fzs_app {id ver : Nat} {l : List V} : ∀ {a b : List V}, fzs id ver l (a ++ b) = fzs id ver l a ++ fzs id ver l b
  | [], _ => rfl
  | x :: a, b => by rw [List.cons_append, fzs, fzs, List.cons_append, fzs_app]
def slI (l : List Int) : V := .sl false (l.map (V.int .i64)) l.length
def slR (l : List (List Int)) : V := .sl false (l.map slI) l.length
def slB (l : List Bool) : V := .sl false (l.map V.bool) l.length
structure Tb where
  next : List (List Int)
  acc : List Bool
def encT (t : Tb) : List V := [slR t.next, slB t.acc]
theorem bel_ints {n : Nat} (l : List Int) : belAll n (l.map (V.int .i64)) = true := belAll_map (fun _ => rfl) l
theorem bel_bools {n : Nat} (l : List Bool) : belAll n (l.map V.bool) = true := belAll_map (fun _ => rfl) l
theorem bel_slI {n : Nat} (l : List Int) : (slI l).bel n = true := by rw [slI, bel_sl]; exact bel_ints l
theorem bel_rows {n : Nat} (l : List (List Int)) : belAll n (l.map slI) = true := belAll_map (fun x => bel_slI x) l
theorem bel_slR {n : Nat} (l : List (List Int)) : (slR l).bel n = true := by rw [slR, bel_sl]; exact bel_rows l
theorem bel_slB {n : Nat} (l : List Bool) : (slB l).bel n = true := by rw [slB, bel_sl]; exact bel_bools l
theorem bel_encT {n : Nat} (t : Tb) : belAll n (encT t) = true := by rw [encT, belAll_cons, belAll_cons, bel_slR, bel_slB]; rfl
abbrev u64 (x : W64) : V := .int .u64 x.toNat
theorem bel_u64s {n : Nat} (l : List W64) : belAll n (l.map u64) = true := belAll_map (fun _ => rfl) l
theorem ones_ints {g : Bool} {p : Prop} : ∀ {xs : List Int}, ones g (xs.map (V.int .i64)) p = p
  | [] => rfl
  | x :: xs => by simp only [List.map_cons, ones, V.one]; exact ones_ints
theorem ones_bools {g : Bool} {p : Prop} : ∀ {xs : List Bool}, ones g (xs.map V.bool) p = p
  | [] => rfl
  | x :: xs => by simp only [List.map_cons, ones, V.one]; exact ones_bools
def idxW (x : W64) : List W64 → Option Nat
  | [] => none
  | y :: r => if x = y then some 0 else (idxW x r).map (· + 1)
def enk : Nat → List W64 → List (V × V)
  | _, [] => []
  | i, x :: r => (u64 x, .int .i64 i) :: enk (i + 1) r
theorem keyW {x : W64} : keyOK tt 93 (u64 x) := ⟨rfl, rfl⟩
theorem veqW {x y : W64} : veq (u64 x) (u64 y) = decide (x = y) := by
  show (kindEq .u64 .u64 && ((x.toNat : Int) == (y.toNat : Int))) = decide (x = y)
  rw [w_eqb]; rfl
theorem keysW {l : List W64} : ∀ i, keysOK tt 93 (enk i l) := by
  induction l with
  | nil => intro i e he; simp [enk] at he
  | cons x r ih =>
    intro i e he
    simp only [enk, List.mem_cons] at he
    rcases he with rfl | he
    · exact keyW
    · exact ih (i + 1) e he
theorem mHas_enk' {x : W64} : ∀ (l : List W64) (i : Nat), mHas (u64 x) (enk i l) = (idxW x l).isSome
  | [], _ => rfl
  | y :: r, i => by
    simp only [enk, mHas, veqW, idxW]
    by_cases e : x = y
    · simp [e]
    · simp [e, mHas_enk' r (i + 1)]
theorem mGet_enk' {x : W64} (z : V) : ∀ (l : List W64) (i : Nat), mGet z (u64 x) (enk i l) = numV i z (idxW x l)
  | [], _ => rfl
  | y :: r, i => by
    simp only [enk, mGet, veqW, idxW]
    by_cases e : x = y
    · simp [e, numV]
    · simp only [e, decide_false, mGet_enk' z r (i + 1), if_false]
      cases idxW x r <;> simp [numV]
      omega
theorem mPut_enk' {x : W64} : ∀ (l : List W64) (i : Nat), idxW x l = none → mPut (u64 x) (.int .i64 ((i + l.length : Nat) : Int)) (enk i l) = enk i (l ++ [x])
  | [], _, _ => rfl
  | y :: r, i, hi => by
    simp only [idxW] at hi
    by_cases e : x = y
    · simp [e] at hi
    · simp only [e, if_false, Option.map_eq_none_iff] at hi
      have := mPut_enk' r (i + 1) hi
      simp only [enk, mPut, veqW, e, decide_false, List.cons_append, List.length_cons]
      rw [← this, show i + (r.length + 1) = i + 1 + r.length from by omega]
theorem mHas_enk {x : W64} {l : List W64} : mHas (.int .u64 x.toNat) (enk 0 l) = (idxW x l).isSome := mHas_enk' l 0
theorem mGet_enk {x : W64} {l : List W64} {z : V} : mGet z (.int .u64 x.toNat) (enk 0 l) = numV 0 z (idxW x l) := mGet_enk' z l 0
theorem mPut_enk {x : W64} {l : List W64} (h : idxW x l = none) : mPut (.int .u64 x.toNat) (.int .i64 (l.length : Int)) (enk 0 l) = enk 0 (l ++ [x]) := by
  have := mPut_enk' l 0 h
  rw [Nat.zero_add] at this
  exact this
theorem bel_enk1 {n : Nat} : ∀ (l : List W64) (i : Nat), belAll n ((enk i l).map (·.1)) = true
  | [], _ => rfl
  | x :: r, i => by rw [enk, List.map_cons, belAll_cons, bel_enk1 r]; rfl
theorem bel_enk2 {n : Nat} : ∀ (l : List W64) (i : Nat), belAll n ((enk i l).map (·.2)) = true
  | [], _ => rfl
  | x :: r, i => by rw [enk, List.map_cons, belAll_cons, bel_enk2 r]; rfl
theorem bel_mapK {n i : Nat} {l : List W64} : (Ob.map (enk i l)).bel n = true := by simp only [Ob.bel, bel_enk1, bel_enk2]; rfl
structure Rs where
  L : List Nx
  sets : List W64
  row : List Int
def rowI (set : W64) (sw : Nat) (s : Rs) : Rs :=
  if (stepS sw set s.L).2 = 0#64 then ⟨(stepS sw set s.L).1, s.sets, s.row ++ [-1]⟩
  else match idxW (stepS sw set s.L).2 s.sets with
    | some k => ⟨(stepS sw set s.L).1, s.sets, s.row ++ [(k : Int)]⟩
    | none => ⟨(stepS sw set s.L).1, s.sets ++ [(stepS sw set s.L).2], s.row ++ [(s.sets.length : Int)]⟩
def rowN (set : W64) (L : List Nx) (sets : List W64) : Nat → Rs
  | 0 => ⟨L, sets, []⟩
  | n + 1 => rowI set n (rowN set L sets n)
structure Ds2 where
  L : List Nx
  sets : List W64
  rows : List (List Int)
  accs : List Bool
def detI (m i : Nat) (s : Ds2) : Ds2 :=
  match s.sets[i]? with
  | some set => ⟨(rowN set s.L s.sets m).L, (rowN set s.L s.sets m).sets, s.rows ++ [(rowN set s.L s.sets m).row], s.accs ++ [accS set (rowN set s.L s.sets m).L]⟩
  | none => s
def detN (m : Nat) (x : Nx) : Nat → Ds2
  | 0 => ⟨[x], [1#64], [], []⟩
  | n + 1 => detI m n (detN m x n)
def bitsIn (set : W64) (n : Nat) : Prop := ∀ i, set.getLsbD i = true → i < n
theorem bitsIn.le {set : W64} {n m : Nat} (h : bitsIn set n) (hm : n ≤ m) : bitsIn set m := fun i hi => Nat.lt_of_lt_of_le (h i hi) hm
structure Rok (D : List Nx) (s : Rs) : Prop where
  good : goodL D s.L
  bits : ∀ x ∈ s.sets, bitsIn x s.L.length
  nodup : s.sets.Nodup
theorem num_bits {s : Ds} {x : Nx} (h : bitsIn s.2 s.1.length) : bitsIn (addD s x).2 (addD s x).1.length := by
  intro i hi
  simp only [addD, BitVec.getLsbD_or, Bool.or_eq_true] at hi ⊢
  rcases hi with hi | hi
  · exact Nat.lt_of_lt_of_le (h i hi) (num_len s.1 x).1
  · have hk : i = (num s.1 x).2 := by
      simp only [BitVec.getLsbD_shiftLeft, Bool.and_eq_true, decide_eq_true_eq, Bool.not_eq_true', decide_eq_false_iff_not] at hi
      have := hi.2
      rw [BitVec.getLsbD_one] at this
      simp at this
      omega
    have hn : (num s.1 x).2 < (num s.1 x).1.length := by
      have aux : ∀ (L : List Nx) (k : Nat), idx x L = some k → k < L.length := by
        intro L
        induction L with
        | nil => intro k h; simp [idx] at h
        | cons y r ih =>
          intro k h
          simp only [idx] at h
          split at h
          · simp at h; subst h; simp
          · rw [Option.map_eq_some_iff] at h
            obtain ⟨j, hj, rfl⟩ := h
            have := ih j hj
            simp; omega
      unfold num
      split
      · rename_i k hk; exact aux _ _ hk
      · simp
    rw [hk]; exact hn
theorem addL_bits : ∀ (l : List Nx) (s : Ds), bitsIn s.2 s.1.length → bitsIn (addL s l).2 (addL s l).1.length
  | [], _, h => h
  | x :: r, s, h => addL_bits r (addD s x) (num_bits h)
theorem stepN_bits {sw : Int} {set : W64} {s : Ds} (h : bitsIn s.2 s.1.length) : ∀ n, bitsIn (stepN sw set n s).2 (stepN sw set n s).1.length
  | 0 => h
  | n + 1 => by
    rw [stepN, stepI]
    split
    · split
      · exact addL_bits _ _ (stepN_bits h n)
      · exact stepN_bits h n
    · exact stepN_bits h n
theorem addL_ge (l : List Nx) (s : Ds) : s.1.length ≤ (addL s l).1.length := by
  induction l generalizing s with
  | nil => exact Nat.le_refl _
  | cons x r ih => exact Nat.le_trans (num_len s.1 x).1 (ih (addD s x))
theorem stepN_ge {sw : Int} {set : W64} {s : Ds} : ∀ n, s.1.length ≤ (stepN sw set n s).1.length
  | 0 => Nat.le_refl _
  | n + 1 => by
    refine Nat.le_trans (stepN_ge (sw := sw) (set := set) n) ?_
    rw [stepN, stepI]
    split
    · split
      · exact addL_ge _ _
      · exact Nat.le_refl _
    · exact Nat.le_refl _
theorem idxW_none {x : W64} : ∀ {l : List W64}, idxW x l = none → x ∉ l
  | [], _ => by simp
  | y :: r, h => by
    simp only [idxW] at h
    split at h
    · cases h
    · rename_i e
      rw [Option.map_eq_none_iff] at h
      have := idxW_none h
      simp [e, this]
theorem stepS_ok {D : List Nx} (hD : Cls D) {sw : Int} {set : W64} {L : List Nx} (h : goodL D L) : goodL D (stepS sw set L).1 ∧ L.length ≤ (stepS sw set L).1.length ∧ bitsIn (stepS sw set L).2 (stepS sw set L).1.length :=
  ⟨stepN_good hD (s := (L, 0#64)) h 64, stepN_ge (s := (L, 0#64)) 64, stepN_bits (s := (L, 0#64)) (fun i hi => by simp at hi) 64⟩
theorem rowI_ok {D : List Nx} (hD : Cls D) {set : W64} {sw : Nat} {s : Rs} (h : Rok D s) : Rok D (rowI set sw s) ∧ s.L.length ≤ (rowI set sw s).L.length := by
  obtain ⟨h1, h2, h3⟩ := stepS_ok hD (sw := sw) (set := set) h.good
  unfold rowI
  split
  · exact ⟨⟨h1, fun x hx => (h.bits x hx).le h2, h.nodup⟩, h2⟩
  · split
    · exact ⟨⟨h1, fun x hx => (h.bits x hx).le h2, h.nodup⟩, h2⟩
    · rename_i hi
      refine ⟨⟨h1, fun x hx => ?_, List.nodup_append.2 ⟨h.nodup, by simp, ?_⟩⟩, h2⟩
      · rcases List.mem_append.1 hx with hx | hx
        · exact (h.bits x hx).le h2
        · simp at hx; subst hx; exact h3
      · intro a ha b hb
        simp at hb
        subst hb
        exact fun e => idxW_none hi (e ▸ ha)
theorem rowN_ok {D : List Nx} (hD : Cls D) {set : W64} {L : List Nx} {sets : List W64} (h : Rok D ⟨L, sets, []⟩) : ∀ n, Rok D (rowN set L sets n) ∧ L.length ≤ (rowN set L sets n).L.length
  | 0 => ⟨h, Nat.le_refl _⟩
  | n + 1 => by
    have h1 := rowN_ok hD h (set := set) n
    have h2 := rowI_ok hD (set := set) (sw := n) h1.1
    exact ⟨h2.1, Nat.le_trans h1.2 h2.2⟩
theorem rowN_len (set : W64) (L : List Nx) (sets : List W64) : ∀ n, (rowN set L sets n).row.length = n
  | 0 => rfl
  | n + 1 => by
    have := rowN_len set L sets n
    simp only [rowN, rowI]
    split
    · simp [this]
    · split <;> simp [this]
theorem rowN_sets (set : W64) (L : List Nx) (sets : List W64) : ∀ n, ∃ r, (rowN set L sets n).sets = sets ++ r
  | 0 => ⟨[], by simp [rowN]⟩
  | n + 1 => by
    obtain ⟨r, hr⟩ := rowN_sets set L sets n
    simp only [rowN, rowI]
    split
    · exact ⟨r, hr⟩
    · split
      · exact ⟨r, hr⟩
      · exact ⟨_, by rw [hr, List.append_assoc]⟩
theorem set_pad {row : List Int} {m j : Nat} {y : Int} (h : row.length = j) (hj : j < m) : (row ++ List.replicate (m - j) (0 : Int)).set j y = row ++ (y :: List.replicate (m - (j + 1)) 0) := by
  obtain ⟨k, hk⟩ : ∃ k, m - j = k + 1 := ⟨m - j - 1, by omega⟩
  rw [hk, show m - (j + 1) = k from by omega, List.replicate_succ, ← h]
  simp
theorem put_row1 {row : List Int} {m j : Nat} {y : Int} (h : row.length = j) (hj : j < m) : putV ((row ++ List.replicate (m - j) (0 : Int)).map (V.int .i64)) j [.int .i64 y] = (row ++ (y :: List.replicate (m - (j + 1)) 0)).map (V.int .i64) := by
  rw [put_map (f := V.int .i64) _ _ (by rw [List.length_append, List.length_replicate]; omega), set_pad h hj]
theorem put_row2 {row t : List Int} {j : Nat} {y z : Int} (h : row.length = j) : putV ((row ++ (z :: t)).map (V.int .i64)) j [.int .i64 y] = (row ++ (y :: t)).map (V.int .i64) := by
  rw [put_map (f := V.int .i64) _ _ (by rw [List.length_append, List.length_cons]; omega)]
  congr 1
  subst h
  simp
theorem nat_len {N : Nat} {l : List Nat} (hn : l.Nodup) (h : ∀ x ∈ l, x < N) : l.length ≤ N := by
  have := len_sub (D := List.range N) hn (fun x hx => List.mem_range.2 (h x hx))
  rwa [List.length_range] at this
theorem bits_lt {x : W64} {n : Nat} (h : bitsIn x n) : x.toNat < 2 ^ n := by
  refine Nat.lt_pow_two_of_testBit _ fun i hi => ?_
  cases hb : x.toNat.testBit i
  · rfl
  · have := h i hb
    omega
theorem map_nodup {α β : Type} {f : α → β} (hf : ∀ a b, f a = f b → a = b) : ∀ {l : List α}, l.Nodup → (l.map f).Nodup
  | [], _ => by simp
  | x :: r, h => by
    have h := List.nodup_cons.1 h
    rw [List.map_cons, List.nodup_cons]
    refine ⟨fun hm => ?_, map_nodup hf h.2⟩
    obtain ⟨y, hy, e⟩ := List.mem_map.1 hm
    exact h.1 (hf _ _ e ▸ hy)
theorem Rok.len {D : List Nx} (hD : Cls D) {s : Rs} (h : Rok D s) : s.sets.length ≤ 2 ^ 30 := by
  have h1 := nat_len (N := 2 ^ 30) (l := s.sets.map BitVec.toNat) (map_nodup (fun a b e => BitVec.eq_of_toNat_eq e) h.nodup) (fun n hn => by
    obtain ⟨x, hx, rfl⟩ := List.mem_map.1 hn
    have h2 := bits_lt (h.bits x hx)
    have h3 := h.good.len
    have h4 := hD.len
    exact Nat.lt_of_lt_of_le h2 (Nat.pow_le_pow_right (by omega) (by omega)))
  rwa [List.length_map] at h1
theorem detN_ok {D : List Nx} (hD : Cls D) {x : Nx} (hx : x ∈ D) {m : Nat} : ∀ n, Rok D ⟨(detN m x n).L, (detN m x n).sets, []⟩
  | 0 => by
    refine ⟨⟨by simp [detN], fun y hy => by simp [detN] at hy; subst hy; exact hx⟩, fun y hy => ?_, by simp [detN]⟩
    simp [detN] at hy
    subst hy
    intro i hi
    rw [BitVec.getLsbD_one] at hi
    simp at hi
    subst hi
    simp [detN]
  | n + 1 => by
    have ih := detN_ok hD hx (m := m) n
    rw [detN, detI]
    split
    · rename_i set hs
      have h1 := (rowN_ok hD (set := set) ih m).1
      exact ⟨h1.good, h1.bits, h1.nodup⟩
    · exact ih
theorem detI_stop {m i : Nat} {s : Ds2} (h : s.sets.length ≤ i) : detI m i s = s := by
  rw [detI, List.getElem?_eq_none h]
theorem detN_stop {m : Nat} {x : Nx} {i : Nat} (h : (detN m x i).sets.length ≤ i) : ∀ k, detN m x (i + k) = detN m x i
  | 0 => rfl
  | k + 1 => by
    rw [← Nat.add_assoc, detN, detI_stop (by rw [detN_stop h k]; omega), detN_stop h k]
theorem detN_at {m : Nat} {x : Nx} {i j : Nat} (h : (detN m x i).sets.length ≤ i) (hj : i ≤ j) : detN m x j = detN m x i := by
  have := detN_stop h (j - i)
  rwa [show i + (j - i) = j from by omega] at this
end Go.Proofs.Ytkjffppioddnpaa

/- Chapter 42: what the functions on tables answer: live states, classes, the minimal table (plain). -/
set_option maxRecDepth 100000
set_option maxHeartbeats 4000000
set_option linter.all false
namespace Go.Proofs.Ytkjffppioddnpaa
open Go.Vm
def gI (l : List Int) (i : Int) : Int := l.getD i.toNat 0
def gB (l : List Bool) (i : Int) : Bool := l.getD i.toNat false
structure okT (n m : Nat) (t : Tb) : Prop where
  rows : t.next.length = n
  accs : t.acc.length = n
  row : ∀ r ∈ t.next, r.length = m
  rng : ∀ r ∈ t.next, ∀ x ∈ r, -1 ≤ x ∧ x < (n : Int)
  pos : 0 < n
  big : n ≤ 2 ^ 30
  cols : m ≤ 16
  col1 : 0 < m
def toL (out : List Bool) (row : List Int) : Bool := row.any fun x => decide (0 ≤ x) && gB out x
def liveI (t : Tb) (q : Nat) (s : List Bool × Bool) : List Bool × Bool :=
  if s.1.getD q false = false ∧ toL s.1 (t.next.getD q []) = true then (s.1.set q true, true) else s
def liveN (t : Tb) (o : List Bool) : Nat → List Bool × Bool
  | 0 => (o, false)
  | n + 1 => liveI t n (liveN t o n)
def pass (t : Tb) (o : List Bool) : List Bool × Bool := liveN t o t.next.length
def liveF (t : Tb) : Nat → List Bool → List Bool
  | 0, o => o
  | k + 1, o => if (pass t o).2 = true then liveF t k (pass t o).1 else (pass t o).1
def cntF : List Bool → Nat
  | [] => 0
  | b :: r => (if b then 0 else 1) + cntF r
def liveS (t : Tb) : List Bool := liveF t (cntF t.acc + 1) t.acc
theorem cntF_set : ∀ {o : List Bool} {q : Nat}, q < o.length → o.getD q false = false → cntF (o.set q true) + 1 = cntF o
  | [], q, h, _ => by simp at h
  | b :: r, 0, _, h => by
    simp at h
    subst h
    simp [cntF]
    omega
  | b :: r, q + 1, h, h2 => by
    have := cntF_set (o := r) (q := q) (by simpa using h) (by simpa using h2)
    simp only [List.set_cons_succ, cntF]
    omega
theorem liveN_len (t : Tb) (o : List Bool) : ∀ n, (liveN t o n).1.length = o.length
  | 0 => rfl
  | n + 1 => by
    rw [liveN, liveI]
    split
    · rw [List.length_set, liveN_len t o n]
    · exact liveN_len t o n
theorem liveN_cnt (t : Tb) (o : List Bool) (hl : t.next.length ≤ o.length) : ∀ n, n ≤ t.next.length → cntF (liveN t o n).1 ≤ cntF o ∧ ((liveN t o n).2 = true → cntF (liveN t o n).1 < cntF o)
  | 0, _ => ⟨Nat.le_refl _, fun h => by simp [liveN] at h⟩
  | n + 1, hn => by
    have ih := liveN_cnt t o hl n (by omega)
    rw [liveN, liveI]
    split
    · rename_i h
      have := cntF_set (o := (liveN t o n).1) (q := n) (by rw [liveN_len]; omega) h.1
      exact ⟨by simp only; omega, fun _ => by simp only; omega⟩
    · exact ih
theorem liveF_any (t : Tb) : ∀ (k : Nat) (o : List Bool), t.next.length ≤ o.length → cntF o < k → ∀ k', cntF o < k' → liveF t k o = liveF t k' o := by
  intro k
  induction k with
  | zero => intro o _ h; omega
  | succ k ih =>
    intro o hl hk k' hk'
    cases k' with
    | zero => omega
    | succ k' =>
      have hc := liveN_cnt t o hl t.next.length (Nat.le_refl _)
      have hlen := liveN_len t o t.next.length
      rw [liveF, liveF]
      split
      · rename_i h
        have h2 := hc.2 h
        exact ih (pass t o).1 (by rw [pass, hlen]; exact hl) (by rw [pass]; omega) k' (by rw [pass]; omega)
      · rfl
theorem liveF_step (t : Tb) {k : Nat} {o : List Bool} (hl : t.next.length ≤ o.length) (hk : cntF o < k) :
    ((pass t o).2 = true → cntF (pass t o).1 < cntF o ∧ liveF t (cntF o) (pass t o).1 = liveF t k o) ∧ ((pass t o).2 = false → (pass t o).1 = liveF t k o) := by
  cases k with
  | zero => omega
  | succ k =>
    have hc := liveN_cnt t o hl t.next.length (Nat.le_refl _)
    have hlen := liveN_len t o t.next.length
    rw [liveF]
    refine ⟨fun h => ?_, fun h => ?_⟩
    · rw [if_pos h]
      have h2 := hc.2 h
      exact ⟨h2, liveF_any t _ _ (by rw [pass, hlen]; exact hl) (by rw [pass]; omega) _ (by rw [pass]; omega)⟩
    · rw [if_neg (by rw [h]; decide)]
theorem pass_len (t : Tb) (o : List Bool) : (pass t o).1.length = o.length := liveN_len t o _
theorem liveF_len (t : Tb) : ∀ k o, (liveF t k o).length = o.length
  | 0, _ => rfl
  | k + 1, o => by
    rw [liveF]
    split
    · rw [liveF_len, pass_len]
    · exact pass_len t o
theorem liveS_len (t : Tb) : (liveS t).length = t.acc.length := liveF_len t _ _
def cls0 (t : Tb) : List Int := (List.range t.next.length).map fun q => if (liveS t).getD q false = false then -1 else if t.acc.getD q false = true then 1 else 0
def sigO (cls row : List Int) (q : Nat) : List Int := cls.getD q 0 :: row.map fun x => if 0 ≤ x then gI cls x else -1
def idxL (x : List Int) : List (List Int) → Option Nat
  | [] => none
  | y :: r => if x = y then some 0 else (idxL x r).map (· + 1)
def refI (t : Tb) (cls : List Int) (q : Nat) (s : List Int × List (List Int)) : List Int × List (List Int) :=
  if cls.getD q 0 < 0 then (s.1 ++ [-1], s.2)
  else match idxL (sigO cls (t.next.getD q []) q) s.2 with
    | some k => (s.1 ++ [(k : Int)], s.2)
    | none => (s.1 ++ [(s.2.length : Int)], s.2 ++ [sigO cls (t.next.getD q []) q])
def refN (t : Tb) (cls : List Int) : Nat → List Int × List (List Int)
  | 0 => ([], [])
  | n + 1 => refI t cls n (refN t cls n)
def ref (t : Tb) (cls : List Int) : List Int × List (List Int) := refN t cls t.next.length
def parF (t : Tb) : Nat → List Int → Nat → List Int
  | 0, c, _ => c
  | k + 1, c, cnt => if (ref t c).2.length = cnt then (ref t c).1 else parF t k (ref t c).1 (ref t c).2.length
def parS (t : Tb) : List Int := parF t (t.next.length + 2) (cls0 t) 0
theorem refN_len (t : Tb) (cls : List Int) : ∀ n, (refN t cls n).1.length = n
  | 0 => rfl
  | n + 1 => by
    have := refN_len t cls n
    rw [refN, refI]
    split
    · simp [this]
    · split <;> simp [this]
theorem idxL_none {x : List Int} : ∀ {l : List (List Int)}, idxL x l = none → x ∉ l
  | [], _ => by simp
  | y :: r, h => by
    simp only [idxL] at h
    split at h
    · cases h
    · rename_i e
      rw [Option.map_eq_none_iff] at h
      have := idxL_none h
      simp [e, this]
theorem idxL_some {x : List Int} : ∀ {l : List (List Int)} {k : Nat}, idxL x l = some k → l[k]? = some x
  | [], k, h => by simp [idxL] at h
  | y :: r, k, h => by
    simp only [idxL] at h
    split at h
    · rename_i e; cases h; simp [e]
    · rw [Option.map_eq_some_iff] at h
      obtain ⟨j, hj, rfl⟩ := h
      simpa using idxL_some hj
structure Cok (cls : List Int) (n : Nat) (s : List Int × List (List Int)) : Prop where
  len : s.1.length = n
  nodup : s.2.Nodup
  rng : ∀ x ∈ s.1, -1 ≤ x ∧ x < (s.2.length : Int)
  met : ∀ k, k < s.2.length → ((k : Nat) : Int) ∈ s.1
  sg : s.2.length ≤ n
theorem refN_ok (t : Tb) (cls : List Int) : ∀ n, Cok cls n (refN t cls n)
  | 0 => ⟨rfl, by simp [refN], fun x hx => by simp [refN] at hx, fun k hk => by simp [refN] at hk, Nat.le_refl _⟩
  | n + 1 => by
    have ih := refN_ok t cls n
    have hl := refN_len t cls (n + 1)
    rw [refN] at hl ⊢
    rw [refI] at hl ⊢
    split
    · refine ⟨by simp [ih.len], ih.nodup, fun x hx => ?_, fun k hk => List.mem_append.2 (.inl (ih.met k hk)), Nat.le_succ_of_le ih.sg⟩
      rcases List.mem_append.1 hx with hx | hx
      · exact ih.rng x hx
      · simp at hx; subst hx; omega
    · split
      · rename_i k hk
        have hk := (List.getElem?_eq_some_iff.1 (idxL_some hk)).1
        refine ⟨by simp [ih.len], ih.nodup, fun x hx => ?_, fun k hk => List.mem_append.2 (.inl (ih.met k hk)), Nat.le_succ_of_le ih.sg⟩
        rcases List.mem_append.1 hx with hx | hx
        · exact ih.rng x hx
        · simp at hx; subst hx; simp only; omega
      · rename_i hk
        refine ⟨by simp [ih.len], List.nodup_append.2 ⟨ih.nodup, by simp, ?_⟩, fun x hx => ?_, fun k hk => ?_, by simp; exact ih.sg⟩
        · intro a ha b hb
          simp at hb
          subst hb
          exact fun e => idxL_none hk (e ▸ ha)
        · rcases List.mem_append.1 hx with hx | hx
          · have := ih.rng x hx
            simp only [List.length_append, List.length_singleton]
            omega
          · simp at hx; subst hx; simp only [List.length_append, List.length_singleton]; omega
        · simp only [List.length_append, List.length_singleton] at hk
          by_cases h : k < (refN t cls n).2.length
          · exact List.mem_append.2 (.inl (ih.met k h))
          · exact List.mem_append.2 (.inr (by simp; omega))
theorem ref_len (t : Tb) (cls : List Int) : (ref t cls).1.length = t.next.length := refN_len t cls _
theorem ref_le (t : Tb) (cls : List Int) : (ref t cls).2.length ≤ t.next.length := (refN_ok t cls _).sg
theorem refN_sig (t : Tb) (cls : List Int) : ∀ n q, q < n → ¬ cls.getD q 0 < 0 → sigO cls (t.next.getD q []) q ∈ (refN t cls n).2
  | 0, q, h, _ => by omega
  | n + 1, q, h, hc => by
    rw [refN, refI]
    by_cases hq : q = n
    · subst hq
      rw [if_neg hc]
      split
      · rename_i k hk; exact List.mem_of_getElem? (idxL_some hk)
      · simp
    · have ih := refN_sig t cls n q (by omega) hc
      split
      · exact ih
      · split
        · exact ih
        · exact List.mem_append.2 (.inl ih)
theorem ref_ge (t : Tb) (cls : List Int) (hl : cls.length = t.next.length) {cnt : Nat} (h : ∀ k, k < cnt → ((k : Nat) : Int) ∈ cls) : cnt ≤ (ref t cls).2.length := by
  have := len_sub (L := (List.range cnt).map fun (k : Nat) => (k : Int)) (D := (ref t cls).2.map fun s => s.headD 0) (map_nodup (fun a b e => by omega) List.nodup_range) (fun x hx => by
    obtain ⟨k, hk, rfl⟩ := List.mem_map.1 hx
    rw [List.mem_range] at hk
    obtain ⟨q, hq, e⟩ := List.getElem_of_mem (h k hk)
    have hg : cls.getD q 0 = (k : Int) := by rw [List.getD_eq_getElem?_getD, List.getElem?_eq_getElem hq]; exact e
    have := refN_sig t cls t.next.length q (by omega) (by rw [hg]; omega)
    refine List.mem_map.2 ⟨_, this, ?_⟩
    rw [sigO, hg]; rfl)
  simpa using this
theorem parF_any (t : Tb) : ∀ (k : Nat) (c : List Int) (cnt : Nat), c.length = t.next.length → (∀ j, j < cnt → ((j : Nat) : Int) ∈ c) → t.next.length + 1 ≤ k + cnt → ∀ k', t.next.length + 1 ≤ k' + cnt → 0 < k → 0 < k' → parF t k c cnt = parF t k' c cnt := by
  intro k
  induction k with
  | zero => intro c cnt _ _ _ k' _ h; omega
  | succ k ih =>
    intro c cnt hl hm hk k' hk' _ h0'
    cases k' with
    | zero => omega
    | succ k' =>
      rw [parF, parF]
      split
      · rfl
      · rename_i hne
        have h1 := ref_ge t c hl hm
        have h2 := ref_le t c
        have hok := refN_ok t c t.next.length
        exact ih (ref t c).1 (ref t c).2.length (ref_len t c) hok.met (by omega) k' (by omega) (by omega) (by omega)
end Go.Proofs.Ytkjffppioddnpaa

/- Chapter 42: automata checked and run, by the program and by the reference. -/
set_option maxRecDepth 100000
set_option maxHeartbeats 4000000
set_option linter.all false
namespace Go.Proofs.Ytkjffppioddnpaa
open Go.Vm
def rowBad (n : Nat) (l : List Int) : Bool := l.any fun x => decide (x < -1) || decide ((n : Int) ≤ x)
def chkT (t : Tb) : Int :=
  if t.next.length = 0 then 8
  else if 64 < t.next.length then 12
  else if t.acc.length ≠ t.next.length ∨ (t.next.headD []).length < 1 ∨ 16 < (t.next.headD []).length then 2
  else if (t.next.any fun r => decide (r.length ≠ (t.next.headD []).length)) = true then 2
  else if (t.next.any (rowBad t.next.length)) = true then 9 else 0
theorem okT_of {t : Tb} (h : chkT t = 0) : okT t.next.length (t.next.headD []).length t ∧ t.next.length ≤ 64 := by
  unfold chkT at h
  split at h
  · cases h
  · split at h
    · cases h
    · split at h
      · cases h
      · split at h
        · cases h
        · split at h
          · cases h
          · rename_i h1 h2 h3 h4 h5
            have h4' : ∀ r ∈ t.next, r.length = (t.next.headD []).length := fun r hr => by
              cases hd : decide (r.length = (t.next.headD []).length)
              · exfalso
                refine h4 (List.any_eq_true.2 ⟨r, hr, ?_⟩)
                have := of_decide_eq_false hd
                simpa using this
              · exact of_decide_eq_true hd
            refine ⟨⟨rfl, ?_, h4', ?_, by omega, by omega, by omega, by omega⟩, by omega⟩
            · have := h3
              omega
            · intro r hr x hx
              have : rowBad t.next.length r = false := by
                cases hb : rowBad t.next.length r
                · rfl
                · exact absurd (List.any_eq_true.2 ⟨r, hr, hb⟩) h5
              have h6 := List.any_eq_false.1 this x hx
              simp only [Bool.or_eq_true, decide_eq_true_eq] at h6
              omega
theorem chk_rest {α : Type} {f : α → Bool} {l : List α} {i : Nat} (h : i < l.length) (hp : (l.take i).any f = false) : (f l[i] = true → l.any f = true) ∧ (f l[i] = false → (l.take (i + 1)).any f = false) := by
  refine ⟨fun hf => List.any_eq_true.2 ⟨_, List.getElem_mem h, hf⟩, fun hf => ?_⟩
  rw [List.take_succ_eq_append_getElem h, List.any_append, hp, List.any_cons, hf]
  rfl
theorem pc20 (t : Tb) : PC Try.prog 20 [.agg (encT t)] (.int .i64 (chkT t)) := by
  obtain ⟨next, acc⟩ := t
  by_cases h1 : next.length = 0
  · rw [chkT, if_pos h1]
    refine PC.walk tok mixed cfg0 Try.func20 rfl Try.call20 (by simp [bel_ints, bel_bools, bel_rows, bel_slI, bel_slR, bel_slB, bel_encT]) (by first | rfl | simp [bel_ints, bel_bools, bel_rows, bel_slI, bel_slR, bel_slB, bel_encT]) ?_; simp (maxSteps := 2000000) -implicitDefEqProofs +contextual (disch := first | assumption | omega | decide +kernel) only [push_cast, ↓capI, br2_true, br2_false, frk_tt, frk_tf, frk_f, frkD_tt, frkD_tf, frkD_f, pk2_true, pk2_false, imp_true, seval, Nat.reduceLeDiff, Nat.reduceEqDiff, reduceCtorEq, ↓reduceIte, cfg0, ones_ints, ones_bools, getV_map, getV_mapO, List.length_map, Nat.mul_one, slI, slR, slB, encT, Try.ntmps20]
    refine endK.ret ?_ (by first | rfl | simp [bel_ints, bel_bools, bel_rows, bel_slI, bel_slR, bel_slB, bel_encT]); simp [evRes, getT, retV, Try.f20]
  by_cases h2 : 64 < next.length
  · rw [chkT, if_neg h1, if_pos h2]
    refine PC.walk tok mixed cfg0 Try.func20 rfl Try.call20 (by simp [bel_ints, bel_bools, bel_rows, bel_slI, bel_slR, bel_slB, bel_encT]) (by first | rfl | simp [bel_ints, bel_bools, bel_rows, bel_slI, bel_slR, bel_slB, bel_encT]) ?_; simp (maxSteps := 2000000) -implicitDefEqProofs +contextual (disch := first | assumption | omega | decide +kernel) only [push_cast, ↓capI, br2_true, br2_false, frk_tt, frk_tf, frk_f, frkD_tt, frkD_tf, frkD_f, pk2_true, pk2_false, imp_true, seval, Nat.reduceLeDiff, Nat.reduceEqDiff, reduceCtorEq, ↓reduceIte, cfg0, ones_ints, ones_bools, getV_map, getV_mapO, List.length_map, Nat.mul_one, slI, slR, slB, encT, Try.ntmps20]
    refine endK.ret ?_ (by first | rfl | simp [bel_ints, bel_bools, bel_rows, bel_slI, bel_slR, bel_slB, bel_encT]); simp [evRes, getT, retV, Try.f20]
  cases next with
  | nil => exact absurd rfl h1
  | cons r0 rest =>
  rw [chkT, if_neg h1, if_neg h2]
  obtain ⟨next, hnext⟩ : ∃ l, l = r0 :: rest := ⟨_, rfl⟩
  have h00 : 0 < next.length := by rw [hnext]; simp
  have hg0 : next[0] = r0 := by simp [hnext]
  rw [← hnext] at h1 h2 ⊢
  have hhd : next.headD [] = r0 := by rw [hnext]; rfl
  simp only [hhd]
  by_cases h3 : acc.length ≠ next.length ∨ r0.length < 1 ∨ 16 < r0.length
  · rw [if_pos h3]
    by_cases e1 : acc.length = next.length
    · by_cases e2 : r0.length < 1
      · refine PC.walk tok mixed cfg0 Try.func20 rfl Try.call20 (by simp [bel_ints, bel_bools, bel_rows, bel_slI, bel_slR, bel_slB, bel_encT]) (by first | rfl | simp [bel_ints, bel_bools, bel_rows, bel_slI, bel_slR, bel_slB, bel_encT]) ?_; simp (maxSteps := 2000000) -implicitDefEqProofs +contextual (disch := first | assumption | omega | decide +kernel) only [push_cast, ↓capI, br2_true, br2_false, frk_tt, frk_tf, frk_f, frkD_tt, frkD_tf, frkD_f, pk2_true, pk2_false, imp_true, seval, Nat.reduceLeDiff, Nat.reduceEqDiff, reduceCtorEq, ↓reduceIte, cfg0, ones_ints, ones_bools, getV_map, getV_mapO, List.length_map, Nat.mul_one, slI, slR, slB, encT, Try.ntmps20]
        (try simp (maxSteps := 2000000) -implicitDefEqProofs +contextual (disch := first | assumption | omega | decide +kernel) only [push_cast, ↓capI, br2_true, br2_false, frk_tt, frk_tf, frk_f, frkD_tt, frkD_tf, frkD_f, pk2_true, pk2_false, imp_true, seval, Nat.reduceLeDiff, Nat.reduceEqDiff, reduceCtorEq, ↓reduceIte, cfg0, ones_ints, ones_bools, getV_map, getV_mapO, List.length_map, Nat.mul_one, slI, slR, slB, encT, h00, hg0, h1, h2, e1, e2])
        refine endK.ret ?_ (by first | rfl | simp [bel_ints, bel_bools, bel_rows, bel_slI, bel_slR, bel_slB, bel_encT]); simp [evRes, getT, retV, Try.f20]
      · have e3 : 16 < r0.length := by omega
        refine PC.walk tok mixed cfg0 Try.func20 rfl Try.call20 (by simp [bel_ints, bel_bools, bel_rows, bel_slI, bel_slR, bel_slB, bel_encT]) (by first | rfl | simp [bel_ints, bel_bools, bel_rows, bel_slI, bel_slR, bel_slB, bel_encT]) ?_; simp (maxSteps := 2000000) -implicitDefEqProofs +contextual (disch := first | assumption | omega | decide +kernel) only [push_cast, ↓capI, br2_true, br2_false, frk_tt, frk_tf, frk_f, frkD_tt, frkD_tf, frkD_f, pk2_true, pk2_false, imp_true, seval, Nat.reduceLeDiff, Nat.reduceEqDiff, reduceCtorEq, ↓reduceIte, cfg0, ones_ints, ones_bools, getV_map, getV_mapO, List.length_map, Nat.mul_one, slI, slR, slB, encT, Try.ntmps20]
        (try simp (maxSteps := 2000000) -implicitDefEqProofs +contextual (disch := first | assumption | omega | decide +kernel) only [push_cast, ↓capI, br2_true, br2_false, frk_tt, frk_tf, frk_f, frkD_tt, frkD_tf, frkD_f, pk2_true, pk2_false, imp_true, seval, Nat.reduceLeDiff, Nat.reduceEqDiff, reduceCtorEq, ↓reduceIte, cfg0, ones_ints, ones_bools, getV_map, getV_mapO, List.length_map, Nat.mul_one, slI, slR, slB, encT, h00, hg0, h1, h2, e1, e2, e3])
        refine endK.ret ?_ (by first | rfl | simp [bel_ints, bel_bools, bel_rows, bel_slI, bel_slR, bel_slB, bel_encT]); simp [evRes, getT, retV, Try.f20]
    · refine PC.walk tok mixed cfg0 Try.func20 rfl Try.call20 (by simp [bel_ints, bel_bools, bel_rows, bel_slI, bel_slR, bel_slB, bel_encT]) (by first | rfl | simp [bel_ints, bel_bools, bel_rows, bel_slI, bel_slR, bel_slB, bel_encT]) ?_; simp (maxSteps := 2000000) -implicitDefEqProofs +contextual (disch := first | assumption | omega | decide +kernel) only [push_cast, ↓capI, br2_true, br2_false, frk_tt, frk_tf, frk_f, frkD_tt, frkD_tf, frkD_f, pk2_true, pk2_false, imp_true, seval, Nat.reduceLeDiff, Nat.reduceEqDiff, reduceCtorEq, ↓reduceIte, cfg0, ones_ints, ones_bools, getV_map, getV_mapO, List.length_map, Nat.mul_one, slI, slR, slB, encT, Try.ntmps20]
      (try simp (maxSteps := 2000000) -implicitDefEqProofs +contextual (disch := first | assumption | omega | decide +kernel) only [push_cast, ↓capI, br2_true, br2_false, frk_tt, frk_tf, frk_f, frkD_tt, frkD_tf, frkD_f, pk2_true, pk2_false, imp_true, seval, Nat.reduceLeDiff, Nat.reduceEqDiff, reduceCtorEq, ↓reduceIte, cfg0, ones_ints, ones_bools, getV_map, getV_mapO, List.length_map, Nat.mul_one, slI, slR, slB, encT, h00, hg0, h1, h2, e1])
      refine endK.ret ?_ (by first | rfl | simp [bel_ints, bel_bools, bel_rows, bel_slI, bel_slR, bel_slB, bel_encT]); simp [evRes, getT, retV, Try.f20]
  rw [if_neg h3]
  have e1 : acc.length = next.length := by omega
  have e2 : ¬ r0.length < 1 := by omega
  have e3 : ¬ 16 < r0.length := by omega
  refine PC.walk tok mixed cfg0 Try.func20 rfl Try.call20 (by simp [bel_ints, bel_bools, bel_rows, bel_slI, bel_slR, bel_slB, bel_encT]) (by first | rfl | simp [bel_ints, bel_bools, bel_rows, bel_slI, bel_slR, bel_slB, bel_encT]) ?_; simp (maxSteps := 2000000) -implicitDefEqProofs +contextual (disch := first | assumption | omega | decide +kernel) only [push_cast, ↓capI, br2_true, br2_false, frk_tt, frk_tf, frk_f, frkD_tt, frkD_tf, frkD_f, pk2_true, pk2_false, imp_true, seval, Nat.reduceLeDiff, Nat.reduceEqDiff, reduceCtorEq, ↓reduceIte, cfg0, ones_ints, ones_bools, getV_map, getV_mapO, List.length_map, Nat.mul_one, slI, slR, slB, encT, Try.ntmps20]
  simp (maxSteps := 2000000) -implicitDefEqProofs +contextual (disch := first | assumption | omega | decide +kernel) only [push_cast, ↓capI, br2_true, br2_false, frk_tt, frk_tf, frk_f, frkD_tt, frkD_tf, frkD_f, pk2_true, pk2_false, imp_true, seval, Nat.reduceLeDiff, Nat.reduceEqDiff, reduceCtorEq, ↓reduceIte, cfg0, ones_ints, ones_bools, getV_map, getV_mapO, List.length_map, Nat.mul_one, slI, slR, slB, encT, h00, hg0, h1, h2, e1, e2, e3]
  refine T.lp tok mixed cfg0 (fun ((i : Nat)) => dd 1 (kp 1 (dd 42 (kp 2 (sv (.int .i64 (i : Int)) (dd 36 (nl))))))) (fun H0 ((i : Nat)) => H0) (fun ((i : Nat)) => i ≤ next.length ∧ (next.take i).any (fun r => decide (r.length ≠ r0.length)) = false) (fun ((i : Nat)) => next.length - i) (0) ?_ ?_ ?_
  · exact ⟨by omega, rfl⟩
  · exact Gn.canon (J := _) (by first | rfl | (simp [List.append_nil, encT, slR, slB, slI]; done) | (simp [List.append_nil, encT, slR, slB, slI]; rfl)) (by simp [wk, putT, kp, dd, sv, nl]) (by simp [List.length_append]) (by simp [bel_ints, bel_bools, bel_rows, bel_slI, bel_slR, bel_slB, bel_encT, kp, dd, sv, nl]) (by simp [bel_ints, bel_bools, bel_rows, bel_slI, bel_slR, bel_slB, bel_encT])
  · intro i hi
    obtain ⟨hi, hp⟩ := hi
    by_cases hlt : i < next.length
    · have hr := chk_rest hlt hp
      by_cases hb : next[i].length = r0.length
      · have hp2 := hr.2 (by simp [hb])
        simp (maxSteps := 2000000) -implicitDefEqProofs +contextual (disch := first | assumption | omega | decide +kernel) only [push_cast, ↓capI, br2_true, br2_false, frk_tt, frk_tf, frk_f, frkD_tt, frkD_tf, frkD_f, pk2_true, pk2_false, imp_true, seval, Nat.reduceLeDiff, Nat.reduceEqDiff, reduceCtorEq, ↓reduceIte, cfg0, ones_ints, ones_bools, getV_map, getV_mapO, List.length_map, Nat.mul_one, slI, slR, slB, encT, hlt, h00, hg0, hb]
        refine ⟨(i + 1), ⟨by omega, hp2⟩, by (try simp only); omega, ?_⟩; exact Gn.canon (by first | rfl | (simp [List.append_nil, encT, slR, slB, slI]; rfl)) (by simp [wk]) (by simp [List.length_append]) (by simp [bel_ints, bel_bools, bel_rows, bel_slI, bel_slR, bel_slB, bel_encT]) (by simp [bel_ints, bel_bools, bel_rows, bel_slI, bel_slR, bel_slB, bel_encT])
      · have hp2 := hr.1 (by simp [hb])
        rw [if_pos hp2]
        simp (maxSteps := 2000000) -implicitDefEqProofs +contextual (disch := first | assumption | omega | decide +kernel) only [push_cast, ↓capI, br2_true, br2_false, frk_tt, frk_tf, frk_f, frkD_tt, frkD_tf, frkD_f, pk2_true, pk2_false, imp_true, seval, Nat.reduceLeDiff, Nat.reduceEqDiff, reduceCtorEq, ↓reduceIte, cfg0, ones_ints, ones_bools, getV_map, getV_mapO, List.length_map, Nat.mul_one, slI, slR, slB, encT, hlt, h00, hg0, hb]
        refine endK.ret ?_ (by first | rfl | simp [bel_ints, bel_bools, bel_rows, bel_slI, bel_slR, bel_slB, bel_encT]); simp [evRes, getT, retV, Try.f20]
    · have hin : i = next.length := by omega
      rw [hin, List.take_length] at hp
      rw [if_neg (by rw [hp]; decide)]
      have hall : ∀ (k : Nat) (h : k < next.length), next[k].length = r0.length := fun k h => by
        have := List.any_eq_false.1 hp _ (List.getElem_mem h)
        simpa using this
      simp (maxSteps := 2000000) -implicitDefEqProofs +contextual (disch := first | assumption | omega | decide +kernel) only [push_cast, ↓capI, br2_true, br2_false, frk_tt, frk_tf, frk_f, frkD_tt, frkD_tf, frkD_f, pk2_true, pk2_false, imp_true, seval, Nat.reduceLeDiff, Nat.reduceEqDiff, reduceCtorEq, ↓reduceIte, cfg0, ones_ints, ones_bools, getV_map, getV_mapO, List.length_map, Nat.mul_one, slI, slR, slB, encT, hlt]
      refine T.lp tok mixed cfg0 (fun ((i : Nat)) => dd 1 (kp 1 (dd 58 (kp 2 (sv (.int .i64 (i : Int)) (dd 20 (nl))))))) (fun H0 ((i : Nat)) => H0) (fun ((i : Nat)) => i ≤ next.length ∧ (next.take i).any (rowBad next.length) = false) (fun ((i : Nat)) => next.length - i) (0) ?_ ?_ ?_
      · exact ⟨by omega, rfl⟩
      · exact Gn.canon (J := _) (by first | rfl | (simp [List.append_nil, encT, slR, slB, slI]; done) | (simp [List.append_nil, encT, slR, slB, slI]; rfl)) (by simp [wk, putT, kp, dd, sv, nl]) (by simp [List.length_append]) (by simp [bel_ints, bel_bools, bel_rows, bel_slI, bel_slR, bel_slB, bel_encT, kp, dd, sv, nl]) (by simp [bel_ints, bel_bools, bel_rows, bel_slI, bel_slR, bel_slB, bel_encT])
      · intro i hi
        obtain ⟨hi, hp⟩ := hi
        by_cases hlt : i < next.length
        · have hr := chk_rest hlt hp
          have hrl := hall i hlt
          simp (maxSteps := 2000000) -implicitDefEqProofs +contextual (disch := first | assumption | omega | decide +kernel) only [push_cast, ↓capI, br2_true, br2_false, frk_tt, frk_tf, frk_f, frkD_tt, frkD_tf, frkD_f, pk2_true, pk2_false, imp_true, seval, Nat.reduceLeDiff, Nat.reduceEqDiff, reduceCtorEq, ↓reduceIte, cfg0, ones_ints, ones_bools, getV_map, getV_mapO, List.length_map, Nat.mul_one, slI, slR, slB, encT, hlt]
          refine T.lp tok mixed cfg0 (fun ((j : Nat)) => dd 1 (kp 1 (dd 58 (kp 3 (dd 3 (kp 2 (sv (.int .i64 (j : Int)) (dd 14 (nl))))))))) (fun H0 ((j : Nat)) => H0) (fun ((j : Nat)) => j ≤ next[i].length ∧ (next[i].take j).any (fun x => decide (x < -1) || decide ((next.length : Int) ≤ x)) = false) (fun ((j : Nat)) => next[i].length - j) (0) ?_ ?_ ?_
          · exact ⟨by omega, rfl⟩
          · exact Gn.canon (J := _) (by first | rfl | (simp [List.append_nil, encT, slR, slB, slI]; done) | (simp [List.append_nil, encT, slR, slB, slI]; rfl)) (by simp [wk, putT, kp, dd, sv, nl]) (by simp [List.length_append]) (by simp [bel_ints, bel_bools, bel_rows, bel_slI, bel_slR, bel_slB, bel_encT, kp, dd, sv, nl]) (by simp [bel_ints, bel_bools, bel_rows, bel_slI, bel_slR, bel_slB, bel_encT])
          · intro j hj
            obtain ⟨hj, hq⟩ := hj
            by_cases hjl : j < next[i].length
            · have hr2 := chk_rest hjl hq
              by_cases hb1 : next[i][j] < -1
              · have hp2 := hr.1 (hr2.1 (by simp [hb1]))
                rw [if_pos hp2]
                simp (maxSteps := 2000000) -implicitDefEqProofs +contextual (disch := first | assumption | omega | decide +kernel) only [push_cast, ↓capI, br2_true, br2_false, frk_tt, frk_tf, frk_f, frkD_tt, frkD_tf, frkD_f, pk2_true, pk2_false, imp_true, seval, Nat.reduceLeDiff, Nat.reduceEqDiff, reduceCtorEq, ↓reduceIte, cfg0, ones_ints, ones_bools, getV_map, getV_mapO, List.length_map, Nat.mul_one, slI, slR, slB, encT, hjl, hb1]
                refine endK.ret ?_ (by first | rfl | simp [bel_ints, bel_bools, bel_rows, bel_slI, bel_slR, bel_slB, bel_encT]); simp [evRes, getT, retV, Try.f20]
              · by_cases hb2 : (next.length : Int) ≤ next[i][j]
                · have hp2 := hr.1 (hr2.1 (by simp [hb2]))
                  rw [if_pos hp2]
                  simp (maxSteps := 2000000) -implicitDefEqProofs +contextual (disch := first | assumption | omega | decide +kernel) only [push_cast, ↓capI, br2_true, br2_false, frk_tt, frk_tf, frk_f, frkD_tt, frkD_tf, frkD_f, pk2_true, pk2_false, imp_true, seval, Nat.reduceLeDiff, Nat.reduceEqDiff, reduceCtorEq, ↓reduceIte, cfg0, ones_ints, ones_bools, getV_map, getV_mapO, List.length_map, Nat.mul_one, slI, slR, slB, encT, hjl, hb1, hb2]
                  refine endK.ret ?_ (by first | rfl | simp [bel_ints, bel_bools, bel_rows, bel_slI, bel_slR, bel_slB, bel_encT]); simp [evRes, getT, retV, Try.f20]
                · have hp2 := hr2.2 (by simp [hb1, hb2])
                  simp (maxSteps := 2000000) -implicitDefEqProofs +contextual (disch := first | assumption | omega | decide +kernel) only [push_cast, ↓capI, br2_true, br2_false, frk_tt, frk_tf, frk_f, frkD_tt, frkD_tf, frkD_f, pk2_true, pk2_false, imp_true, seval, Nat.reduceLeDiff, Nat.reduceEqDiff, reduceCtorEq, ↓reduceIte, cfg0, ones_ints, ones_bools, getV_map, getV_mapO, List.length_map, Nat.mul_one, slI, slR, slB, encT, hjl, hb1, hb2]
                  refine ⟨(j + 1), ⟨by omega, hp2⟩, by (try simp only); omega, ?_⟩; exact Gn.canon (by first | rfl | (simp [List.append_nil, encT, slR, slB, slI]; rfl)) (by simp [wk]) (by simp [List.length_append]) (by simp [bel_ints, bel_bools, bel_rows, bel_slI, bel_slR, bel_slB, bel_encT]) (by simp [bel_ints, bel_bools, bel_rows, bel_slI, bel_slR, bel_slB, bel_encT])
            · have hjn : j = next[i].length := by omega
              rw [hjn, List.take_length] at hq
              have hp2 := hr.2 hq
              simp (maxSteps := 2000000) -implicitDefEqProofs +contextual (disch := first | assumption | omega | decide +kernel) only [push_cast, ↓capI, br2_true, br2_false, frk_tt, frk_tf, frk_f, frkD_tt, frkD_tf, frkD_f, pk2_true, pk2_false, imp_true, seval, Nat.reduceLeDiff, Nat.reduceEqDiff, reduceCtorEq, ↓reduceIte, cfg0, ones_ints, ones_bools, getV_map, getV_mapO, List.length_map, Nat.mul_one, slI, slR, slB, encT, hjl]
              refine ⟨(i + 1), ⟨by omega, hp2⟩, by (try simp only); omega, ?_⟩; exact Gn.canon (by first | rfl | (simp [List.append_nil, encT, slR, slB, slI]; rfl)) (by simp [wk]) (by simp [List.length_append]) (by simp [bel_ints, bel_bools, bel_rows, bel_slI, bel_slR, bel_slB, bel_encT]) (by simp [bel_ints, bel_bools, bel_rows, bel_slI, bel_slR, bel_slB, bel_encT])
        · have hin : i = next.length := by omega
          rw [hin, List.take_length] at hp
          rw [if_neg (by rw [hp]; decide)]
          simp (maxSteps := 2000000) -implicitDefEqProofs +contextual (disch := first | assumption | omega | decide +kernel) only [push_cast, ↓capI, br2_true, br2_false, frk_tt, frk_tf, frk_f, frkD_tt, frkD_tf, frkD_f, pk2_true, pk2_false, imp_true, seval, Nat.reduceLeDiff, Nat.reduceEqDiff, reduceCtorEq, ↓reduceIte, cfg0, ones_ints, ones_bools, getV_map, getV_mapO, List.length_map, Nat.mul_one, slI, slR, slB, encT, hlt]
          refine endK.ret ?_ (by first | rfl | simp [bel_ints, bel_bools, bel_rows, bel_slI, bel_slR, bel_slB, bel_encT]); simp [evRes, getT, retV, Try.f20]
end Go.Proofs.Ytkjffppioddnpaa

/- Chapter 42: automata checked by the reference; automata run by both. -/
set_option maxRecDepth 100000
set_option maxHeartbeats 4000000
set_option linter.all false
namespace Go.Proofs.Ytkjffppioddnpaa
open Go.Vm
def suc (t : Tb) (q s : Int) : Int := if q < 0 ∨ s < 0 ∨ ((t.next.getD q.toNat []).length : Int) ≤ s then -1 else gI (t.next.getD q.toNat []) s
def runA (t : Tb) (q : Int) (l : List Int) : Int := l.foldl (suc t) q
def accq (t : Tb) (q : Int) : Bool := decide (0 ≤ q) && gB t.acc q
def accA (t : Tb) (l : List Int) : Bool := decide (chkT t = 0) && accq t (runA t 0 l)
theorem suc_rng {n m : Nat} {t : Tb} (ht : okT n m t) {q s : Int} (hq : -1 ≤ q ∧ q < (n : Int)) : -1 ≤ suc t q s ∧ suc t q s < (n : Int) := by
  unfold suc
  split
  · have := ht.pos; omega
  · rename_i h
    have hl := ht.rows
    have hqn : q.toNat < t.next.length := by omega
    have hg : t.next.getD q.toNat [] = t.next[q.toNat] := lgetD hqn
    rw [hg] at h ⊢
    have hs : s.toNat < t.next[q.toNat].length := by omega
    have hgs : gI t.next[q.toNat] s = t.next[q.toNat][s.toNat] := lgetD hs
    rw [hgs]
    exact ht.rng _ (List.getElem_mem hqn) _ (List.getElem_mem hs)
theorem run_rng {n m : Nat} {t : Tb} (ht : okT n m t) : ∀ (l : List Int) (q : Int), -1 ≤ q ∧ q < (n : Int) → -1 ≤ runA t q l ∧ runA t q l < (n : Int)
  | [], q, h => h
  | s :: l, q, h => run_rng ht l _ (suc_rng ht h)
theorem pcSuc (f : Nat) (hf : f = 30 ∨ f = 35) {t : Tb} {q s : Int} (hq : q < (t.next.length : Int)) : PC Try.prog f [.agg (encT t), .int .i64 q, .int .i64 s] (.int .i64 (suc t q s)) := by
  obtain ⟨next, acc⟩ := t
  simp only at hq
  unfold suc
  by_cases h1 : q < 0
  · rw [if_pos (.inl h1)]
    rcases hf with h | h <;> subst h
    · refine PC.walk tok mixed cfg0 Try.func30 rfl Try.call30 (by simp [bel_ints, bel_bools, bel_rows, bel_slI, bel_slR, bel_slB, bel_encT]) (by first | rfl | simp [bel_ints, bel_bools, bel_rows, bel_slI, bel_slR, bel_slB, bel_encT]) ?_; simp (maxSteps := 2000000) -implicitDefEqProofs +contextual (disch := first | assumption | omega | decide +kernel) only [push_cast, ↓capI, br2_true, br2_false, frk_tt, frk_tf, frk_f, frkD_tt, frkD_tf, frkD_f, pk2_true, pk2_false, imp_true, seval, Nat.reduceLeDiff, Nat.reduceEqDiff, reduceCtorEq, ↓reduceIte, cfg0, ones_ints, ones_bools, getV_map, getV_mapO, List.length_map, Nat.mul_one, slI, slR, slB, encT, Try.ntmps30]
      refine endK.ret ?_ (by first | rfl | simp [bel_ints, bel_bools, bel_rows, bel_slI, bel_slR, bel_slB, bel_encT]); simp [evRes, getT, retV, Try.f30]
    · refine PC.walk tok mixed cfg0 Try.func35 rfl Try.call35 (by simp [bel_ints, bel_bools, bel_rows, bel_slI, bel_slR, bel_slB, bel_encT]) (by first | rfl | simp [bel_ints, bel_bools, bel_rows, bel_slI, bel_slR, bel_slB, bel_encT]) ?_; simp (maxSteps := 2000000) -implicitDefEqProofs +contextual (disch := first | assumption | omega | decide +kernel) only [push_cast, ↓capI, br2_true, br2_false, frk_tt, frk_tf, frk_f, frkD_tt, frkD_tf, frkD_f, pk2_true, pk2_false, imp_true, seval, Nat.reduceLeDiff, Nat.reduceEqDiff, reduceCtorEq, ↓reduceIte, cfg0, ones_ints, ones_bools, getV_map, getV_mapO, List.length_map, Nat.mul_one, slI, slR, slB, encT, Try.ntmps35]
      refine endK.ret ?_ (by first | rfl | simp [bel_ints, bel_bools, bel_rows, bel_slI, bel_slR, bel_slB, bel_encT]); simp [evRes, getT, retV, Try.f35]
  by_cases h2 : s < 0
  · rw [if_pos (.inr (.inl h2))]
    rcases hf with h | h <;> subst h
    · refine PC.walk tok mixed cfg0 Try.func30 rfl Try.call30 (by simp [bel_ints, bel_bools, bel_rows, bel_slI, bel_slR, bel_slB, bel_encT]) (by first | rfl | simp [bel_ints, bel_bools, bel_rows, bel_slI, bel_slR, bel_slB, bel_encT]) ?_; simp (maxSteps := 2000000) -implicitDefEqProofs +contextual (disch := first | assumption | omega | decide +kernel) only [push_cast, ↓capI, br2_true, br2_false, frk_tt, frk_tf, frk_f, frkD_tt, frkD_tf, frkD_f, pk2_true, pk2_false, imp_true, seval, Nat.reduceLeDiff, Nat.reduceEqDiff, reduceCtorEq, ↓reduceIte, cfg0, ones_ints, ones_bools, getV_map, getV_mapO, List.length_map, Nat.mul_one, slI, slR, slB, encT, Try.ntmps30]
      refine endK.ret ?_ (by first | rfl | simp [bel_ints, bel_bools, bel_rows, bel_slI, bel_slR, bel_slB, bel_encT]); simp [evRes, getT, retV, Try.f30]
    · refine PC.walk tok mixed cfg0 Try.func35 rfl Try.call35 (by simp [bel_ints, bel_bools, bel_rows, bel_slI, bel_slR, bel_slB, bel_encT]) (by first | rfl | simp [bel_ints, bel_bools, bel_rows, bel_slI, bel_slR, bel_slB, bel_encT]) ?_; simp (maxSteps := 2000000) -implicitDefEqProofs +contextual (disch := first | assumption | omega | decide +kernel) only [push_cast, ↓capI, br2_true, br2_false, frk_tt, frk_tf, frk_f, frkD_tt, frkD_tf, frkD_f, pk2_true, pk2_false, imp_true, seval, Nat.reduceLeDiff, Nat.reduceEqDiff, reduceCtorEq, ↓reduceIte, cfg0, ones_ints, ones_bools, getV_map, getV_mapO, List.length_map, Nat.mul_one, slI, slR, slB, encT, Try.ntmps35]
      refine endK.ret ?_ (by first | rfl | simp [bel_ints, bel_bools, bel_rows, bel_slI, bel_slR, bel_slB, bel_encT]); simp [evRes, getT, retV, Try.f35]
  obtain ⟨k, rfl⟩ : ∃ k : Nat, q = (k : Int) := ⟨q.toNat, by omega⟩
  obtain ⟨j, rfl⟩ : ∃ j : Nat, s = (j : Int) := ⟨s.toNat, by omega⟩
  have hk : k < next.length := by omega
  have hg : next.getD (k : Int).toNat [] = next[k] := by rw [Int.toNat_natCast]; exact lgetD hk
  simp only [hg]
  by_cases h3 : (next[k].length : Int) ≤ (j : Int)
  · rw [if_pos (.inr (.inr h3))]
    rcases hf with h | h <;> subst h
    · refine PC.walk tok mixed cfg0 Try.func30 rfl Try.call30 (by simp [bel_ints, bel_bools, bel_rows, bel_slI, bel_slR, bel_slB, bel_encT]) (by first | rfl | simp [bel_ints, bel_bools, bel_rows, bel_slI, bel_slR, bel_slB, bel_encT]) ?_; simp (maxSteps := 2000000) -implicitDefEqProofs +contextual (disch := first | assumption | omega | decide +kernel) only [push_cast, ↓capI, br2_true, br2_false, frk_tt, frk_tf, frk_f, frkD_tt, frkD_tf, frkD_f, pk2_true, pk2_false, imp_true, seval, Nat.reduceLeDiff, Nat.reduceEqDiff, reduceCtorEq, ↓reduceIte, cfg0, ones_ints, ones_bools, getV_map, getV_mapO, List.length_map, Nat.mul_one, slI, slR, slB, encT, Try.ntmps30]
      (try simp (maxSteps := 2000000) -implicitDefEqProofs +contextual (disch := first | assumption | omega | decide +kernel) only [push_cast, ↓capI, br2_true, br2_false, frk_tt, frk_tf, frk_f, frkD_tt, frkD_tf, frkD_f, pk2_true, pk2_false, imp_true, seval, Nat.reduceLeDiff, Nat.reduceEqDiff, reduceCtorEq, ↓reduceIte, cfg0, ones_ints, ones_bools, getV_map, getV_mapO, List.length_map, Nat.mul_one, slI, slR, slB, encT, hk, h3])
      refine endK.ret ?_ (by first | rfl | simp [bel_ints, bel_bools, bel_rows, bel_slI, bel_slR, bel_slB, bel_encT]); simp [evRes, getT, retV, Try.f30]
    · refine PC.walk tok mixed cfg0 Try.func35 rfl Try.call35 (by simp [bel_ints, bel_bools, bel_rows, bel_slI, bel_slR, bel_slB, bel_encT]) (by first | rfl | simp [bel_ints, bel_bools, bel_rows, bel_slI, bel_slR, bel_slB, bel_encT]) ?_; simp (maxSteps := 2000000) -implicitDefEqProofs +contextual (disch := first | assumption | omega | decide +kernel) only [push_cast, ↓capI, br2_true, br2_false, frk_tt, frk_tf, frk_f, frkD_tt, frkD_tf, frkD_f, pk2_true, pk2_false, imp_true, seval, Nat.reduceLeDiff, Nat.reduceEqDiff, reduceCtorEq, ↓reduceIte, cfg0, ones_ints, ones_bools, getV_map, getV_mapO, List.length_map, Nat.mul_one, slI, slR, slB, encT, Try.ntmps35]
      (try simp (maxSteps := 2000000) -implicitDefEqProofs +contextual (disch := first | assumption | omega | decide +kernel) only [push_cast, ↓capI, br2_true, br2_false, frk_tt, frk_tf, frk_f, frkD_tt, frkD_tf, frkD_f, pk2_true, pk2_false, imp_true, seval, Nat.reduceLeDiff, Nat.reduceEqDiff, reduceCtorEq, ↓reduceIte, cfg0, ones_ints, ones_bools, getV_map, getV_mapO, List.length_map, Nat.mul_one, slI, slR, slB, encT, hk, h3])
      refine endK.ret ?_ (by first | rfl | simp [bel_ints, bel_bools, bel_rows, bel_slI, bel_slR, bel_slB, bel_encT]); simp [evRes, getT, retV, Try.f35]
  · rw [if_neg (by omega)]
    have hj : j < next[k].length := by omega
    have hgj : gI next[k] (j : Int) = next[k][j] := by rw [gI, Int.toNat_natCast]; exact lgetD hj
    rw [hgj]
    rcases hf with h | h <;> subst h
    · refine PC.walk tok mixed cfg0 Try.func30 rfl Try.call30 (by simp [bel_ints, bel_bools, bel_rows, bel_slI, bel_slR, bel_slB, bel_encT]) (by first | rfl | simp [bel_ints, bel_bools, bel_rows, bel_slI, bel_slR, bel_slB, bel_encT]) ?_; simp (maxSteps := 2000000) -implicitDefEqProofs +contextual (disch := first | assumption | omega | decide +kernel) only [push_cast, ↓capI, br2_true, br2_false, frk_tt, frk_tf, frk_f, frkD_tt, frkD_tf, frkD_f, pk2_true, pk2_false, imp_true, seval, Nat.reduceLeDiff, Nat.reduceEqDiff, reduceCtorEq, ↓reduceIte, cfg0, ones_ints, ones_bools, getV_map, getV_mapO, List.length_map, Nat.mul_one, slI, slR, slB, encT, Try.ntmps30]
      (try simp (maxSteps := 2000000) -implicitDefEqProofs +contextual (disch := first | assumption | omega | decide +kernel) only [push_cast, ↓capI, br2_true, br2_false, frk_tt, frk_tf, frk_f, frkD_tt, frkD_tf, frkD_f, pk2_true, pk2_false, imp_true, seval, Nat.reduceLeDiff, Nat.reduceEqDiff, reduceCtorEq, ↓reduceIte, cfg0, ones_ints, ones_bools, getV_map, getV_mapO, List.length_map, Nat.mul_one, slI, slR, slB, encT, hk, h3, hj])
      refine endK.ret ?_ (by first | rfl | simp [bel_ints, bel_bools, bel_rows, bel_slI, bel_slR, bel_slB, bel_encT]); simp [evRes, getT, retV, Try.f30]
    · refine PC.walk tok mixed cfg0 Try.func35 rfl Try.call35 (by simp [bel_ints, bel_bools, bel_rows, bel_slI, bel_slR, bel_slB, bel_encT]) (by first | rfl | simp [bel_ints, bel_bools, bel_rows, bel_slI, bel_slR, bel_slB, bel_encT]) ?_; simp (maxSteps := 2000000) -implicitDefEqProofs +contextual (disch := first | assumption | omega | decide +kernel) only [push_cast, ↓capI, br2_true, br2_false, frk_tt, frk_tf, frk_f, frkD_tt, frkD_tf, frkD_f, pk2_true, pk2_false, imp_true, seval, Nat.reduceLeDiff, Nat.reduceEqDiff, reduceCtorEq, ↓reduceIte, cfg0, ones_ints, ones_bools, getV_map, getV_mapO, List.length_map, Nat.mul_one, slI, slR, slB, encT, Try.ntmps35]
      (try simp (maxSteps := 2000000) -implicitDefEqProofs +contextual (disch := first | assumption | omega | decide +kernel) only [push_cast, ↓capI, br2_true, br2_false, frk_tt, frk_tf, frk_f, frkD_tt, frkD_tf, frkD_f, pk2_true, pk2_false, imp_true, seval, Nat.reduceLeDiff, Nat.reduceEqDiff, reduceCtorEq, ↓reduceIte, cfg0, ones_ints, ones_bools, getV_map, getV_mapO, List.length_map, Nat.mul_one, slI, slR, slB, encT, hk, h3, hj])
      refine endK.ret ?_ (by first | rfl | simp [bel_ints, bel_bools, bel_rows, bel_slI, bel_slR, bel_slB, bel_encT]); simp [evRes, getT, retV, Try.f35]
end Go.Proofs.Ytkjffppioddnpaa

/- Chapter 42: the live states, by the program. -/
set_option maxRecDepth 100000
set_option maxHeartbeats 4000000
set_option linter.all false
namespace Go.Proofs.Ytkjffppioddnpaa
open Go.Vm
theorem liveN0 {t : Tb} {o : List Bool} : liveN t o 0 = (o, false) := rfl
theorem take_bools {l : List Bool} : List.take l.length (l.map V.bool) = l.map V.bool := List.take_of_length_le (by simp)
def cfgC : Cfg := { lv := [5], ef := [], ord := [], em := [] }
theorem pcj60 {l : List Bool} (h : 0 < l.length) (hl : l.length ≤ 2 ^ 30) : PCJ Try.prog 60 [slB l] (.buf 0 1 0 l.length 1) [.cells 1 (l.map .bool)] := by
  have h0 : ¬ l.length = 0 := by omega
  refine PCJ.walk tok mixed  cfgC Try.func60 rfl Try.call60 (by simp [bel_ints, bel_bools, bel_rows, bel_slI, bel_slR, bel_slB, bel_encT]) ?_; simp (maxSteps := 2000000) -implicitDefEqProofs +contextual (disch := first | assumption | omega | decide +kernel) only [push_cast, ↓capI, br2_true, br2_false, frk_tt, frk_tf, frk_f, frkD_tt, frkD_tf, frkD_f, pk2_true, pk2_false, imp_true, seval, Nat.reduceLeDiff, Nat.reduceEqDiff, reduceCtorEq, ↓reduceIte, cfg0, ones_ints, ones_bools, getV_map, getV_mapO, List.length_map, Nat.mul_one, slI, slR, slB, encT, Try.ntmps60,  cfgC]
  simp (maxSteps := 2000000) -implicitDefEqProofs +contextual (disch := first | assumption | omega | decide +kernel) only [push_cast, ↓capI, br2_true, br2_false, frk_tt, frk_tf, frk_f, frkD_tt, frkD_tf, frkD_f, pk2_true, pk2_false, imp_true, seval, Nat.reduceLeDiff, Nat.reduceEqDiff, reduceCtorEq, ↓reduceIte, cfg0, ones_ints, ones_bools, getV_map, getV_mapO, List.length_map, Nat.mul_one, slI, slR, slB, encT, take_bools]
  refine endJ.ret ([]) (by simp [bel_ints, bel_bools, bel_rows, bel_slI, bel_slR, bel_slB, bel_encT, fzs_ok, getO, setO, fzs, fz, fzH, Nat.beq, cfg0, ones_ints, ones_bools, getV_map, getV_mapO, List.length_map, Nat.mul_one, slI, slR, slB, encT]) (by simp [bel_ints, bel_bools, bel_rows, bel_slI, bel_slR, bel_slB, bel_encT, fzs_ok, imp, lenOK_iff, List.take_of_length_le, evRes, getT, getO, setO, fzs, fz, fzH, Nat.beq, retV, Res.then, ldT, ldR, mkV, getV, cfg0, ones_ints, ones_bools, getV_map, getV_mapO, List.length_map, Nat.mul_one, slI, slR, slB, encT, Try.f60]) (by first | rfl | simp [bel_ints, bel_bools, bel_rows, bel_slI, bel_slR, bel_slB, bel_encT]) (by first | rfl | simp [bel_ints, bel_bools, bel_rows, bel_slI, bel_slR, bel_slB, bel_encT])
theorem pc62 {out : List Bool} {n : Int} (hn : n < (out.length : Int)) : PC Try.prog 62 [.int .i64 n, .fp [slB out]] (.bool (decide (0 ≤ n) && gB out n)) := by
  by_cases h : 0 ≤ n
  · obtain ⟨k, rfl⟩ : ∃ k : Nat, n = k := ⟨n.toNat, by omega⟩
    have hk : k < out.length := by omega
    have hg : gB out (k : Int) = out[k] := by rw [gB, Int.toNat_natCast, List.getD_eq_getElem?_getD, List.getElem?_eq_getElem hk]; rfl
    rw [hg, decide_eq_true h]
    refine PC.walk tok mixed cfg0 Try.func62 rfl Try.call62 (by simp [bel_ints, bel_bools, bel_rows, bel_slI, bel_slR, bel_slB, bel_encT]) (by first | rfl | simp [bel_ints, bel_bools, bel_rows, bel_slI, bel_slR, bel_slB, bel_encT]) ?_; simp (maxSteps := 2000000) -implicitDefEqProofs +contextual (disch := first | assumption | omega | decide +kernel) only [push_cast, ↓capI, br2_true, br2_false, frk_tt, frk_tf, frk_f, frkD_tt, frkD_tf, frkD_f, pk2_true, pk2_false, imp_true, seval, Nat.reduceLeDiff, Nat.reduceEqDiff, reduceCtorEq, ↓reduceIte, cfg0, ones_ints, ones_bools, getV_map, getV_mapO, List.length_map, Nat.mul_one, slI, slR, slB, encT, Try.ntmps62]
    refine endK.ret ?_ (by first | rfl | simp [bel_ints, bel_bools, bel_rows, bel_slI, bel_slR, bel_slB, bel_encT]); simp [evRes, getT, retV, Try.f62]
  · rw [decide_eq_false h]
    refine PC.walk tok mixed cfg0 Try.func62 rfl Try.call62 (by simp [bel_ints, bel_bools, bel_rows, bel_slI, bel_slR, bel_slB, bel_encT]) (by first | rfl | simp [bel_ints, bel_bools, bel_rows, bel_slI, bel_slR, bel_slB, bel_encT]) ?_; simp (maxSteps := 2000000) -implicitDefEqProofs +contextual (disch := first | assumption | omega | decide +kernel) only [push_cast, ↓capI, br2_true, br2_false, frk_tt, frk_tf, frk_f, frkD_tt, frkD_tf, frkD_f, pk2_true, pk2_false, imp_true, seval, Nat.reduceLeDiff, Nat.reduceEqDiff, reduceCtorEq, ↓reduceIte, cfg0, ones_ints, ones_bools, getV_map, getV_mapO, List.length_map, Nat.mul_one, slI, slR, slB, encT, Try.ntmps62]
    refine endK.ret ?_ (by first | rfl | simp [bel_ints, bel_bools, bel_rows, bel_slI, bel_slR, bel_slB, bel_encT]); simp [evRes, getT, retV, Try.f62]
def idxP (out : List Bool) : Nat → List Int → Int
  | _, [] => -1
  | i, x :: r => if (decide (0 ≤ x) && gB out x) = true then (i : Int) else idxP out (i + 1) r
theorem idxP_ge (out : List Bool) : ∀ (r : List Int) (i : Nat), (decide (0 ≤ idxP out i r)) = toL out r
  | [], _ => rfl
  | x :: r, i => by
    rw [idxP, toL, List.any_cons]
    split
    · rename_i h
      rw [h, decide_eq_true (by omega)]; rfl
    · rename_i h
      rw [Bool.not_eq_true] at h
      rw [h, Bool.false_or]
      exact idxP_ge out r (i + 1)
theorem pc64 {out : List Bool} {row : List Int} (hr : ∀ x ∈ row, x < (out.length : Int)) (hl : row.length ≤ 1000) :
    PC Try.prog 64 [slI row, .fn (.func 62) [] [.fp [slB out]]] (.int .i64 (idxP out 0 row)) := by
  refine PC.walk tok mixed cfg0 Try.func64 rfl Try.call64 (by simp [bel_ints, bel_bools, bel_rows, bel_slI, bel_slR, bel_slB, bel_encT]) (by first | rfl | simp [bel_ints, bel_bools, bel_rows, bel_slI, bel_slR, bel_slB, bel_encT]) ?_; simp (maxSteps := 2000000) -implicitDefEqProofs +contextual (disch := first | assumption | omega | decide +kernel) only [push_cast, ↓capI, br2_true, br2_false, frk_tt, frk_tf, frk_f, frkD_tt, frkD_tf, frkD_f, pk2_true, pk2_false, imp_true, seval, Nat.reduceLeDiff, Nat.reduceEqDiff, reduceCtorEq, ↓reduceIte, cfg0, ones_ints, ones_bools, getV_map, getV_mapO, List.length_map, Nat.mul_one, slI, slR, slB, encT, Try.ntmps64]
  refine T.lp tok mixed cfg0 (fun ((i : Nat)) => kp 2 (dd 5 (kp 1 (sv (.int .i64 (i : Int)) (dd 10 (nl)))))) (fun H0 ((i : Nat)) => H0) (fun ((i : Nat)) => i ≤ row.length ∧ idxP out i (row.drop i) = idxP out 0 row) (fun ((i : Nat)) => row.length - i) (0) ?_ ?_ ?_
  · exact ⟨by omega, rfl⟩
  · exact Gn.canon (J := _) (by first | rfl | (simp [List.append_nil, encT, slR, slB, shs_ok, bel_bools, liveN0]; done) | (simp [List.append_nil, encT, slR, slB, shs_ok, bel_bools, liveN0]; rfl)) (by simp [wk, liveN0, putT, kp, dd, sv, nl]) (by simp [List.length_append]) (by simp [bel_ints, bel_bools, bel_rows, bel_slI, bel_slR, bel_slB, bel_encT, kp, dd, sv, nl]) (by simp [bel_ints, bel_bools, bel_rows, bel_slI, bel_slR, bel_slB, bel_encT])
  · intro i hi
    obtain ⟨hi, hx⟩ := hi
    by_cases hlt : i < row.length
    · have h62 := pc62 (hr row[i] (List.getElem_mem hlt))
      rw [List.drop_eq_getElem_cons hlt, idxP] at hx
      cases hb : (decide (0 ≤ row[i]) && gB out row[i]) with
      | true =>
        rw [hb] at h62 hx
        rw [if_pos rfl] at hx
        simp (maxSteps := 2000000) -implicitDefEqProofs +contextual (disch := first | assumption | omega | decide +kernel) only [push_cast, ↓capI, br2_true, br2_false, frk_tt, frk_tf, frk_f, frkD_tt, frkD_tf, frkD_f, pk2_true, pk2_false, imp_true, seval, Nat.reduceLeDiff, Nat.reduceEqDiff, reduceCtorEq, ↓reduceIte, cfg0, ones_ints, ones_bools, getV_map, getV_mapO, List.length_map, Nat.mul_one, slI, slR, slB, encT, hlt]
        refine callO.pc h62 ?_
        simp (maxSteps := 2000000) -implicitDefEqProofs +contextual (disch := first | assumption | omega | decide +kernel) only [push_cast, ↓capI, br2_true, br2_false, frk_tt, frk_tf, frk_f, frkD_tt, frkD_tf, frkD_f, pk2_true, pk2_false, imp_true, seval, Nat.reduceLeDiff, Nat.reduceEqDiff, reduceCtorEq, ↓reduceIte, cfg0, ones_ints, ones_bools, getV_map, getV_mapO, List.length_map, Nat.mul_one, slI, slR, slB, encT]
        refine endK.ret ?_ (by first | rfl | simp [bel_ints, bel_bools, bel_rows, bel_slI, bel_slR, bel_slB, bel_encT]); simp [evRes, getT, retV, Try.f64,  hx]
      | false =>
        rw [hb] at h62 hx
        rw [if_neg (by decide)] at hx
        simp (maxSteps := 2000000) -implicitDefEqProofs +contextual (disch := first | assumption | omega | decide +kernel) only [push_cast, ↓capI, br2_true, br2_false, frk_tt, frk_tf, frk_f, frkD_tt, frkD_tf, frkD_f, pk2_true, pk2_false, imp_true, seval, Nat.reduceLeDiff, Nat.reduceEqDiff, reduceCtorEq, ↓reduceIte, cfg0, ones_ints, ones_bools, getV_map, getV_mapO, List.length_map, Nat.mul_one, slI, slR, slB, encT, hlt]
        refine callO.pc h62 ?_
        simp (maxSteps := 2000000) -implicitDefEqProofs +contextual (disch := first | assumption | omega | decide +kernel) only [push_cast, ↓capI, br2_true, br2_false, frk_tt, frk_tf, frk_f, frkD_tt, frkD_tf, frkD_f, pk2_true, pk2_false, imp_true, seval, Nat.reduceLeDiff, Nat.reduceEqDiff, reduceCtorEq, ↓reduceIte, cfg0, ones_ints, ones_bools, getV_map, getV_mapO, List.length_map, Nat.mul_one, slI, slR, slB, encT]
        refine ⟨(i + 1), ⟨by omega, hx⟩, by (try simp only); omega, ?_⟩; exact Gn.canon (by first | rfl | (simp [List.append_nil, encT, slR, slB, shs_ok, bel_bools, liveN0]; rfl)) (by simp [wk, liveN0]) (by simp [List.length_append]) (by simp [bel_ints, bel_bools, bel_rows, bel_slI, bel_slR, bel_slB, bel_encT]) (by simp [bel_ints, bel_bools, bel_rows, bel_slI, bel_slR, bel_slB, bel_encT])
    · have h64 : i = row.length := by omega
      subst h64
      rw [List.drop_eq_nil_of_le (Nat.le_refl _), idxP] at hx
      simp (maxSteps := 2000000) -implicitDefEqProofs +contextual (disch := first | assumption | omega | decide +kernel) only [push_cast, ↓capI, br2_true, br2_false, frk_tt, frk_tf, frk_f, frkD_tt, frkD_tf, frkD_f, pk2_true, pk2_false, imp_true, seval, Nat.reduceLeDiff, Nat.reduceEqDiff, reduceCtorEq, ↓reduceIte, cfg0, ones_ints, ones_bools, getV_map, getV_mapO, List.length_map, Nat.mul_one, slI, slR, slB, encT, hlt]
      refine endK.ret ?_ (by first | rfl | simp [bel_ints, bel_bools, bel_rows, bel_slI, bel_slR, bel_slB, bel_encT]); simp [evRes, getT, retV, Try.f64,  hx]
theorem pc61 {out : List Bool} {row : List Int} (hr : ∀ x ∈ row, x < (out.length : Int)) (hl : row.length ≤ 1000) :
    PC Try.prog 61 [slI row, .fn (.func 62) [] [.fp [slB out]]] (.bool (toL out row)) := by
  have h64 := pc64 hr hl
  rw [← idxP_ge out row 0]
  refine PC.walk tok mixed cfg0 Try.func61 rfl Try.call61 (by simp [bel_ints, bel_bools, bel_rows, bel_slI, bel_slR, bel_slB, bel_encT]) (by first | rfl | simp [bel_ints, bel_bools, bel_rows, bel_slI, bel_slR, bel_slB, bel_encT]) ?_; simp (maxSteps := 2000000) -implicitDefEqProofs +contextual (disch := first | assumption | omega | decide +kernel) only [push_cast, ↓capI, br2_true, br2_false, frk_tt, frk_tf, frk_f, frkD_tt, frkD_tf, frkD_f, pk2_true, pk2_false, imp_true, seval, Nat.reduceLeDiff, Nat.reduceEqDiff, reduceCtorEq, ↓reduceIte, cfg0, ones_ints, ones_bools, getV_map, getV_mapO, List.length_map, Nat.mul_one, slI, slR, slB, encT, Try.ntmps61]
  refine callO.pc h64 ?_
  simp (maxSteps := 2000000) -implicitDefEqProofs +contextual (disch := first | assumption | omega | decide +kernel) only [push_cast, ↓capI, br2_true, br2_false, frk_tt, frk_tf, frk_f, frkD_tt, frkD_tf, frkD_f, pk2_true, pk2_false, imp_true, seval, Nat.reduceLeDiff, Nat.reduceEqDiff, reduceCtorEq, ↓reduceIte, cfg0, ones_ints, ones_bools, getV_map, getV_mapO, List.length_map, Nat.mul_one, slI, slR, slB, encT]
  refine endK.ret ?_ (by first | rfl | simp [bel_ints, bel_bools, bel_rows, bel_slI, bel_slR, bel_slB, bel_encT]); simp [evRes, getT, retV, Try.f61]
theorem set_bools {o : List Bool} {q : Nat} (h : q < o.length) : putV (o.map V.bool) q [.bool true] = (o.set q true).map V.bool := put_map _ _ h
theorem pc52 {n m : Nat} {t : Tb} (ht : okT n m t) : PC Try.prog 52 [.agg (encT t)] (slB (liveS t)) := by
  obtain ⟨next, acc⟩ := t
  have h60 := pcj60 (l := acc) (by have := ht.accs; have := ht.pos; simp only at *; omega) (by have := ht.accs; have := ht.big; simp only at *; omega)
  have hn1 := ht.rows
  have hn2 := ht.accs
  have hpos := ht.pos
  have hbig := ht.big
  simp only at hn1 hn2
  refine PC.walk tok mixed cfg0 Try.func52 rfl Try.call52 (by simp [bel_ints, bel_bools, bel_rows, bel_slI, bel_slR, bel_slB, bel_encT]) (by first | rfl | simp [bel_ints, bel_bools, bel_rows, bel_slI, bel_slR, bel_slB, bel_encT]) ?_; simp (maxSteps := 2000000) -implicitDefEqProofs +contextual (disch := first | assumption | omega | decide +kernel) only [push_cast, ↓capI, br2_true, br2_false, frk_tt, frk_tf, frk_f, frkD_tt, frkD_tf, frkD_f, pk2_true, pk2_false, imp_true, seval, Nat.reduceLeDiff, Nat.reduceEqDiff, reduceCtorEq, ↓reduceIte, cfg0, ones_ints, ones_bools, getV_map, getV_mapO, List.length_map, Nat.mul_one, slI, slR, slB, encT, Try.ntmps52]
  refine callO.pcj h60 ?_
  simp (maxSteps := 2000000) -implicitDefEqProofs +contextual (disch := first | assumption | omega | decide +kernel) only [push_cast, ↓capI, br2_true, br2_false, frk_tt, frk_tf, frk_f, frkD_tt, frkD_tf, frkD_f, pk2_true, pk2_false, imp_true, seval, Nat.reduceLeDiff, Nat.reduceEqDiff, reduceCtorEq, ↓reduceIte, cfg0, ones_ints, ones_bools, getV_map, getV_mapO, List.length_map, Nat.mul_one, slI, slR, slB, encT]
  refine T.lp tok mixed cfg0 (fun ((s : List Bool × Bool)) => dd 1 (kp 1 (dd 1 (kp 1 (sv (.bool s.2) (dd 29 (nl))))))) (fun H0 ((s : List Bool × Bool)) => [.cells 0 (encT ⟨next, acc⟩), .cells 1 (s.1.map .bool), .cells 0 [.buf 1 1 0 acc.length 1]]) (fun ((s : List Bool × Bool)) => s.1.length = acc.length ∧ (s.2 = true → liveF ⟨next, acc⟩ (cntF s.1 + 1) s.1 = liveS ⟨next, acc⟩) ∧ (s.2 = false → s.1 = liveS ⟨next, acc⟩)) (fun ((s : List Bool × Bool)) => 2 * cntF s.1 + cond s.2 1 0) ((acc, true)) ?_ ?_ ?_
  · exact ⟨rfl, fun _ => rfl, fun h => by simp at h⟩
  · exact Gn.canon (J := _) (by first | rfl | (simp [List.append_nil, encT, slR, slB, shs_ok, bel_bools, liveN0]; done) | (simp [List.append_nil, encT, slR, slB, shs_ok, bel_bools, liveN0]; rfl)) (by simp [wk, liveN0, putT, kp, dd, sv, nl]) (by simp [List.length_append]) (by simp [bel_ints, bel_bools, bel_rows, bel_slI, bel_slR, bel_slB, bel_encT, kp, dd, sv, nl]) (by simp [bel_ints, bel_bools, bel_rows, bel_slI, bel_slR, bel_slB, bel_encT])
  · intro s hs
    obtain ⟨o, ch⟩ := s
    obtain ⟨hol, htr, hfa⟩ := hs
    simp only at hol htr hfa
    cases ch with
    | false =>
      have hfa := hfa rfl
      rw [← hfa]
      simp (maxSteps := 2000000) -implicitDefEqProofs +contextual (disch := first | assumption | omega | decide +kernel) only [push_cast, ↓capI, br2_true, br2_false, frk_tt, frk_tf, frk_f, frkD_tt, frkD_tf, frkD_f, pk2_true, pk2_false, imp_true, seval, Nat.reduceLeDiff, Nat.reduceEqDiff, reduceCtorEq, ↓reduceIte, cfg0, ones_ints, ones_bools, getV_map, getV_mapO, List.length_map, Nat.mul_one, slI, slR, slB, encT]
      have htk : List.take acc.length (o.map V.bool) = o.map V.bool := List.take_of_length_le (by simp; omega)
      refine endK.gn (Gn.freeze (id := 1) rfl) ?_; refine endK.ret ?_ (by first | rfl | simp [bel_ints, bel_bools, bel_rows, bel_slI, bel_slR, bel_slB, bel_encT]); simp [bel_ints, bel_bools, bel_rows, bel_slI, bel_slR, bel_slB, bel_encT, fzs_ok, imp, lenOK_iff, List.take_of_length_le, evRes, getT, getO, setO, fzs, fz, fzH, Nat.beq, retV, Res.then, ldT, ldR, mkV, getV, cfg0, ones_ints, ones_bools, getV_map, getV_mapO, List.length_map, Nat.mul_one, slI, slR, slB, encT, Try.f52,  slB, htk, hol]
    | true =>
      have htr := htr rfl
      have hstep := liveF_step ⟨next, acc⟩ (k := cntF o + 1) (o := o) (by simp only; omega) (by omega)
      rw [htr] at hstep
      simp (maxSteps := 2000000) -implicitDefEqProofs +contextual (disch := first | assumption | omega | decide +kernel) only [push_cast, ↓capI, br2_true, br2_false, frk_tt, frk_tf, frk_f, frkD_tt, frkD_tf, frkD_f, pk2_true, pk2_false, imp_true, seval, Nat.reduceLeDiff, Nat.reduceEqDiff, reduceCtorEq, ↓reduceIte, cfg0, ones_ints, ones_bools, getV_map, getV_mapO, List.length_map, Nat.mul_one, slI, slR, slB, encT]
      refine T.lp tok mixed cfg0 (fun ((q : Nat)) => dd 1 (kp 1 (dd 1 (kp 1 (sv (.bool (liveN ⟨next, acc⟩ o q).2) (dd 7 (kp 2 (sv (.int .i64 (q : Int)) (dd 19 (nl)))))))))) (fun H0 ((q : Nat)) => [.cells 0 (encT ⟨next, acc⟩), .cells 1 ((liveN ⟨next, acc⟩ o q).1.map .bool), .cells 0 [.buf 1 1 0 acc.length 1]]) (fun ((q : Nat)) => q ≤ next.length) (fun ((q : Nat)) => next.length - q) (0) ?_ ?_ ?_
      · omega
      · exact Gn.canon (J := _) (by first | rfl | (simp [List.append_nil, encT, slR, slB, shs_ok, bel_bools, liveN0]; done) | (simp [List.append_nil, encT, slR, slB, shs_ok, bel_bools, liveN0]; rfl)) (by simp [wk, liveN0, putT, kp, dd, sv, nl]) (by simp [List.length_append]) (by simp [bel_ints, bel_bools, bel_rows, bel_slI, bel_slR, bel_slB, bel_encT, kp, dd, sv, nl]) (by simp [bel_ints, bel_bools, bel_rows, bel_slI, bel_slR, bel_slB, bel_encT])
      · intro q hq
        have hq0 : q ≤ next.length := hq
        have hol2 := liveN_len ⟨next, acc⟩ o q
        have hcn := (liveN_cnt ⟨next, acc⟩ o (by simp only; omega) q hq0).1
        have hnx : liveN ⟨next, acc⟩ o (q + 1) = liveI ⟨next, acc⟩ q (liveN ⟨next, acc⟩ o q) := rfl
        have hlast : q = next.length → pass ⟨next, acc⟩ o = liveN ⟨next, acc⟩ o q := fun e => by rw [e]; rfl
        generalize hs : liveN ⟨next, acc⟩ o q = s at hol2 hnx hlast hcn
        simp only [hs]
        obtain ⟨o2, c2⟩ := s
        simp only at hol2 hcn
        by_cases hlt : q < next.length
        · have hqo : q < o2.length := by omega
          have hgo : o2.getD q false = o2[q] := lgetD hqo
          have hgr : next.getD q [] = next[q] := lgetD hlt
          have hrow := ht.row next[q] (List.getElem_mem hlt)
          have hrng := ht.rng next[q] (List.getElem_mem hlt)
          have hcols := ht.cols
          have h61 := pc61 (out := o2) (row := next[q]) (fun x hx => by have := (hrng x hx).2; omega) (by omega)
          have htk : List.take acc.length (o2.map V.bool) = o2.map V.bool := List.take_of_length_le (by simp; omega)
          have hlo : acc.length = o2.length := by omega
          cases hb : o2[q] with
          | true =>
            have hI : liveI ⟨next, acc⟩ q (o2, c2) = (o2, c2) := by rw [liveI]; simp only [hgo, hb]; rfl
            simp (maxSteps := 2000000) -implicitDefEqProofs +contextual (disch := first | assumption | omega | decide +kernel) only [push_cast, ↓capI, br2_true, br2_false, frk_tt, frk_tf, frk_f, frkD_tt, frkD_tf, frkD_f, pk2_true, pk2_false, imp_true, seval, Nat.reduceLeDiff, Nat.reduceEqDiff, reduceCtorEq, ↓reduceIte, cfg0, ones_ints, ones_bools, getV_map, getV_mapO, List.length_map, Nat.mul_one, slI, slR, slB, encT, hlt, hqo, hb]
            rw [hI] at hnx
            refine ⟨(q + 1), by omega, by (try simp only); omega, ?_⟩; exact Gn.canon (by first | rfl | (simp [List.append_nil, encT, slR, slB, shs_ok, bel_bools, liveN0, hnx]; rfl)) (by simp [wk, liveN0, hnx]) (by simp [List.length_append]) (by simp [bel_ints, bel_bools, bel_rows, bel_slI, bel_slR, bel_slB, bel_encT]) (by simp [bel_ints, bel_bools, bel_rows, bel_slI, bel_slR, bel_slB, bel_encT])
          | false =>
            have hset := set_bools hqo
            cases htl : toL o2 next[q] with
            | false =>
              have hI : liveI ⟨next, acc⟩ q (o2, c2) = (o2, c2) := by rw [liveI]; simp only [hgo, hgr, hb, htl]; rfl
              rw [htl] at h61
              simp (maxSteps := 2000000) -implicitDefEqProofs +contextual (disch := first | assumption | omega | decide +kernel) only [push_cast, ↓capI, br2_true, br2_false, frk_tt, frk_tf, frk_f, frkD_tt, frkD_tf, frkD_f, pk2_true, pk2_false, imp_true, seval, Nat.reduceLeDiff, Nat.reduceEqDiff, reduceCtorEq, ↓reduceIte, cfg0, ones_ints, ones_bools, getV_map, getV_mapO, List.length_map, Nat.mul_one, slI, slR, slB, encT, hlt, hqo, hb]
              refine callO.lend1 (v := .bool false) (by simpa [lnds1, lndWs, lndW, getO, Nat.blt, Nat.ble, Nat.beq, htk, slI, slB, hlo, take_bools] using h61) (by simp [lnds1, lndWs, lndW, getO, Nat.blt, Nat.ble, Nat.beq, htk, slI, slB, bel_ints, bel_bools, bel_rows, bel_slI, bel_slR, bel_slB, bel_encT]) rfl rfl ?_
              simp (maxSteps := 2000000) -implicitDefEqProofs +contextual (disch := first | assumption | omega | decide +kernel) only [push_cast, ↓capI, br2_true, br2_false, frk_tt, frk_tf, frk_f, frkD_tt, frkD_tf, frkD_f, pk2_true, pk2_false, imp_true, seval, Nat.reduceLeDiff, Nat.reduceEqDiff, reduceCtorEq, ↓reduceIte, cfg0, ones_ints, ones_bools, getV_map, getV_mapO, List.length_map, Nat.mul_one, slI, slR, slB, encT]
              rw [hI] at hnx
              refine ⟨(q + 1), by omega, by (try simp only); omega, ?_⟩; exact Gn.canon (by first | rfl | (simp [List.append_nil, encT, slR, slB, shs_ok, bel_bools, liveN0, hnx]; rfl)) (by simp [wk, liveN0, hnx]) (by simp [List.length_append]) (by simp [bel_ints, bel_bools, bel_rows, bel_slI, bel_slR, bel_slB, bel_encT]) (by simp [bel_ints, bel_bools, bel_rows, bel_slI, bel_slR, bel_slB, bel_encT])
            | true =>
              have hI : liveI ⟨next, acc⟩ q (o2, c2) = (o2.set q true, true) := by rw [liveI]; simp only [hgo, hgr, hb, htl, and_self, if_true]
              rw [htl] at h61
              simp (maxSteps := 2000000) -implicitDefEqProofs +contextual (disch := first | assumption | omega | decide +kernel) only [push_cast, ↓capI, br2_true, br2_false, frk_tt, frk_tf, frk_f, frkD_tt, frkD_tf, frkD_f, pk2_true, pk2_false, imp_true, seval, Nat.reduceLeDiff, Nat.reduceEqDiff, reduceCtorEq, ↓reduceIte, cfg0, ones_ints, ones_bools, getV_map, getV_mapO, List.length_map, Nat.mul_one, slI, slR, slB, encT, hlt, hqo, hb]
              refine callO.lend1 (v := .bool true) (by simpa [lnds1, lndWs, lndW, getO, Nat.blt, Nat.ble, Nat.beq, htk, slI, slB, hlo, take_bools] using h61) (by simp [lnds1, lndWs, lndW, getO, Nat.blt, Nat.ble, Nat.beq, htk, slI, slB, bel_ints, bel_bools, bel_rows, bel_slI, bel_slR, bel_slB, bel_encT]) rfl rfl ?_
              simp (maxSteps := 2000000) -implicitDefEqProofs +contextual (disch := first | assumption | omega | decide +kernel) only [push_cast, ↓capI, br2_true, br2_false, frk_tt, frk_tf, frk_f, frkD_tt, frkD_tf, frkD_f, pk2_true, pk2_false, imp_true, seval, Nat.reduceLeDiff, Nat.reduceEqDiff, reduceCtorEq, ↓reduceIte, cfg0, ones_ints, ones_bools, getV_map, getV_mapO, List.length_map, Nat.mul_one, slI, slR, slB, encT, hset, hqo]
              rw [hI] at hnx
              refine ⟨(q + 1), by omega, by (try simp only); omega, ?_⟩; exact Gn.canon (by first | rfl | (simp [List.append_nil, encT, slR, slB, shs_ok, bel_bools, liveN0, hnx]; rfl)) (by simp [wk, liveN0, hnx]) (by simp [List.length_append]) (by simp [bel_ints, bel_bools, bel_rows, bel_slI, bel_slR, bel_slB, bel_encT]) (by simp [bel_ints, bel_bools, bel_rows, bel_slI, bel_slR, bel_slB, bel_encT])
        · have hqn : q = next.length := by omega
          rw [hlast hqn] at hstep
          cases c2 with
          | true =>
            have h1 := hstep.1 rfl
            simp only at h1
            simp (maxSteps := 2000000) -implicitDefEqProofs +contextual (disch := first | assumption | omega | decide +kernel) only [push_cast, ↓capI, br2_true, br2_false, frk_tt, frk_tf, frk_f, frkD_tt, frkD_tf, frkD_f, pk2_true, pk2_false, imp_true, seval, Nat.reduceLeDiff, Nat.reduceEqDiff, reduceCtorEq, ↓reduceIte, cfg0, ones_ints, ones_bools, getV_map, getV_mapO, List.length_map, Nat.mul_one, slI, slR, slB, encT, hlt]
            refine ⟨(o2, true), ⟨by simp only; omega, fun _ => by rw [← h1.2]; exact liveF_any _ _ _ (by simp only; omega) (by simp only; omega) _ (by simp only; omega), fun h => by simp at h⟩, by show 2 * cntF o2 + 1 < 2 * cntF o + 1; omega, ?_⟩; exact Gn.canon (by first | rfl | (simp [List.append_nil, encT, slR, slB, shs_ok, bel_bools, liveN0]; rfl)) (by simp [wk, liveN0]) (by simp [List.length_append]) (by simp [bel_ints, bel_bools, bel_rows, bel_slI, bel_slR, bel_slB, bel_encT]) (by simp [bel_ints, bel_bools, bel_rows, bel_slI, bel_slR, bel_slB, bel_encT])
          | false =>
            have h1 := hstep.2 rfl
            simp (maxSteps := 2000000) -implicitDefEqProofs +contextual (disch := first | assumption | omega | decide +kernel) only [push_cast, ↓capI, br2_true, br2_false, frk_tt, frk_tf, frk_f, frkD_tt, frkD_tf, frkD_f, pk2_true, pk2_false, imp_true, seval, Nat.reduceLeDiff, Nat.reduceEqDiff, reduceCtorEq, ↓reduceIte, cfg0, ones_ints, ones_bools, getV_map, getV_mapO, List.length_map, Nat.mul_one, slI, slR, slB, encT, hlt]
            refine ⟨(o2, false), ⟨by simp only; omega, fun h => by simp at h, fun _ => h1⟩, by show 2 * cntF o2 + 0 < 2 * cntF o + 1; omega, ?_⟩; exact Gn.canon (by first | rfl | (simp [List.append_nil, encT, slR, slB, shs_ok, bel_bools, liveN0]; rfl)) (by simp [wk, liveN0]) (by simp [List.length_append]) (by simp [bel_ints, bel_bools, bel_rows, bel_slI, bel_slR, bel_slB, bel_encT]) (by simp [bel_ints, bel_bools, bel_rows, bel_slI, bel_slR, bel_slB, bel_encT])
end Go.Proofs.Ytkjffppioddnpaa

/- Chapter 42: the classes of the states of a table, by the program. -/
set_option maxRecDepth 100000
set_option maxHeartbeats 4000000
set_option linter.all false
namespace Go.Proofs.Ytkjffppioddnpaa
open Go.Vm
theorem refN0 {t : Tb} {c : List Int} : refN t c 0 = ([], []) := rfl
theorem bel_rep {n k : Nat} {y : Int} : belAll n (List.replicate k (V.int .i64 y)) = true := by
  rw [show List.replicate k (V.int .i64 y) = (List.replicate k y).map (V.int .i64) by simp]; exact bel_ints _
theorem rep_ints {n : Nat} {y : Int} : List.replicate n (V.int .i64 y) = (List.replicate n y).map (V.int .i64) := by simp
theorem set_ints {l : List Int} {q : Nat} {y : Int} (h : q < l.length) : putV (l.map (V.int .i64)) q [.int .i64 y] = (l.set q y).map (V.int .i64) := put_map _ _ h
theorem cls0_len (t : Tb) : (cls0 t).length = t.next.length := by simp [cls0]
def cl0 (t : Tb) (n q : Nat) : List Int := (cls0 t).take q ++ List.replicate (n - q) 0
theorem cl0_step {t : Tb} {n q : Nat} (hn : t.next.length = n) (hq : q < n) {y : Int} (hy : (cls0 t)[q]? = some y) : (cl0 t n q).set q y = cl0 t n (q + 1) := by
  have hl := cls0_len t
  have hq' : q < (cls0 t).length := by omega
  have hg : (cls0 t)[q] = y := by rw [List.getElem?_eq_getElem hq'] at hy; simpa using hy
  rw [cl0, set_pad (by rw [List.length_take]; omega) hq, cl0, List.take_succ_eq_append_getElem hq', hg]
  simp
theorem cl0_zero {t : Tb} {n q : Nat} (hn : t.next.length = n) (hq : q < n) (hy : (cls0 t)[q]? = some 0) : cl0 t n q = cl0 t n (q + 1) := by
  have hl := cls0_len t
  have hq' : q < (cls0 t).length := by omega
  have hg : (cls0 t)[q] = 0 := by rw [List.getElem?_eq_getElem hq'] at hy; simpa using hy
  obtain ⟨k, hk⟩ : ∃ k, n - q = k + 1 := ⟨n - q - 1, by omega⟩
  rw [cl0, cl0, List.take_succ_eq_append_getElem hq', hg, hk, show n - (q + 1) = k from by omega, List.replicate_succ]
  simp
theorem cl0_len {t : Tb} {n q : Nat} (hn : t.next.length = n) (hq : q ≤ n) : (cl0 t n q).length = n := by
  have hl := cls0_len t
  simp [cl0]; omega
theorem cls0_at {t : Tb} {q : Nat} (hq : q < t.next.length) : (cls0 t)[q]? = some (if (liveS t).getD q false = false then -1 else if t.acc.getD q false = true then 1 else 0) := by
  rw [cls0, List.getElem?_map, List.getElem?_range hq]; rfl
theorem cl0_all {t : Tb} {n : Nat} (hn : t.next.length = n) : cl0 t n n = cls0 t := by
  have hl := cls0_len t
  rw [cl0, List.take_of_length_le (by omega), Nat.sub_self, List.replicate_zero, List.append_nil]
def padS (s : List Int) : List Int := s ++ List.replicate (17 - s.length) 0
def sgV (s : List Int) : V := .agg ((padS s).map (.int .i64))
def enL : Nat → List (List Int) → List (V × V)
  | _, [] => []
  | i, x :: r => (sgV x, .int .i64 i) :: enL (i + 1) r
theorem enL_len : ∀ (l : List (List Int)) (i : Nat), (enL i l).length = l.length
  | [], _ => rfl
  | x :: r, i => by simp [enL, enL_len r]
theorem keyL {l : List Int} (h : l.length = 17) : keyOK tt 126 (.agg (l.map (V.int .i64))) := by
  match l, h with
  | [a1, a2, a3, a4, a5, a6, a7, a8, a9, a10, a11, a12, a13, a14, a15, a16, a17], _ => exact ⟨rfl, rfl⟩
theorem padS_len {s : List Int} (h : s.length ≤ 17) : (padS s).length = 17 := by simp [padS]; omega
theorem ints_inj : ∀ {a b : List Int}, a.map (V.int .i64) = b.map (V.int .i64) → a = b
  | [], [], _ => rfl
  | x :: a, y :: b, h => by
    simp only [List.map_cons, List.cons.injEq, V.int.injEq, true_and] at h
    rw [h.1, ints_inj h.2]
  | [], _ :: _, h => by simp at h
  | _ :: _, [], h => by simp at h
theorem pls_ints : ∀ (l : List Int) (n : Nat), pls (l.map (V.int .i64)) n = true
  | [], _ => rfl
  | x :: r, n => by simp [pls, pl, pls_ints r n]
theorem veqL {x y : List Int} (h : x.length = y.length) : veq (sgV x) (sgV y) = decide (x = y) := by
  have hp : pl (sgV x) 1 = true := by simp [sgV, pl, pls_ints]
  by_cases e : x = y
  · subst e
    rw [(veq_iff _ _ _ hp).2 rfl, decide_eq_true rfl]
  · rw [decide_eq_false e]
    cases hb : veq (sgV x) (sgV y)
    · rfl
    · have h1 := (veq_iff _ _ _ hp).1 hb
      simp only [sgV, V.agg.injEq] at h1
      have h2 := ints_inj h1
      rw [padS, padS, h] at h2
      exact absurd (List.append_inj_left h2 h) e
theorem keysL {l : List (List Int)} (h : ∀ s ∈ l, s.length ≤ 17) : ∀ i, keysOK tt 126 (enL i l) := by
  induction l with
  | nil => intro i e he; simp [enL] at he
  | cons x r ih =>
    intro i e he
    simp only [enL, List.mem_cons] at he
    rcases he with rfl | he
    · exact keyL (padS_len (h x (by simp)))
    · exact ih (fun s hs => h s (by simp [hs])) (i + 1) e he
theorem mHas_enL {x : List Int} : ∀ (l : List (List Int)) (i : Nat), (∀ s ∈ l, x.length = s.length) → mHas (sgV x) (enL i l) = (idxL x l).isSome
  | [], _, _ => rfl
  | y :: r, i, h => by
    simp only [enL, mHas, veqL (h y (by simp)), idxL]
    by_cases e : x = y
    · simp [e]
    · simp [e, mHas_enL r (i + 1) (fun s hs => h s (by simp [hs]))]
theorem mGet_enL {x : List Int} (z : V) : ∀ (l : List (List Int)) (i : Nat), (∀ s ∈ l, x.length = s.length) → mGet z (sgV x) (enL i l) = numV i z (idxL x l)
  | [], _, _ => rfl
  | y :: r, i, h => by
    simp only [enL, mGet, veqL (h y (by simp)), idxL]
    by_cases e : x = y
    · simp [e, numV]
    · simp only [e, decide_false, mGet_enL z r (i + 1) (fun s hs => h s (by simp [hs])), if_false]
      cases idxL x r <;> simp [numV]
      omega
theorem mPut_enL {x : List Int} : ∀ (l : List (List Int)) (i : Nat), (∀ s ∈ l, x.length = s.length) → idxL x l = none → mPut (sgV x) (.int .i64 ((i + l.length : Nat) : Int)) (enL i l) = enL i (l ++ [x])
  | [], _, _, _ => rfl
  | y :: r, i, h, hi => by
    simp only [idxL] at hi
    by_cases e : x = y
    · simp [e] at hi
    · simp only [e, if_false, Option.map_eq_none_iff] at hi
      have := mPut_enL r (i + 1) (fun s hs => h s (by simp [hs])) hi
      simp only [enL, mPut, veqL (h y (by simp)), e, decide_false, List.cons_append, List.length_cons]
      rw [← this, show i + (r.length + 1) = i + 1 + r.length from by omega]
theorem bel_enL1 {n : Nat} : ∀ (l : List (List Int)) (i : Nat), belAll n ((enL i l).map (·.1)) = true
  | [], _ => rfl
  | x :: r, i => by rw [enL, List.map_cons, belAll_cons, bel_enL1 r, sgV, bel_agg, bel_ints]; rfl
theorem bel_enL2 {n : Nat} : ∀ (l : List (List Int)) (i : Nat), belAll n ((enL i l).map (·.2)) = true
  | [], _ => rfl
  | x :: r, i => by rw [enL, List.map_cons, belAll_cons, bel_enL2 r]; rfl
theorem bel_mapL {n i : Nat} {l : List (List Int)} : (Ob.map (enL i l)).bel n = true := by simp only [Ob.bel, bel_enL1, bel_enL2]; rfl
def sgC (c : Int) (rs : List Int) (j : Nat) : List Int := c :: (rs.take j ++ List.replicate (16 - j) 0)
theorem sgC_set {c : Int} {rs : List Int} {j : Nat} (hj : j < rs.length) (h16 : j < 16) (y : Int) : (sgC c rs j).set (j + 1) y = c :: (rs.take j ++ (y :: List.replicate (16 - (j + 1)) 0)) := by
  rw [sgC, List.set_cons_succ, set_pad (by rw [List.length_take]; omega) h16]
theorem sgC_set2 {c z : Int} {rs t : List Int} {j : Nat} (hj : j < rs.length) (y : Int) : (c :: (rs.take j ++ (z :: t))).set (j + 1) y = c :: (rs.take j ++ (y :: t)) := by
  have hl : (rs.take j).length = j := by rw [List.length_take]; omega
  rw [List.set_cons_succ, List.set_append_right _ _ (by omega), hl]
  simp
theorem sgC_succ {c : Int} {rs : List Int} {j : Nat} (hj : j < rs.length) : sgC c rs (j + 1) = c :: (rs.take j ++ (rs[j] :: List.replicate (16 - (j + 1)) 0)) := by
  rw [sgC, List.take_succ_eq_append_getElem hj, List.append_assoc]
  rfl
theorem sgC_all {c : Int} {rs : List Int} (h : rs.length ≤ 16) : sgC c rs rs.length = padS (c :: rs) := by
  rw [sgC, padS, List.take_length]
  simp
theorem sgC_len {c : Int} {rs : List Int} {j : Nat} (hj : j ≤ rs.length) (h16 : j ≤ 16) : (sgC c rs j).length = 17 := by
  simp [sgC]; omega
theorem refN_sgl (t : Tb) (cls : List Int) {m : Nat} (hm : ∀ r ∈ t.next, r.length = m) : ∀ n, n ≤ t.next.length → ∀ s ∈ (refN t cls n).2, s.length = m + 1
  | 0, _, s, h => by simp [refN] at h
  | n + 1, hn, s, h => by
    have ih := refN_sgl t cls hm n (by omega)
    rw [refN, refI] at h
    split at h
    · exact ih s h
    · split at h
      · exact ih s h
      · rcases List.mem_append.1 h with h | h
        · exact ih s h
        · simp at h
          subst h
          have hg : t.next[n]?.getD [] = t.next[n] := by rw [List.getElem?_eq_getElem (by omega)]; rfl
          have := hm t.next[n] (List.getElem_mem _)
          rw [sigO, List.length_cons, List.length_map, hg, this]
theorem pc40 {n m : Nat} {t : Tb} (ht : okT n m t) : PC Try.prog 40 [.agg (encT t)] (slI (parS t)) := by
  have h52 := pc52 ht
  have hn1 := ht.rows
  have hn2 := ht.accs
  have hpos := ht.pos
  have hbig := ht.big
  have hll := liveS_len t
  obtain ⟨next, acc⟩ := t
  simp only at hn1 hn2 hll
  refine PC.walk tok mixed cfg0 Try.func40 rfl Try.call40 (by simp [belAll_append, bel_rep, bel_mapL, bel_ints, bel_bools, bel_rows, bel_slI, bel_slR, bel_slB, bel_encT]) (by first | rfl | simp [belAll_append, bel_rep, bel_mapL, bel_ints, bel_bools, bel_rows, bel_slI, bel_slR, bel_slB, bel_encT]) ?_; simp (maxSteps := 2000000) -implicitDefEqProofs +contextual (disch := first | assumption | omega | decide +kernel) only [push_cast, ↓capI, br2_true, br2_false, frk_tt, frk_tf, frk_f, frkD_tt, frkD_tf, frkD_f, pk2_true, pk2_false, imp_true, seval, Nat.reduceLeDiff, Nat.reduceEqDiff, reduceCtorEq, ↓reduceIte, cfg0, ones_ints, ones_bools, getV_map, getV_mapO, List.length_map, Nat.mul_one, slI, slR, slB, encT, rep_ints, numV, Option.isSome_some, Option.isSome_none, Try.ntmps40]
  refine callO.pc h52 ?_
  simp (maxSteps := 2000000) -implicitDefEqProofs +contextual (disch := first | assumption | omega | decide +kernel) only [push_cast, ↓capI, br2_true, br2_false, frk_tt, frk_tf, frk_f, frkD_tt, frkD_tf, frkD_f, pk2_true, pk2_false, imp_true, seval, Nat.reduceLeDiff, Nat.reduceEqDiff, reduceCtorEq, ↓reduceIte, cfg0, ones_ints, ones_bools, getV_map, getV_mapO, List.length_map, Nat.mul_one, slI, slR, slB, encT, rep_ints, numV, Option.isSome_some, Option.isSome_none]
  refine T.lp tok mixed cfg0 (fun ((q : Nat)) => dd 1 (kp 1 (dd 1 (kp 2 (dd 18 (kp 1 (sv (.int .i64 (q : Int)) (dd 92 (nl))))))))) (fun H0 ((q : Nat)) => [.cells 0 (encT ⟨next, acc⟩), .cells 0 ((cl0 ⟨next, acc⟩ n q).map (.int .i64))]) (fun ((q : Nat)) => q ≤ n) (fun ((q : Nat)) => n - q) (0) ?_ ?_ ?_
  · omega
  · exact Gn.canon (J := []) (by simp [List.append_nil, encT, slR, slB, slI, cl0, hn1]) (by simp [wk, refN0, putT, kp, dd, sv, nl]) (by simp) (by simp [belAll_append, bel_rep, bel_mapL, bel_ints, bel_bools, bel_rows, bel_slI, bel_slR, bel_slB, bel_encT, kp, dd, sv, nl]) (by simp only [belAll_append, bel_rep, bel_mapL, bel_ints, bel_bools, bel_rows, bel_slI, bel_slR, bel_slB, bel_encT, belObs_cons, belO_cells, belObs_nil]; rfl)
  · intro q hq
    have hq0 : q ≤ n := hq
    have hcl := cl0_len (t := ⟨next, acc⟩) hn1 hq0
    by_cases hlt : q < n
    · have hql : q < next.length := by omega
      have hqo : q < (liveS ⟨next, acc⟩).length := by omega
      have hqa : q < acc.length := by omega
      have hat := cls0_at (t := ⟨next, acc⟩) (q := q) (by simp only; omega)
      rw [lgetD hqo, lgetD hqa] at hat
      have hst := fun y => cl0_step (t := ⟨next, acc⟩) (y := y) hn1 hlt
      have hz := cl0_zero (t := ⟨next, acc⟩) hn1 hlt
      have hset := fun y => set_ints (y := y) (show q < (cl0 ⟨next, acc⟩ n q).length by omega)
      rw [← hn1] at hlt
      cases hb : (liveS ⟨next, acc⟩)[q] with
      | false =>
        rw [hb, if_pos rfl] at hat
        have e1 := hst (-1) hat
        simp (maxSteps := 2000000) -implicitDefEqProofs +contextual (disch := first | assumption | omega | decide +kernel) only [push_cast, ↓capI, br2_true, br2_false, frk_tt, frk_tf, frk_f, frkD_tt, frkD_tf, frkD_f, pk2_true, pk2_false, imp_true, seval, Nat.reduceLeDiff, Nat.reduceEqDiff, reduceCtorEq, ↓reduceIte, cfg0, ones_ints, ones_bools, getV_map, getV_mapO, List.length_map, Nat.mul_one, slI, slR, slB, encT, rep_ints, numV, Option.isSome_some, Option.isSome_none, hlt, hqo, hb, hset, e1]
        refine ⟨(q + 1), by omega, by (try simp only); omega, ?_⟩; exact Gn.canon (by first | rfl | (simp [List.append_nil, encT, slR, slB, slI, refN0, enL]; rfl)) (by simp [wk, refN0]) (by simp [List.length_append]) (by simp [belAll_append, bel_rep, bel_mapL, bel_ints, bel_bools, bel_rows, bel_slI, bel_slR, bel_slB, bel_encT]) (by simp [belAll_append, bel_rep, bel_mapL, bel_ints, bel_bools, bel_rows, bel_slI, bel_slR, bel_slB, bel_encT])
      | true =>
        rw [hb, if_neg (by decide)] at hat
        cases hb2 : acc[q] with
        | true =>
          rw [hb2, if_pos rfl] at hat
          have e1 := hst 1 hat
          simp (maxSteps := 2000000) -implicitDefEqProofs +contextual (disch := first | assumption | omega | decide +kernel) only [push_cast, ↓capI, br2_true, br2_false, frk_tt, frk_tf, frk_f, frkD_tt, frkD_tf, frkD_f, pk2_true, pk2_false, imp_true, seval, Nat.reduceLeDiff, Nat.reduceEqDiff, reduceCtorEq, ↓reduceIte, cfg0, ones_ints, ones_bools, getV_map, getV_mapO, List.length_map, Nat.mul_one, slI, slR, slB, encT, rep_ints, numV, Option.isSome_some, Option.isSome_none, hlt, hqo, hqa, hb, hb2, hset, e1]
          refine ⟨(q + 1), by omega, by (try simp only); omega, ?_⟩; exact Gn.canon (by first | rfl | (simp [List.append_nil, encT, slR, slB, slI, refN0, enL]; rfl)) (by simp [wk, refN0]) (by simp [List.length_append]) (by simp [belAll_append, bel_rep, bel_mapL, bel_ints, bel_bools, bel_rows, bel_slI, bel_slR, bel_slB, bel_encT]) (by simp [belAll_append, bel_rep, bel_mapL, bel_ints, bel_bools, bel_rows, bel_slI, bel_slR, bel_slB, bel_encT])
        | false =>
          rw [hb2, if_neg (by decide)] at hat
          have e1 := hz hat
          simp (maxSteps := 2000000) -implicitDefEqProofs +contextual (disch := first | assumption | omega | decide +kernel) only [push_cast, ↓capI, br2_true, br2_false, frk_tt, frk_tf, frk_f, frkD_tt, frkD_tf, frkD_f, pk2_true, pk2_false, imp_true, seval, Nat.reduceLeDiff, Nat.reduceEqDiff, reduceCtorEq, ↓reduceIte, cfg0, ones_ints, ones_bools, getV_map, getV_mapO, List.length_map, Nat.mul_one, slI, slR, slB, encT, rep_ints, numV, Option.isSome_some, Option.isSome_none, hlt, hqo, hqa, hb, hb2]
          refine ⟨(q + 1), by omega, by (try simp only); omega, ?_⟩; exact Gn.canon (by first | rfl | (simp [List.append_nil, encT, slR, slB, slI, refN0, enL, ← e1]; rfl)) (by simp [wk, refN0, ← e1]) (by simp [List.length_append]) (by simp [belAll_append, bel_rep, bel_mapL, bel_ints, bel_bools, bel_rows, bel_slI, bel_slR, bel_slB, bel_encT]) (by simp [belAll_append, bel_rep, bel_mapL, bel_ints, bel_bools, bel_rows, bel_slI, bel_slR, bel_slB, bel_encT])
    · have hqn : q = n := by omega
      subst hqn
      have hall := cl0_all (t := ⟨next, acc⟩) hn1
      simp only [hall]
      have hlt' : ¬ q < next.length := by omega
      have hlc := cls0_len ⟨next, acc⟩
      simp only at hlc
      have hlc2 : next.length = (cls0 ⟨next, acc⟩).length := by omega
      simp (maxSteps := 2000000) -implicitDefEqProofs +contextual (disch := first | assumption | omega | decide +kernel) only [push_cast, ↓capI, br2_true, br2_false, frk_tt, frk_tf, frk_f, frkD_tt, frkD_tf, frkD_f, pk2_true, pk2_false, imp_true, seval, Nat.reduceLeDiff, Nat.reduceEqDiff, reduceCtorEq, ↓reduceIte, cfg0, ones_ints, ones_bools, getV_map, getV_mapO, List.length_map, Nat.mul_one, slI, slR, slB, encT, rep_ints, numV, Option.isSome_some, Option.isSome_none, hlt']
      refine T.lp tok mixed cfg0 (fun ((s : List Int × Nat)) => dd 1 (kp 1 (dd 2 (sv (slI s.1) (dd 1 (sv (.int .i64 (s.2 : Int)) (dd 110 (nl)))))))) (fun H0 ((s : List Int × Nat)) => [.cells 0 (encT ⟨next, acc⟩), .dead]) (fun ((s : List Int × Nat)) => s.1.length = q ∧ (∀ j, j < s.2 → ((j : Nat) : Int) ∈ s.1) ∧ s.2 ≤ q ∧ parF ⟨next, acc⟩ (q + 2) s.1 s.2 = parS ⟨next, acc⟩) (fun ((s : List Int × Nat)) => q + 1 - s.2) ((cls0 ⟨next, acc⟩, 0)) ?_ ?_ ?_
      · exact ⟨by simp only; omega, fun j h => by omega, Nat.zero_le _, by rw [parS, ← hn1]⟩
      · refine (Gn.freeze (id := 1) rfl).trans ?_; exact Gn.canon (by first | rfl | (simp [List.append_nil, encT, slR, slB, slI, refN0, enL, fzs, fz, fzs_ok, fzH, setO, getO, Nat.beq, List.take_of_length_le, belAll_append, bel_rep, bel_mapL, bel_ints, bel_bools, bel_rows, bel_slI, bel_slR, bel_slB, bel_encT, hlc]; done) | (simp [List.append_nil, encT, slR, slB, slI, refN0, enL, fzs, fz, fzs_ok, fzH, setO, getO, Nat.beq, List.take_of_length_le, belAll_append, bel_rep, bel_mapL, bel_ints, bel_bools, bel_rows, bel_slI, bel_slR, bel_slB, bel_encT, hlc]; rfl)) (by simp [wk, refN0, putT, kp, dd, sv, nl, fzs, fz, fzs_ok, fzH, setO, getO, Nat.beq, List.take_of_length_le, belAll_append, bel_rep, bel_mapL, bel_ints, bel_bools, bel_rows, bel_slI, bel_slR, bel_slB, bel_encT, hlc, cfg0, ones_ints, ones_bools, getV_map, getV_mapO, List.length_map, Nat.mul_one, slI, slR, slB, encT, rep_ints, numV, Option.isSome_some, Option.isSome_none]) (by simp [List.length_append]) (by simp [belAll_append, bel_rep, bel_mapL, bel_ints, bel_bools, bel_rows, bel_slI, bel_slR, bel_slB, bel_encT, kp, dd, sv, nl]) (by simp [belAll_append, bel_rep, bel_mapL, bel_ints, bel_bools, bel_rows, bel_slI, bel_slR, bel_slB, bel_encT])
      · intro s hs
        obtain ⟨c, cnt⟩ := s
        obtain ⟨hcl2, hmet, hcnt, hpar⟩ := hs
        simp only at hcl2 hmet hcnt hpar
        simp (maxSteps := 2000000) -implicitDefEqProofs +contextual (disch := first | assumption | omega | decide +kernel) only [push_cast, ↓capI, br2_true, br2_false, frk_tt, frk_tf, frk_f, frkD_tt, frkD_tf, frkD_f, pk2_true, pk2_false, imp_true, seval, Nat.reduceLeDiff, Nat.reduceEqDiff, reduceCtorEq, ↓reduceIte, cfg0, ones_ints, ones_bools, getV_map, getV_mapO, List.length_map, Nat.mul_one, slI, slR, slB, encT, rep_ints, numV, Option.isSome_some, Option.isSome_none]
        refine T.lp tok mixed cfg0 (fun ((i : Nat)) => dd 1 (kp 1 (dd 2 (kp 1 (dd 1 (kp 3 (dd 42 (kp 2 (sv (.int .i64 (i : Int)) (dd 63 (nl))))))))))) (fun H0 ((i : Nat)) => [.cells 0 (encT ⟨next, acc⟩), .dead, .map (enL 0 (refN ⟨next, acc⟩ c i).2), .cells 0 (((refN ⟨next, acc⟩ c i).1 ++ List.replicate (q - i) 0).map (.int .i64))]) (fun ((i : Nat)) => i ≤ q) (fun ((i : Nat)) => q - i) (0) ?_ ?_ ?_
        · omega
        · exact Gn.canon (J := []) (by simp [List.append_nil, encT, slR, slB, slI, refN0, enL, hcl2]) (by simp [wk, refN0, putT, kp, dd, sv, nl]) (by simp [List.length_append]) (by simp [belAll_append, bel_rep, bel_mapL, bel_ints, bel_bools, bel_rows, bel_slI, bel_slR, bel_slB, bel_encT, kp, dd, sv, nl]) (by simp [belAll_append, bel_rep, bel_mapL, bel_ints, bel_bools, bel_rows, bel_slI, bel_slR, bel_slB, bel_encT])
        · intro i hi
          have hi0 : i ≤ q := hi
          have hrl := refN_len ⟨next, acc⟩ c i
          have hnx : refN ⟨next, acc⟩ c (i + 1) = refI ⟨next, acc⟩ c i (refN ⟨next, acc⟩ c i) := rfl
          have hlast : i = q → ref ⟨next, acc⟩ c = refN ⟨next, acc⟩ c i := fun e => by rw [ref, e, ← hn1]
          have hsl := refN_sgl ⟨next, acc⟩ c ht.row i (by simp only; omega)
          have hle := (refN_ok ⟨next, acc⟩ c i).sg
          generalize hR : refN ⟨next, acc⟩ c i = r at hrl hnx hlast hsl hle
          simp only [hR]
          obtain ⟨out, sigs⟩ := r
          simp only at hrl hsl hle
          by_cases hlt : i < q
          · have hin : i < next.length := by omega
            have hic : i < c.length := by omega
            have hgc : c.getD i 0 = c[i] := lgetD hic
            have hgr : next.getD i [] = next[i] := lgetD hin
            have hrow := ht.row next[i] (List.getElem_mem hin)
            have hrng := ht.rng next[i] (List.getElem_mem hin)
            have hcols := ht.cols
            have hlr : ((out ++ List.replicate (q - i) (0 : Int)).map (V.int .i64)).length = q := by simp; omega
            have p1 := fun y => put_row1 (y := y) hrl hlt
            have p2 := fun y z => put_row2 (t := List.replicate (q - (i + 1)) 0) (y := y) (z := z) hrl
            rw [← hn1] at hlt
            by_cases hneg : c[i] < 0
            · have hI : refI ⟨next, acc⟩ c i (out, sigs) = (out ++ [-1], sigs) := by rw [refI, hgc, if_pos hneg]
              rw [hI] at hnx
              simp (maxSteps := 2000000) -implicitDefEqProofs +contextual (disch := first | assumption | omega | decide +kernel) only [push_cast, ↓capI, br2_true, br2_false, frk_tt, frk_tf, frk_f, frkD_tt, frkD_tf, frkD_f, pk2_true, pk2_false, imp_true, seval, Nat.reduceLeDiff, Nat.reduceEqDiff, reduceCtorEq, ↓reduceIte, cfg0, ones_ints, ones_bools, getV_map, getV_mapO, List.length_map, Nat.mul_one, slI, slR, slB, encT, rep_ints, numV, Option.isSome_some, Option.isSome_none, hlt, hic, hlr, p1, hneg, hn1]
              refine ⟨(i + 1), by omega, by (try simp only); omega, ?_⟩; exact Gn.canon (by first | rfl | (simp [List.append_nil, encT, slR, slB, slI, refN0, enL, hnx]; rfl)) (by simp [wk, refN0, hnx]) (by simp [List.length_append]) (by simp [belAll_append, bel_rep, bel_mapL, bel_ints, bel_bools, bel_rows, bel_slI, bel_slR, bel_slB, bel_encT]) (by simp [belAll_append, bel_rep, bel_mapL, bel_ints, bel_bools, bel_rows, bel_slI, bel_slR, bel_slB, bel_encT])
            · obtain ⟨rs, hrs⟩ : ∃ rs, rs = next[i].map fun x => if 0 ≤ x then gI c x else -1 := ⟨_, rfl⟩
              have hrsl : rs.length = m := by rw [hrs, List.length_map, hrow]
              have hsig : sigO c (next.getD i []) i = c[i] :: rs := by rw [sigO, hgc, hgr, hrs]
              simp (maxSteps := 2000000) -implicitDefEqProofs +contextual (disch := first | assumption | omega | decide +kernel) only [push_cast, ↓capI, br2_true, br2_false, frk_tt, frk_tf, frk_f, frkD_tt, frkD_tf, frkD_f, pk2_true, pk2_false, imp_true, seval, Nat.reduceLeDiff, Nat.reduceEqDiff, reduceCtorEq, ↓reduceIte, cfg0, ones_ints, ones_bools, getV_map, getV_mapO, List.length_map, Nat.mul_one, slI, slR, slB, encT, rep_ints, numV, Option.isSome_some, Option.isSome_none, hlt, hic, hlr, p1, hneg, hn1]
              refine T.lp tok mixed cfg0 (fun ((j : Nat)) => dd 1 (kp 1 (dd 2 (kp 1 (dd 1 (kp 4 (dd 1 (kp 1 (dd 39 (kp 3 (dd 17 (kp 2 (sv (.int .i64 (j : Int)) (dd 43 (nl))))))))))))))) (fun H0 ((j : Nat)) => [.cells 0 (encT ⟨next, acc⟩), .dead, .map (enL 0 sigs), .cells 0 ((out ++ -1 :: List.replicate (q - (i + 1)) 0).map (.int .i64)), .cells 0 ((sgC c[i] rs j).map (.int .i64))]) (fun ((j : Nat)) => j ≤ m) (fun ((j : Nat)) => m - j) (0) ?_ ?_ ?_
              · omega
              · exact Gn.canon (J := []) (by simp [List.append_nil, encT, slR, slB, slI, refN0, enL, sgC, hn1]) (by simp [wk, refN0, putT, kp, dd, sv, nl, hn1]) (by simp [List.length_append]) (by simp [belAll_append, bel_rep, bel_mapL, bel_ints, bel_bools, bel_rows, bel_slI, bel_slR, bel_slB, bel_encT, kp, dd, sv, nl]) (by simp [belAll_append, bel_rep, bel_mapL, bel_ints, bel_bools, bel_rows, bel_slI, bel_slR, bel_slB, bel_encT])
              · intro j hj
                have hj0 : j ≤ m := hj
                have htn : ((j : Int) + 1).toNat = j + 1 := by omega
                have hsgl := sgC_len (c := c[i]) (rs := rs) (j := j) (by omega) (by omega)
                by_cases hjm : j < m
                · have hjr : j < next[i].length := by omega
                  have hs1 := fun y => sgC_set (c := c[i]) (rs := rs) (by omega) (by omega : j < 16) y
                  have hs2 := fun y z => sgC_set2 (c := c[i]) (rs := rs) (z := z) (t := List.replicate (16 - (j + 1)) 0) (by omega : j < rs.length) y
                  have htl : (rs.take j).length = j := by rw [List.length_take]; omega
                  have hq1 := fun y => put_row1 (y := y) (m := 16) htl (by omega)
                  have hq2 := fun y z => put_row2 (t := List.replicate (16 - (j + 1)) 0) (y := y) (z := z) htl
                  have hq3 : ∀ y z : Int, putV (List.take j (List.map (V.int .i64) rs) ++ V.int .i64 z :: List.replicate (15 - j) (V.int .i64 0)) j [.int .i64 y] = List.take j (List.map (V.int .i64) rs) ++ V.int .i64 y :: List.replicate (15 - j) (V.int .i64 0) := fun y z => by
                    have := hq2 y z
                    simpa using this
                  have hsucc := sgC_succ (c := c[i]) (rs := rs) (j := j) (by omega)
                  have hrsj : rs[j]'(by omega) = if 0 ≤ next[i][j] then gI c next[i][j] else -1 := by simp [hrs]
                  have hset1 := fun y => set_ints (y := y) (show j + 1 < (sgC c[i] rs j).length by omega)
                  have hset2 := fun y z => set_ints (y := y) (l := c[i] :: (rs.take j ++ (z :: List.replicate (16 - (j + 1)) 0))) (q := j + 1) (by simp; omega)
                  have hx := hrng _ (List.getElem_mem hjr)
                  rw [hrsj] at hsucc
                  rw [← hrow] at hjm
                  by_cases hneg2 : 0 ≤ next[i][j]
                  · obtain ⟨k, hk⟩ : ∃ k : Nat, next[i][j] = (k : Int) := ⟨next[i][j].toNat, by omega⟩
                    have hkc : k < c.length := by omega
                    have hgk : gI c (k : Int) = c[k] := by rw [gI, Int.toNat_natCast]; exact lgetD hkc
                    rw [if_pos hneg2, hk, hgk] at hsucc
                    simp (maxSteps := 2000000) -implicitDefEqProofs +contextual (disch := first | assumption | omega | decide +kernel) only [push_cast, ↓capI, br2_true, br2_false, frk_tt, frk_tf, frk_f, frkD_tt, frkD_tf, frkD_f, pk2_true, pk2_false, imp_true, seval, Nat.reduceLeDiff, Nat.reduceEqDiff, reduceCtorEq, ↓reduceIte, cfg0, ones_ints, ones_bools, getV_map, getV_mapO, List.length_map, Nat.mul_one, slI, slR, slB, encT, rep_ints, numV, Option.isSome_some, Option.isSome_none, hjm, hjr, hk, hkc, hset1, hset2, hs1, hs2, hsgl, htn, hq1, hq2]
                    refine ⟨(j + 1), by omega, by (try simp only); omega, ?_⟩; exact Gn.canon (by first | rfl | (simp [List.append_nil, encT, slR, slB, slI, refN0, enL, hsucc, hn1, hq3]; rfl)) (by simp [wk, refN0, hsucc, hn1, hq3]) (by simp [List.length_append]) (by simp [belAll_append, bel_rep, bel_mapL, bel_ints, bel_bools, bel_rows, bel_slI, bel_slR, bel_slB, bel_encT]) (by simp [belAll_append, bel_rep, bel_mapL, bel_ints, bel_bools, bel_rows, bel_slI, bel_slR, bel_slB, bel_encT])
                  · rw [if_neg hneg2] at hsucc
                    simp (maxSteps := 2000000) -implicitDefEqProofs +contextual (disch := first | assumption | omega | decide +kernel) only [push_cast, ↓capI, br2_true, br2_false, frk_tt, frk_tf, frk_f, frkD_tt, frkD_tf, frkD_f, pk2_true, pk2_false, imp_true, seval, Nat.reduceLeDiff, Nat.reduceEqDiff, reduceCtorEq, ↓reduceIte, cfg0, ones_ints, ones_bools, getV_map, getV_mapO, List.length_map, Nat.mul_one, slI, slR, slB, encT, rep_ints, numV, Option.isSome_some, Option.isSome_none, hjm, hjr, hneg2, hset1, hset2, hs1, hs2, hsgl, htn, hq1, hq2]
                    refine ⟨(j + 1), by omega, by (try simp only); omega, ?_⟩; exact Gn.canon (by first | rfl | (simp [List.append_nil, encT, slR, slB, slI, refN0, enL, hsucc, hn1, hq3]; rfl)) (by simp [wk, refN0, hsucc, hn1, hq3]) (by simp [List.length_append]) (by simp [belAll_append, bel_rep, bel_mapL, bel_ints, bel_bools, bel_rows, bel_slI, bel_slR, bel_slB, bel_encT]) (by simp [belAll_append, bel_rep, bel_mapL, bel_ints, bel_bools, bel_rows, bel_slI, bel_slR, bel_slB, bel_encT])
                · have hjm2 : j = m := by omega
                  have hjr : ¬ j < next[i].length := by omega
                  have hall2 := sgC_all (c := c[i]) (rs := rs) (by omega)
                  rw [hrsl] at hall2
                  have hxl : ∀ s ∈ sigs, (c[i] :: rs).length = s.length := fun s hs => by rw [hsl s hs, List.length_cons, hrsl]
                  have hkk : keyOK tt 126 (sgV (c[i] :: rs)) := keyL (padS_len (by simp; omega))
                  have hks := keysL (l := sigs) (fun s hs => by rw [hsl s hs]; omega) 0
                  have hmh := mHas_enL sigs 0 hxl
                  have hmg := fun z => mGet_enL z sigs 0 hxl
                  have hmp := mPut_enL sigs 0 hxl
                  rw [Nat.zero_add] at hmp
                  have hpl := padS_len (s := c[i] :: rs) (by simp; omega)
                  have hel := enL_len sigs 0
                  have hgv : getV ((padS (c[i] :: rs)).map (V.int .i64)) 0 17 = (padS (c[i] :: rs)).map (V.int .i64) := by
                    rw [getV, List.drop_zero, List.take_of_length_le (by simp; omega)]
                  have hpl2 : ((padS (c[i] :: rs)).map (V.int .i64)).length = 17 := by rw [List.length_map, hpl]
                  simp only [sgV] at hkk hmh hmg hmp
                  cases hik : idxL (c[i] :: rs) sigs with
                  | some k =>
                    have hI : refI ⟨next, acc⟩ c i (out, sigs) = (out ++ [(k : Int)], sigs) := by rw [refI, hgc, if_neg hneg, hsig]; simp only [hik]
                    rw [hI] at hnx
                    rw [hik] at hmh hmg
                    subst hjm2
                    simp (maxSteps := 2000000) -implicitDefEqProofs +contextual (disch := first | assumption | omega | decide +kernel) only [push_cast, ↓capI, br2_true, br2_false, frk_tt, frk_tf, frk_f, frkD_tt, frkD_tf, frkD_f, pk2_true, pk2_false, imp_true, seval, Nat.reduceLeDiff, Nat.reduceEqDiff, reduceCtorEq, ↓reduceIte, cfg0, ones_ints, ones_bools, getV_map, getV_mapO, List.length_map, Nat.mul_one, slI, slR, slB, encT, rep_ints, numV, Option.isSome_some, Option.isSome_none, hjr, hall2, hgv, hpl2, hkk, hks, hmh, hmg, p2, Nat.zero_add]
                    refine ⟨(i + 1), by omega, by (try simp only); omega, ?_⟩; exact Gn.canon (by first | rfl | (simp [List.append_nil, encT, slR, slB, slI, refN0, enL, hnx, hn1]; rfl)) (by simp [wk, refN0, hnx, hn1]) (by simp [List.length_append]) (by simp [belAll_append, bel_rep, bel_mapL, bel_ints, bel_bools, bel_rows, bel_slI, bel_slR, bel_slB, bel_encT]) (by simp [belAll_append, bel_rep, bel_mapL, bel_ints, bel_bools, bel_rows, bel_slI, bel_slR, bel_slB, bel_encT])
                  | none =>
                    have hI : refI ⟨next, acc⟩ c i (out, sigs) = (out ++ [(sigs.length : Int)], sigs ++ [c[i] :: rs]) := by rw [refI, hgc, if_neg hneg, hsig]; simp only [hik]
                    rw [hI] at hnx
                    rw [hik] at hmh hmg
                    have hmp2 := hmp hik
                    subst hjm2
                    simp (maxSteps := 2000000) -implicitDefEqProofs +contextual (disch := first | assumption | omega | decide +kernel) only [push_cast, ↓capI, br2_true, br2_false, frk_tt, frk_tf, frk_f, frkD_tt, frkD_tf, frkD_f, pk2_true, pk2_false, imp_true, seval, Nat.reduceLeDiff, Nat.reduceEqDiff, reduceCtorEq, ↓reduceIte, cfg0, ones_ints, ones_bools, getV_map, getV_mapO, List.length_map, Nat.mul_one, slI, slR, slB, encT, rep_ints, numV, Option.isSome_some, Option.isSome_none, hjr, hall2, hgv, hpl2, hkk, hks, hmh, hmg, p2, Nat.zero_add, hel, hmp2]
                    refine ⟨(i + 1), by omega, by (try simp only); omega, ?_⟩; exact Gn.canon (by first | rfl | (simp [List.append_nil, encT, slR, slB, slI, refN0, enL, hnx, hn1]; rfl)) (by simp [wk, refN0, hnx, hn1]) (by simp [List.length_append]) (by simp [belAll_append, bel_rep, bel_mapL, bel_ints, bel_bools, bel_rows, bel_slI, bel_slR, bel_slB, bel_encT]) (by simp [belAll_append, bel_rep, bel_mapL, bel_ints, bel_bools, bel_rows, bel_slI, bel_slR, bel_slB, bel_encT])
          · have hiq : i = q := by omega
            have hrf := hlast hiq
            have hge := ref_ge ⟨next, acc⟩ c (by simp only; omega) hmet
            have hok := refN_ok ⟨next, acc⟩ c next.length
            rw [show refN ⟨next, acc⟩ c next.length = ref ⟨next, acc⟩ c from rfl, hrf] at hok
            rw [hrf] at hge
            simp only at hge
            have hel := enL_len sigs 0
            have hlt2 : ¬ i < next.length := by omega
            subst hiq
            have hlr2 : out ++ List.replicate (i - i) (0 : Int) = out := by simp
            have hpf : parF ⟨next, acc⟩ (i + 2) c cnt = if sigs.length = cnt then out else parF ⟨next, acc⟩ (i + 1) out sigs.length := by rw [parF, hrf]
            rw [hpf] at hpar
            by_cases heq : sigs.length = cnt
            · rw [if_pos heq] at hpar
              rw [← hpar]
              simp (maxSteps := 2000000) -implicitDefEqProofs +contextual (disch := first | assumption | omega | decide +kernel) only [push_cast, ↓capI, br2_true, br2_false, frk_tt, frk_tf, frk_f, frkD_tt, frkD_tf, frkD_f, pk2_true, pk2_false, imp_true, seval, Nat.reduceLeDiff, Nat.reduceEqDiff, reduceCtorEq, ↓reduceIte, cfg0, ones_ints, ones_bools, getV_map, getV_mapO, List.length_map, Nat.mul_one, slI, slR, slB, encT, rep_ints, numV, Option.isSome_some, Option.isSome_none, hlt2, hlr2, hel, heq]
              refine endK.gn (Gn.freeze (id := 3) rfl) ?_; refine endK.ret ?_ (by first | rfl | simp [belAll_append, bel_rep, bel_mapL, bel_ints, bel_bools, bel_rows, bel_slI, bel_slR, bel_slB, bel_encT]); simp [belAll_append, bel_rep, bel_mapL, bel_ints, bel_bools, bel_rows, bel_slI, bel_slR, bel_slB, bel_encT, fzs_ok, imp, lenOK_iff, List.take_of_length_le, evRes, getT, getO, setO, fzs, fz, fzH, Nat.beq, retV, Res.then, ldT, ldR, mkV, getV, cfg0, ones_ints, ones_bools, getV_map, getV_mapO, List.length_map, Nat.mul_one, slI, slR, slB, encT, rep_ints, numV, Option.isSome_some, Option.isSome_none, Try.f40,  hcl2, hrl]
            · rw [if_neg heq] at hpar
              have hpar2 : parF ⟨next, acc⟩ (i + 2) out sigs.length = parS ⟨next, acc⟩ := by
                rw [← hpar]
                exact parF_any _ _ _ _ (by simp only; omega) hok.met (by simp only; omega) _ (by simp only; omega) (by omega) (by omega)
              simp (maxSteps := 2000000) -implicitDefEqProofs +contextual (disch := first | assumption | omega | decide +kernel) only [push_cast, ↓capI, br2_true, br2_false, frk_tt, frk_tf, frk_f, frkD_tt, frkD_tf, frkD_f, pk2_true, pk2_false, imp_true, seval, Nat.reduceLeDiff, Nat.reduceEqDiff, reduceCtorEq, ↓reduceIte, cfg0, ones_ints, ones_bools, getV_map, getV_mapO, List.length_map, Nat.mul_one, slI, slR, slB, encT, rep_ints, numV, Option.isSome_some, Option.isSome_none, hlt2, hlr2, hel, heq]
              refine ⟨(out, sigs.length), ⟨hrl, hok.met, hle, hpar2⟩, by (try simp only); omega, ?_⟩; refine (Gn.freeze (id := 3) rfl).trans ?_; exact Gn.canon (by first | rfl | (simp [List.append_nil, encT, slR, slB, slI, refN0, enL, fzs, fz, fzs_ok, fzH, setO, getO, Nat.beq, List.take_of_length_le, belAll_append, bel_rep, bel_mapL, bel_ints, bel_bools, bel_rows, bel_slI, bel_slR, bel_slB, bel_encT, hcl2, hrl]; done) | (simp [List.append_nil, encT, slR, slB, slI, refN0, enL, fzs, fz, fzs_ok, fzH, setO, getO, Nat.beq, List.take_of_length_le, belAll_append, bel_rep, bel_mapL, bel_ints, bel_bools, bel_rows, bel_slI, bel_slR, bel_slB, bel_encT, hcl2, hrl]; rfl)) (by simp [wk, refN0, fzs, fz, fzs_ok, fzH, setO, getO, Nat.beq, List.take_of_length_le, belAll_append, bel_rep, bel_mapL, bel_ints, bel_bools, bel_rows, bel_slI, bel_slR, bel_slB, bel_encT, hcl2, hrl, cfg0, ones_ints, ones_bools, getV_map, getV_mapO, List.length_map, Nat.mul_one, slI, slR, slB, encT, rep_ints, numV, Option.isSome_some, Option.isSome_none]) (by simp [List.length_append]) (by simp [belAll_append, bel_rep, bel_mapL, bel_ints, bel_bools, bel_rows, bel_slI, bel_slR, bel_slB, bel_encT]) (by simp [belAll_append, bel_rep, bel_mapL, bel_ints, bel_bools, bel_rows, bel_slI, bel_slR, bel_slB, bel_encT])
end Go.Proofs.Ytkjffppioddnpaa

/- Chapter 42: the minimal table, breadth first (plain). -/
set_option maxRecDepth 100000
set_option maxHeartbeats 4000000
set_option linter.all false
namespace Go.Proofs.Ytkjffppioddnpaa
open Go.Vm
def idxI (x : Int) : List Int → Option Nat
  | [] => none
  | y :: r => if x = y then some 0 else (idxI x r).map (· + 1)
theorem idxI_none {x : Int} : ∀ {l : List Int}, idxI x l = none → x ∉ l
  | [], _ => by simp
  | y :: r, h => by
    simp only [idxI] at h
    split at h
    · cases h
    · rename_i e
      rw [Option.map_eq_none_iff] at h
      have := idxI_none h
      simp [e, this]
theorem idxI_some {x : Int} : ∀ {l : List Int} {k : Nat}, idxI x l = some k → l[k]? = some x
  | [], k, h => by simp [idxI] at h
  | y :: r, k, h => by
    simp only [idxI] at h
    split at h
    · rename_i e; cases h; simp [e]
    · rw [Option.map_eq_some_iff] at h
      obtain ⟨j, hj, rfl⟩ := h
      simpa using idxI_some hj
def mrI (c : List Int) (x : Int) (s : List Int × List Int) : List Int × List Int :=
  if x < 0 ∨ gI c x < 0 then (s.1, s.2 ++ [-1])
  else match idxI (gI c x) (s.1.map (gI c)) with
    | some k => (s.1, s.2 ++ [(k : Int)])
    | none => (s.1 ++ [x], s.2 ++ [(s.1.length : Int)])
def mrN (c row : List Int) (order : List Int) : Nat → List Int × List Int
  | 0 => (order, [])
  | n + 1 => mrI c (gI row n) (mrN c row order n)
structure Ms where
  order : List Int
  rows : List (List Int)
  accs : List Bool
def minI (t : Tb) (c : List Int) (i : Nat) (s : Ms) : Ms :=
  match s.order[i]? with
  | some q => ⟨(mrN c (t.next.getD q.toNat []) s.order (t.next.getD q.toNat []).length).1, s.rows ++ [(mrN c (t.next.getD q.toNat []) s.order (t.next.getD q.toNat []).length).2], s.accs ++ [gB t.acc q]⟩
  | none => s
def minN (t : Tb) (c : List Int) : Nat → Ms
  | 0 => ⟨[0], [], []⟩
  | n + 1 => minI t c n (minN t c n)
def minF (t : Tb) (c : List Int) : Tb := ⟨(minN t c t.next.length).rows, (minN t c t.next.length).accs⟩
def minS (t : Tb) : Tb := minF t (parS t)
structure Ook (n : Nat) (c : List Int) (order : List Int) : Prop where
  rng : ∀ x ∈ order, 0 ≤ x ∧ x < (n : Int)
  apart : (order.map (gI c)).Nodup
theorem mrI_ok {n : Nat} {c : List Int} {x : Int} (hx : x < (n : Int)) {s : List Int × List Int} (h : Ook n c s.1) : Ook n c (mrI c x s).1 := by
  unfold mrI
  split
  · exact h
  · rename_i hx0
    split
    · exact h
    · rename_i hi
      refine ⟨fun y hy => ?_, ?_⟩
      · rcases List.mem_append.1 hy with hy | hy
        · exact h.rng y hy
        · rw [List.mem_singleton] at hy
          subst hy
          exact ⟨by omega, hx⟩
      · rw [List.map_append, List.nodup_append]
        refine ⟨h.apart, by simp, ?_⟩
        intro a ha b hb
        simp at hb
        subst hb
        exact fun e => idxI_none hi (e ▸ ha)
theorem mrN_ok {n : Nat} {c row : List Int} (hr : ∀ x ∈ row, x < (n : Int)) {order : List Int} (h : Ook n c order) : ∀ j, j ≤ row.length → Ook n c (mrN c row order j).1
  | 0, _ => h
  | j + 1, hj => by
    rw [mrN]
    refine mrI_ok ?_ (mrN_ok hr h j (by omega))
    rw [gI, Int.toNat_natCast]
    have : row.getD j 0 = row[j] := by rw [List.getD_eq_getElem?_getD, List.getElem?_eq_getElem (by omega)]; rfl
    rw [this]
    exact hr _ (List.getElem_mem _)
theorem mrN_len (c row order : List Int) : ∀ j, (mrN c row order j).2.length = j
  | 0 => rfl
  | j + 1 => by
    have := mrN_len c row order j
    rw [mrN, mrI]
    split
    · simp [this]
    · split <;> simp [this]
theorem mrN_pre (c row order : List Int) : ∀ j, ∃ r, (mrN c row order j).1 = order ++ r
  | 0 => ⟨[], by simp [mrN]⟩
  | j + 1 => by
    obtain ⟨r, hr⟩ := mrN_pre c row order j
    rw [mrN, mrI]
    split
    · exact ⟨r, hr⟩
    · split
      · exact ⟨r, hr⟩
      · exact ⟨_, by rw [hr, List.append_assoc]⟩
theorem getRow {n m : Nat} {t : Tb} (ht : okT n m t) {q : Int} (h0 : 0 ≤ q) (h1 : q < (n : Int)) : t.next.getD q.toNat [] ∈ t.next := by
  have hl := ht.rows
  have : q.toNat < t.next.length := by omega
  rw [List.getD_eq_getElem?_getD, List.getElem?_eq_getElem this]
  exact List.getElem_mem _
theorem minI_ok {n m : Nat} {t : Tb} (ht : okT n m t) {c : List Int} {i : Nat} {s : Ms} (h : Ook n c s.order) : Ook n c (minI t c i s).order := by
  unfold minI
  split
  · rename_i q hq
    have hq := h.rng q (List.mem_of_getElem? hq)
    exact mrN_ok (fun x hx => (ht.rng _ (getRow ht hq.1 hq.2) x hx).2) h _ (Nat.le_refl _)
  · exact h
theorem minN_ok {n m : Nat} {t : Tb} (ht : okT n m t) {c : List Int} : ∀ i, Ook n c (minN t c i).order
  | 0 => ⟨fun x hx => by simp [minN] at hx; subst hx; exact ⟨by omega, by have := ht.pos; omega⟩, by simp [minN]⟩
  | i + 1 => minI_ok ht (minN_ok ht i)
theorem nodup_of_map {α β : Type} {f : α → β} : ∀ {l : List α}, (l.map f).Nodup → l.Nodup
  | [], _ => by simp
  | x :: r, h => by
    rw [List.map_cons, List.nodup_cons] at h
    rw [List.nodup_cons]
    exact ⟨fun hx => h.1 (List.mem_map_of_mem hx), nodup_of_map h.2⟩
theorem Ook.len {n : Nat} {c order : List Int} (h : Ook n c order) : order.length ≤ n := by
  have := nat_len (N := n) (l := order.map Int.toNat) (by
    have h1 := nodup_of_map h.apart
    have h2 := h.rng
    clear h
    induction order with
    | nil => simp
    | cons x r ih =>
      rw [List.nodup_cons] at h1
      rw [List.map_cons, List.nodup_cons]
      refine ⟨fun hm => ?_, ih h1.2 (fun y hy => h2 y (by simp [hy]))⟩
      obtain ⟨y, hy, e⟩ := List.mem_map.1 hm
      have hy0 := h2 y (by simp [hy])
      have hx0 := h2 x (by simp)
      have : y = x := by omega
      exact h1.1 (this ▸ hy)) (fun k hk => by
    obtain ⟨x, hx, rfl⟩ := List.mem_map.1 hk
    have := h.rng x hx
    omega)
  simpa using this
theorem minI_stop {t : Tb} {c : List Int} {i : Nat} {s : Ms} (h : s.order.length ≤ i) : minI t c i s = s := by
  rw [minI, List.getElem?_eq_none h]
theorem minN_stop {t : Tb} {c : List Int} {i : Nat} (h : (minN t c i).order.length ≤ i) : ∀ k, minN t c (i + k) = minN t c i
  | 0 => rfl
  | k + 1 => by
    rw [← Nat.add_assoc, minN, minI_stop (by rw [minN_stop h k]; omega), minN_stop h k]
theorem minN_at {t : Tb} {c : List Int} {i j : Nat} (h : (minN t c i).order.length ≤ i) (hj : i ≤ j) : minN t c j = minN t c i := by
  have := minN_stop h (j - i)
  rwa [show i + (j - i) = j from by omega] at this
theorem parF_len (t : Tb) : ∀ k c cnt, c.length = t.next.length → (parF t k c cnt).length = t.next.length
  | 0, c, _, h => h
  | k + 1, c, cnt, h => by
    rw [parF]
    split
    · exact ref_len t c
    · exact parF_len t k _ _ (ref_len t c)
theorem parS_len (t : Tb) : (parS t).length = t.next.length := parF_len t _ _ _ (by simp [cls0])
end Go.Proofs.Ytkjffppioddnpaa

/- Chapter 42: the minimal table, by the program. -/
set_option maxRecDepth 100000
set_option maxHeartbeats 4000000
set_option linter.all false
namespace Go.Proofs.Ytkjffppioddnpaa
open Go.Vm
def enz : Nat → List Int → List (V × V)
  | _, [] => []
  | i, x :: r => (.int .i64 x, .int .i64 i) :: enz (i + 1) r
theorem keyI {x : Int} : keyOK tt 3 (.int .i64 x) := ⟨rfl, rfl⟩
theorem veqI {x y : Int} : veq (.int .i64 x) (.int .i64 y) = decide (x = y) := by
  show (kindEq .i64 .i64 && (x == y)) = decide (x = y)
  rw [ibeq_dec]; rfl
theorem keys0' {t : Nat} : keysOK tt t [] := fun e he => by simp at he
theorem mPut_nil' {k v : V} : mPut k v [] = [(k, v)] := rfl
theorem keysI {l : List Int} : ∀ i, keysOK tt 3 (enz i l) := by
  induction l with
  | nil => intro i e he; simp [enz] at he
  | cons x r ih =>
    intro i e he
    simp only [enz, List.mem_cons] at he
    rcases he with rfl | he
    · exact keyI
    · exact ih (i + 1) e he
theorem mHas_enz {x : Int} : ∀ (l : List Int) (i : Nat), mHas (.int .i64 x) (enz i l) = (idxI x l).isSome
  | [], _ => rfl
  | y :: r, i => by
    simp only [enz, mHas, veqI, idxI]
    by_cases e : x = y
    · simp [e]
    · simp [e, mHas_enz r (i + 1)]
theorem mGet_enz {x : Int} (z : V) : ∀ (l : List Int) (i : Nat), mGet z (.int .i64 x) (enz i l) = numV i z (idxI x l)
  | [], _ => rfl
  | y :: r, i => by
    simp only [enz, mGet, veqI, idxI]
    by_cases e : x = y
    · simp [e, numV]
    · simp only [e, decide_false, mGet_enz z r (i + 1), if_false]
      cases idxI x r <;> simp [numV]
      omega
theorem mPut_enz {x : Int} : ∀ (l : List Int) (i : Nat), idxI x l = none → mPut (.int .i64 x) (.int .i64 ((i + l.length : Nat) : Int)) (enz i l) = enz i (l ++ [x])
  | [], _, _ => rfl
  | y :: r, i, hi => by
    simp only [idxI] at hi
    by_cases e : x = y
    · simp [e] at hi
    · simp only [e, if_false, Option.map_eq_none_iff] at hi
      have := mPut_enz r (i + 1) hi
      simp only [enz, mPut, veqI, e, decide_false, List.cons_append, List.length_cons]
      rw [← this, show i + (r.length + 1) = i + 1 + r.length from by omega]
theorem bel_enz1 {n : Nat} : ∀ (l : List Int) (i : Nat), belAll n ((enz i l).map (·.1)) = true
  | [], _ => rfl
  | x :: r, i => by rw [enz, List.map_cons, belAll_cons, bel_enz1 r]; rfl
theorem bel_enz2 {n : Nat} : ∀ (l : List Int) (i : Nat), belAll n ((enz i l).map (·.2)) = true
  | [], _ => rfl
  | x :: r, i => by rw [enz, List.map_cons, belAll_cons, bel_enz2 r]; rfl
theorem bel_mapZ {n i : Nat} {l : List Int} : (Ob.map (enz i l)).bel n = true := by simp only [Ob.bel, bel_enz1, bel_enz2]; rfl
theorem minN0 {t : Tb} {c : List Int} : minN t c 0 = ⟨[0], [], []⟩ := rfl
theorem mrN0 {c row order : List Int} : mrN c row order 0 = (order, []) := rfl
def cfgM : Cfg := { lv := [16], ef := [], ord := [], em := [] }
def objM (t : Tb) (c : List Int) (s : Ms) : List Ob := [.cells 0 (encT t), .cells 0 [.sl true [] 0, .sl true [] 0], .cells (s.order.length - 1) (s.order.map (.int .i64)), .map (enz 0 (s.order.map (gI c))), .cells 0 [.buf 5 s.rows.length 0 s.rows.length 1, .buf 6 s.accs.length 0 s.accs.length 1], .cells s.rows.length (s.rows.map slI), .cells s.accs.length (s.accs.map .bool)]
def objQ (t : Tb) (c : List Int) (s : Ms) (m j : Nat) (r : List Int × List Int) : List Ob := [.cells 0 (encT t), .cells 0 [.sl true [] 0, .sl true [] 0], .cells (r.1.length - 1) (r.1.map (.int .i64)), .map (enz 0 (r.1.map (gI c))), .cells 0 [.buf 5 s.rows.length 0 s.rows.length 1, .buf 6 s.accs.length 0 s.accs.length 1], .cells s.rows.length (s.rows.map slI), .cells s.accs.length (s.accs.map .bool), .cells 0 ((r.2 ++ List.replicate (m - j) 0).map (.int .i64))]
theorem len_objM {t : Tb} {c : List Int} {s : Ms} : (objM t c s).length = 7 := rfl
theorem len_objQ {t : Tb} {c : List Int} {s : Ms} {m j : Nat} {r : List Int × List Int} : (objQ t c s m j r).length = 8 := rfl
theorem bel_objM {t : Tb} {c : List Int} {s : Ms} : belObs 7 (objM t c s) = true := by
  simp only [objM, belObs_cons, belObs_nil, belO_cells, bel_ints, bel_bools, bel_rows, bel_mapZ, bel_encT, belAll_cons, belAll_nil, bel_buf, bel_sl]
  rfl
theorem bel_objQ {t : Tb} {c : List Int} {s : Ms} {m j : Nat} {r : List Int × List Int} : belObs 8 (objQ t c s m j r) = true := by
  simp only [objQ, belObs_cons, belObs_nil, belO_cells, bel_ints, bel_bools, bel_rows, bel_mapZ, bel_encT, belAll_cons, belAll_nil, bel_buf, bel_sl]
  rfl
theorem pc26 {n m : Nat} {t : Tb} (ht : okT n m t) : PC Try.prog 26 [.agg (encT t)] (.agg (encT (minS t))) := by
  have h40 := pc40 ht
  have hcl := parS_len t
  have hn1 := ht.rows
  have hn2 := ht.accs
  have hpos := ht.pos
  have hbig := ht.big
  rw [minS]
  generalize hcc : parS t = c at h40 hcl
  have hok := fun i => minN_ok ht (c := c) i
  have hst := fun (i : Nat) (h : (minN t c i).order.length ≤ i) (hi : i ≤ n) => minN_at h hi
  rw [minF, hn1]
  obtain ⟨next, acc⟩ := t
  simp only at hn1 hn2 hcl
  have hc0 : 0 < c.length := by omega
  have hg0 : gI c 0 = c[0] := by
    rw [gI]; exact lgetD hc0
  refine PC.cutN tok mixed cfgM 4 Try.func26 rfl Try.call26 (by simp [belAll_append, bel_rep, bel_mapZ, bel_ints, bel_bools, bel_rows, bel_slI, bel_slR, bel_slB, bel_encT, len_objM, bel_objM, len_objQ, bel_objQ]) (by simp [belAll_append, bel_rep, bel_mapZ, bel_ints, bel_bools, bel_rows, bel_slI, bel_slR, bel_slB, bel_encT, len_objM, bel_objM, len_objQ, bel_objQ, bel_encT]) ?_
  simp (maxSteps := 2000000) -implicitDefEqProofs +contextual (disch := first | assumption | omega | decide +kernel) only [push_cast, ↓capI, br2_true, br2_false, frk_tt, frk_tf, frk_f, frkD_tt, frkD_tf, frkD_f, pk2_true, pk2_false, imp_true, seval, Nat.reduceLeDiff, Nat.reduceEqDiff, reduceCtorEq, ↓reduceIte, cfg0, cfgM, ones_ints, ones_bools, getV_map, getV_mapO, List.length_map, Nat.mul_one, slI, slR, slB, encT, rep_ints, numV, Option.isSome_some, Option.isSome_none, keyI, keys0', keysI, mPut_nil', Try.ntmps26, cutAt_z, cutAt_s]
  refine callO.pc h40 ?_
  simp (maxSteps := 2000000) -implicitDefEqProofs +contextual (disch := first | assumption | omega | decide +kernel) only [push_cast, ↓capI, br2_true, br2_false, frk_tt, frk_tf, frk_f, frkD_tt, frkD_tf, frkD_f, pk2_true, pk2_false, imp_true, seval, Nat.reduceLeDiff, Nat.reduceEqDiff, reduceCtorEq, ↓reduceIte, cfg0, cfgM, ones_ints, ones_bools, getV_map, getV_mapO, List.length_map, Nat.mul_one, slI, slR, slB, encT, rep_ints, numV, Option.isSome_some, Option.isSome_none, keyI, keys0', keysI, mPut_nil', cutAt_z, cutAt_s, hc0]
  refine cutK.gn ((Gn.weak (tm' := (.dead :: .ptr 0 0 0 :: .ptr 1 0 0 :: .sl false (c.map (.int .i64)) c.length :: .buf 2 0 0 1 1 :: .mp 3 :: .ptr 4 0 0 :: .dead :: .dead :: .dead :: .dead :: .dead :: .dead :: .dead :: .dead :: .dead :: .dead :: .dead :: .dead :: .dead :: .dead :: .dead :: .dead :: .dead :: .dead :: .dead :: .dead :: .dead :: .dead :: .dead :: .dead :: .dead :: .dead :: .dead :: .dead :: .dead :: .dead :: .dead :: .dead :: .dead :: .dead :: .dead :: .dead :: .dead :: .dead :: .dead :: .dead :: .dead :: .dead :: .dead :: .dead :: .dead :: .dead :: .dead :: .dead :: .dead :: .dead :: .dead :: .dead :: .dead :: .dead :: .dead :: .dead :: .dead :: .dead :: .dead :: .dead :: .dead :: .dead :: .dead :: .dead :: .dead :: .dead :: .dead :: .dead :: .dead :: .dead :: .dead :: .dead :: .dead :: .dead :: .dead :: .dead :: .dead :: .dead :: .dead :: .dead :: .dead :: .dead :: .dead :: .dead :: .dead :: .dead :: .dead :: .dead :: .dead :: .dead :: .dead :: .dead :: .dead :: .dead :: .dead :: .dead :: .dead :: .dead :: .dead :: .dead :: [])) (by simp [wk, minN0, mrN0])).trans (((Gn.ownCell (id := 4) (i := 0) (sz := 1) rfl rfl)).trans (Gn.ownCell (id := 4) (i := 1) (sz := 1) rfl rfl))) (cutK.go (cfg := cfg0) tok mixed ?_)
  simp (maxSteps := 2000000) -implicitDefEqProofs +contextual (disch := first | assumption | omega | decide +kernel) only [push_cast, ↓capI, br2_true, br2_false, frk_tt, frk_tf, frk_f, frkD_tt, frkD_tf, frkD_f, pk2_true, pk2_false, imp_true, seval, Nat.reduceLeDiff, Nat.reduceEqDiff, reduceCtorEq, ↓reduceIte, cfg0, cfgM, ones_ints, ones_bools, getV_map, getV_mapO, List.length_map, Nat.mul_one, slI, slR, slB, encT, rep_ints, numV, Option.isSome_some, Option.isSome_none, keyI, keys0', keysI, mPut_nil', List.set]
  refine T.lp tok mixed cfg0 (fun ((i : Nat)) => dd 1 (kp 3 (sv (.buf 2 ((minN ⟨next, acc⟩ c i).order.length - 1) 0 (minN ⟨next, acc⟩ c i).order.length 1) (kp 2 (sv (.int .i64 (i : Int)) (dd 99 (nl))))))) (fun H0 ((i : Nat)) => objM ⟨next, acc⟩ c (minN ⟨next, acc⟩ c i)) (fun ((i : Nat)) => i ≤ (minN ⟨next, acc⟩ c i).order.length ∧ (minN ⟨next, acc⟩ c i).rows.length = i ∧ (minN ⟨next, acc⟩ c i).accs.length = i) (fun ((i : Nat)) => n - i) (0) ?_ ?_ ?_
  · exact ⟨by simp [minN0], rfl, rfl⟩
  · exact Gn.canon (J := []) (by simp [List.append_nil, encT, slR, slB, slI, minN0, mrN0, enz, objM, hg0]) (by simp [wk, minN0, mrN0, putT, kp, dd, sv, nl]) (by simp [List.length_append, len_objM, len_objQ]) (by simp [belAll_append, bel_rep, bel_mapZ, bel_ints, bel_bools, bel_rows, bel_slI, bel_slR, bel_slB, bel_encT, len_objM, bel_objM, len_objQ, bel_objQ, kp, dd, sv, nl]) (by rw [len_objM]; exact bel_objM)
  · intro i hi
    obtain ⟨hi, hr, ha⟩ := hi
    have hoki := hok i
    have hnext : minN ⟨next, acc⟩ c (i + 1) = minI ⟨next, acc⟩ c i (minN ⟨next, acc⟩ c i) := rfl
    have hstop := hst i
    generalize hs : minN ⟨next, acc⟩ c i = s at hoki hnext hstop hi hr ha
    simp only [hs]
    obtain ⟨order, rows, accs⟩ := s
    simp only at hoki hi hr ha hstop
    have hlen := hoki.len
    by_cases hlt : i < order.length
    · obtain ⟨q, hq⟩ : ∃ y, y = order[i] := ⟨_, rfl⟩
      have hqr := hoki.rng q (hq ▸ List.getElem_mem hlt)
      obtain ⟨k, rfl⟩ : ∃ k : Nat, q = (k : Int) := ⟨q.toNat, by omega⟩
      have hkn : k < next.length := by omega
      have hka : k < acc.length := by omega
      have hrow := ht.row next[k] (List.getElem_mem hkn)
      have hrng := ht.rng next[k] (List.getElem_mem hkn)
      have hcols := ht.cols
      have hgr : next.getD k [] = next[k] := lgetD hkn
      have hga : gB acc (k : Int) = acc[k] := by rw [gB, Int.toNat_natCast]; exact lgetD hka
      have hx1 : objM ⟨next, acc⟩ c ⟨order, rows, accs⟩ = [.cells 0 (encT ⟨next, acc⟩), .cells 0 [.sl true [] 0, .sl true [] 0], .cells (order.length - 1) (order.map (.int .i64)), .map (enz 0 (order.map (gI c))), .cells 0 [.buf 5 rows.length 0 rows.length 1, .buf 6 accs.length 0 accs.length 1], .cells rows.length (rows.map slI), .cells accs.length (accs.map .bool)] := rfl
      have hq' := hq.symm
      simp (maxSteps := 2000000) -implicitDefEqProofs +contextual (disch := first | assumption | omega | decide +kernel) only [push_cast, ↓capI, br2_true, br2_false, frk_tt, frk_tf, frk_f, frkD_tt, frkD_tf, frkD_f, pk2_true, pk2_false, imp_true, seval, Nat.reduceLeDiff, Nat.reduceEqDiff, reduceCtorEq, ↓reduceIte, cfg0, cfgM, ones_ints, ones_bools, getV_map, getV_mapO, List.length_map, Nat.mul_one, slI, slR, slB, encT, rep_ints, numV, Option.isSome_some, Option.isSome_none, keyI, keys0', keysI, mPut_nil', hx1, hlt, hq', hkn, hrow]
      refine T.lp tok mixed cfg0 (fun ((j : Nat)) => dd 1 (kp 3 (sv (.buf 2 ((mrN c next[k] order j).1.length - 1) 0 (mrN c next[k] order j).1.length 1) (kp 5 (dd 33 (kp 2 (sv (.int .i64 (j : Int)) (dd 61 (nl))))))))) (fun H0 ((j : Nat)) => objQ ⟨next, acc⟩ c ⟨order, rows, accs⟩ m j (mrN c next[k] order j)) (fun ((j : Nat)) => j ≤ m) (fun ((j : Nat)) => m - j) (0) ?_ ?_ ?_
      · omega
      · exact Gn.canon (J := []) (by simp [List.append_nil, encT, slR, slB, slI, minN0, mrN0, enz, objQ]) (by simp [wk, minN0, mrN0, putT, kp, dd, sv, nl]) (by simp [List.length_append, len_objM, len_objQ]) (by simp [belAll_append, bel_rep, bel_mapZ, bel_ints, bel_bools, bel_rows, bel_slI, bel_slR, bel_slB, bel_encT, len_objM, bel_objM, len_objQ, bel_objQ, kp, dd, sv, nl]) (by rw [len_objQ]; exact bel_objQ)
      · intro j hj
        have hj0 : j ≤ m := hj
        have hokj := mrN_ok (n := n) (c := c) (row := next[k]) (fun x hx => (hrng x hx).2) hoki j (by omega)
        have hrl := mrN_len c next[k] order j
        obtain ⟨rs, hrs⟩ := mrN_pre c next[k] order j
        have hnx : mrN c next[k] order (j + 1) = mrI c (gI next[k] j) (mrN c next[k] order j) := rfl
        have hlast : j = m → mrN c next[k] order m = mrN c next[k] order j := fun e => by rw [e]
        generalize hR : mrN c next[k] order j = r at hokj hrl hrs hnx hlast
        simp only [hR]
        obtain ⟨ord2, row⟩ := r
        simp only at hokj hrl hrs
        have hlen2 := hokj.len
        have hx2 : objQ ⟨next, acc⟩ c ⟨order, rows, accs⟩ m j (ord2, row) = [.cells 0 (encT ⟨next, acc⟩), .cells 0 [.sl true [] 0, .sl true [] 0], .cells (ord2.length - 1) (ord2.map (.int .i64)), .map (enz 0 (ord2.map (gI c))), .cells 0 [.buf 5 rows.length 0 rows.length 1, .buf 6 accs.length 0 accs.length 1], .cells rows.length (rows.map slI), .cells accs.length (accs.map .bool), .cells 0 ((row ++ List.replicate (m - j) 0).map (.int .i64))] := rfl
        by_cases hjm : j < m
        · have hjr : j < next[k].length := by omega
          have p1 := fun y => put_row1 (y := y) hrl hjm
          have p2 := fun y z => put_row2 (t := List.replicate (m - (j + 1)) 0) (y := y) (z := z) hrl
          have hlr : ((row ++ List.replicate (m - j) (0 : Int)).map (V.int .i64)).length = m := by simp; omega
          have hx := hrng _ (List.getElem_mem hjr)
          have hgj : gI next[k] (j : Int) = next[k][j] := by rw [gI, Int.toNat_natCast]; exact lgetD hjr
          rw [hgj] at hnx
          by_cases hneg : next[k][j] < 0
          · have hI : mrI c next[k][j] (ord2, row) = (ord2, row ++ [-1]) := by rw [mrI, if_pos (.inl hneg)]
            rw [hI] at hnx
            rw [← hrow] at hjm
            simp (maxSteps := 2000000) -implicitDefEqProofs +contextual (disch := first | assumption | omega | decide +kernel) only [push_cast, ↓capI, br2_true, br2_false, frk_tt, frk_tf, frk_f, frkD_tt, frkD_tf, frkD_f, pk2_true, pk2_false, imp_true, seval, Nat.reduceLeDiff, Nat.reduceEqDiff, reduceCtorEq, ↓reduceIte, cfg0, cfgM, ones_ints, ones_bools, getV_map, getV_mapO, List.length_map, Nat.mul_one, slI, slR, slB, encT, rep_ints, numV, Option.isSome_some, Option.isSome_none, keyI, keys0', keysI, mPut_nil', hx2, hjm, hjr, hlr, p1, hneg, hrow]
            refine ⟨(j + 1), by omega, by (try simp only); omega, ?_⟩; exact Gn.canon (by first | rfl | (simp [List.append_nil, encT, slR, slB, slI, minN0, mrN0, enz, hnx, objQ]; rfl)) (by simp [wk, minN0, mrN0, hnx, objQ]) (by simp [List.length_append, len_objM, len_objQ]) (by simp [belAll_append, bel_rep, bel_mapZ, bel_ints, bel_bools, bel_rows, bel_slI, bel_slR, bel_slB, bel_encT, len_objM, bel_objM, len_objQ, bel_objQ]) (by simp [belAll_append, bel_rep, bel_mapZ, bel_ints, bel_bools, bel_rows, bel_slI, bel_slR, bel_slB, bel_encT, len_objM, bel_objM, len_objQ, bel_objQ])
          · obtain ⟨l, hl⟩ : ∃ l : Nat, next[k][j] = (l : Int) := ⟨next[k][j].toNat, by omega⟩
            have hlc : l < c.length := by omega
            have hgl : gI c (l : Int) = c[l] := by rw [gI, Int.toNat_natCast]; exact lgetD hlc
            rw [hl] at hnx hneg
            by_cases hneg2 : c[l] < 0
            · have hI : mrI c (l : Int) (ord2, row) = (ord2, row ++ [-1]) := by rw [mrI, if_pos (.inr (by rw [hgl]; exact hneg2))]
              rw [hI] at hnx
              rw [← hrow] at hjm
              simp (maxSteps := 2000000) -implicitDefEqProofs +contextual (disch := first | assumption | omega | decide +kernel) only [push_cast, ↓capI, br2_true, br2_false, frk_tt, frk_tf, frk_f, frkD_tt, frkD_tf, frkD_f, pk2_true, pk2_false, imp_true, seval, Nat.reduceLeDiff, Nat.reduceEqDiff, reduceCtorEq, ↓reduceIte, cfg0, cfgM, ones_ints, ones_bools, getV_map, getV_mapO, List.length_map, Nat.mul_one, slI, slR, slB, encT, rep_ints, numV, Option.isSome_some, Option.isSome_none, keyI, keys0', keysI, mPut_nil', hx2, hjm, hjr, hlr, p1, hl, hlc, hneg2, hrow]
              refine ⟨(j + 1), by omega, by (try simp only); omega, ?_⟩; exact Gn.canon (by first | rfl | (simp [List.append_nil, encT, slR, slB, slI, minN0, mrN0, enz, hnx, objQ]; rfl)) (by simp [wk, minN0, mrN0, hnx, objQ]) (by simp [List.length_append, len_objM, len_objQ]) (by simp [belAll_append, bel_rep, bel_mapZ, bel_ints, bel_bools, bel_rows, bel_slI, bel_slR, bel_slB, bel_encT, len_objM, bel_objM, len_objQ, bel_objQ]) (by simp [belAll_append, bel_rep, bel_mapZ, bel_ints, bel_bools, bel_rows, bel_slI, bel_slR, bel_slB, bel_encT, len_objM, bel_objM, len_objQ, bel_objQ])
            · have hmh := mHas_enz (x := c[l]) (ord2.map (gI c)) 0
              have hmg := fun z => mGet_enz (x := c[l]) z (ord2.map (gI c)) 0
              have hmp := mPut_enz (x := c[l]) (ord2.map (gI c)) 0
              rw [Nat.zero_add, List.length_map] at hmp
              cases hik : idxI c[l] (ord2.map (gI c)) with
              | some u =>
                have hI : mrI c (l : Int) (ord2, row) = (ord2, row ++ [(u : Int)]) := by rw [mrI, if_neg (by rw [hgl]; omega), hgl]; simp only [hik]
                rw [hI] at hnx
                rw [hik] at hmh hmg
                rw [← hrow] at hjm
                simp (maxSteps := 2000000) -implicitDefEqProofs +contextual (disch := first | assumption | omega | decide +kernel) only [push_cast, ↓capI, br2_true, br2_false, frk_tt, frk_tf, frk_f, frkD_tt, frkD_tf, frkD_f, pk2_true, pk2_false, imp_true, seval, Nat.reduceLeDiff, Nat.reduceEqDiff, reduceCtorEq, ↓reduceIte, cfg0, cfgM, ones_ints, ones_bools, getV_map, getV_mapO, List.length_map, Nat.mul_one, slI, slR, slB, encT, rep_ints, numV, Option.isSome_some, Option.isSome_none, keyI, keys0', keysI, mPut_nil', hx2, hjm, hjr, hlr, p1, p2, hl, hlc, hneg2, hrow, hmh, hmg, Nat.zero_add]
                refine ⟨(j + 1), by omega, by (try simp only); omega, ?_⟩; exact Gn.canon (by first | rfl | (simp [List.append_nil, encT, slR, slB, slI, minN0, mrN0, enz, hnx, objQ]; rfl)) (by simp [wk, minN0, mrN0, hnx, objQ]) (by simp [List.length_append, len_objM, len_objQ]) (by simp [belAll_append, bel_rep, bel_mapZ, bel_ints, bel_bools, bel_rows, bel_slI, bel_slR, bel_slB, bel_encT, len_objM, bel_objM, len_objQ, bel_objQ]) (by simp [belAll_append, bel_rep, bel_mapZ, bel_ints, bel_bools, bel_rows, bel_slI, bel_slR, bel_slB, bel_encT, len_objM, bel_objM, len_objQ, bel_objQ])
              | none =>
                have hI : mrI c (l : Int) (ord2, row) = (ord2 ++ [(l : Int)], row ++ [(ord2.length : Int)]) := by rw [mrI, if_neg (by rw [hgl]; omega), hgl]; simp only [hik]
                rw [hI] at hnx
                rw [hik] at hmh hmg
                have hmp2 := hmp hik
                have hpos2 : 0 < ord2.length := by rw [hrs, List.length_append]; omega
                have hap : ord2.length - 1 + 1 = ord2.length + 1 - 1 := by omega
                rw [← hrow] at hjm
                simp (maxSteps := 2000000) -implicitDefEqProofs +contextual (disch := first | assumption | omega | decide +kernel) only [push_cast, ↓capI, br2_true, br2_false, frk_tt, frk_tf, frk_f, frkD_tt, frkD_tf, frkD_f, pk2_true, pk2_false, imp_true, seval, Nat.reduceLeDiff, Nat.reduceEqDiff, reduceCtorEq, ↓reduceIte, cfg0, cfgM, ones_ints, ones_bools, getV_map, getV_mapO, List.length_map, Nat.mul_one, slI, slR, slB, encT, rep_ints, numV, Option.isSome_some, Option.isSome_none, keyI, keys0', keysI, mPut_nil', hx2, hjm, hjr, hlr, p1, p2, hl, hlc, hneg2, hrow, hmh, hmg, hmp2, hap, Nat.zero_add]
                refine ⟨(j + 1), by omega, by (try simp only); omega, ?_⟩; exact Gn.canon (by first | rfl | (simp [List.append_nil, encT, slR, slB, slI, minN0, mrN0, enz, hnx, objQ, hgl]; rfl)) (by simp [wk, minN0, mrN0, hnx, objQ, hgl]) (by simp [List.length_append, len_objM, len_objQ]) (by simp [belAll_append, bel_rep, bel_mapZ, bel_ints, bel_bools, bel_rows, bel_slI, bel_slR, bel_slB, bel_encT, len_objM, bel_objM, len_objQ, bel_objQ]) (by simp [belAll_append, bel_rep, bel_mapZ, bel_ints, bel_bools, bel_rows, bel_slI, bel_slR, bel_slB, bel_encT, len_objM, bel_objM, len_objQ, bel_objQ])
        · have hjm2 : j = m := by omega
          have hjr : ¬ j < next[k].length := by omega
          have hdet : minI ⟨next, acc⟩ c i ⟨order, rows, accs⟩ = ⟨ord2, rows ++ [row], accs ++ [acc[k]]⟩ := by
            have e1 : order[i]? = some (k : Int) := by rw [hq]; exact List.getElem?_eq_getElem hlt
            simp only [minI, e1, Int.toNat_natCast, hgr, hrow, hlast hjm2, hga]
          rw [hdet] at hnext
          have hio : i < ord2.length := by rw [hrs, List.length_append]; omega
          subst hjm2
          simp (maxSteps := 2000000) -implicitDefEqProofs +contextual (disch := first | assumption | omega | decide +kernel) only [push_cast, ↓capI, br2_true, br2_false, frk_tt, frk_tf, frk_f, frkD_tt, frkD_tf, frkD_f, pk2_true, pk2_false, imp_true, seval, Nat.reduceLeDiff, Nat.reduceEqDiff, reduceCtorEq, ↓reduceIte, cfg0, cfgM, ones_ints, ones_bools, getV_map, getV_mapO, List.length_map, Nat.mul_one, slI, slR, slB, encT, rep_ints, numV, Option.isSome_some, Option.isSome_none, keyI, keys0', keysI, mPut_nil', hx2, hjr, hka]
          refine ⟨(i + 1), ⟨by rw [hnext]; exact hio, by rw [hnext]; simp [hr], by rw [hnext]; simp [ha]⟩, by (try simp only); omega, ?_⟩; refine (Gn.freeze (id := 7) rfl).trans ?_; exact Gn.canon (by first | rfl | (simp [List.append_nil, encT, slR, slB, slI, minN0, mrN0, enz, fzs, fz, fzs_ok, fzH, setO, getO, Nat.beq, List.take_of_length_le, belAll_append, bel_rep, bel_mapZ, bel_ints, bel_bools, bel_rows, bel_slI, bel_slR, bel_slB, bel_encT, len_objM, bel_objM, len_objQ, bel_objQ, hnext, objM, slI, hrl, fzs_app]; done) | (simp [List.append_nil, encT, slR, slB, slI, minN0, mrN0, enz, fzs, fz, fzs_ok, fzH, setO, getO, Nat.beq, List.take_of_length_le, belAll_append, bel_rep, bel_mapZ, bel_ints, bel_bools, bel_rows, bel_slI, bel_slR, bel_slB, bel_encT, len_objM, bel_objM, len_objQ, bel_objQ, hnext, objM, slI, hrl, fzs_app]; rfl)) (by simp [wk, minN0, mrN0, fzs, fz, fzs_ok, fzH, setO, getO, Nat.beq, List.take_of_length_le, belAll_append, bel_rep, bel_mapZ, bel_ints, bel_bools, bel_rows, bel_slI, bel_slR, bel_slB, bel_encT, len_objM, bel_objM, len_objQ, bel_objQ, hnext, objM, slI, hrl, fzs_app, cfg0, cfgM, ones_ints, ones_bools, getV_map, getV_mapO, List.length_map, Nat.mul_one, slI, slR, slB, encT, rep_ints, numV, Option.isSome_some, Option.isSome_none, keyI, keys0', keysI, mPut_nil']) (by simp [List.length_append, len_objM, len_objQ]) (by simp [belAll_append, bel_rep, bel_mapZ, bel_ints, bel_bools, bel_rows, bel_slI, bel_slR, bel_slB, bel_encT, len_objM, bel_objM, len_objQ, bel_objQ]) (by simp [belAll_append, bel_rep, bel_mapZ, bel_ints, bel_bools, bel_rows, bel_slI, bel_slR, bel_slB, bel_encT, len_objM, bel_objM, len_objQ, bel_objQ])
    · rw [hstop (by omega) (by omega)]
      have hx1 : objM ⟨next, acc⟩ c ⟨order, rows, accs⟩ = [.cells 0 (encT ⟨next, acc⟩), .cells 0 [.sl true [] 0, .sl true [] 0], .cells (order.length - 1) (order.map (.int .i64)), .map (enz 0 (order.map (gI c))), .cells 0 [.buf 5 rows.length 0 rows.length 1, .buf 6 accs.length 0 accs.length 1], .cells rows.length (rows.map slI), .cells accs.length (accs.map .bool)] := rfl
      simp (maxSteps := 2000000) -implicitDefEqProofs +contextual (disch := first | assumption | omega | decide +kernel) only [push_cast, ↓capI, br2_true, br2_false, frk_tt, frk_tf, frk_f, frkD_tt, frkD_tf, frkD_f, pk2_true, pk2_false, imp_true, seval, Nat.reduceLeDiff, Nat.reduceEqDiff, reduceCtorEq, ↓reduceIte, cfg0, cfgM, ones_ints, ones_bools, getV_map, getV_mapO, List.length_map, Nat.mul_one, slI, slR, slB, encT, rep_ints, numV, Option.isSome_some, Option.isSome_none, keyI, keys0', keysI, mPut_nil', hx1, hlt]
      refine endK.gn (Gn.freeze (id := 5) rfl) ?_; refine endK.gn (Gn.freeze (id := 6) rfl) ?_; refine endK.ret ?_ (by first | rfl | simp [belAll_append, bel_rep, bel_mapZ, bel_ints, bel_bools, bel_rows, bel_slI, bel_slR, bel_slB, bel_encT, len_objM, bel_objM, len_objQ, bel_objQ]); simp [belAll_append, bel_rep, bel_mapZ, bel_ints, bel_bools, bel_rows, bel_slI, bel_slR, bel_slB, bel_encT, len_objM, bel_objM, len_objQ, bel_objQ, fzs_ok, imp, lenOK_iff, List.take_of_length_le, evRes, getT, getO, setO, fzs, fz, fzH, Nat.beq, retV, Res.then, ldT, ldR, mkV, getV, cfg0, cfgM, ones_ints, ones_bools, getV_map, getV_mapO, List.length_map, Nat.mul_one, slI, slR, slB, encT, rep_ints, numV, Option.isSome_some, Option.isSome_none, keyI, keys0', keysI, mPut_nil', Try.f26,  encT, slR, slB, tt_52]
end Go.Proofs.Ytkjffppioddnpaa


/-
  Joined by a program from the texts Sht Dst L6.
-/
import Derived.Test.YticeakkgoafiaaaMg
import Derived.Test.YticeakkgoafiaaaMl
import Derived.Test.YticeakkgoafiaaaMa
/- Chapter 43: distances of switches (plain). -/
set_option maxRecDepth 100000
set_option maxHeartbeats 4000000
set_option linter.all false
namespace Go.Proofs.Yticeakkgoafiaaa
open Go.Vm Go.ChangeShapes Go.WideShapes Go.ChangeAt Go.RowKit
def nbN (t : Top.Tp) (a : Nat) : List Nat := (List.range t.ports.length).filter fun (b : Nat) => t.links.any (Top.lnk a b)
theorem row_nb {t : Top.Tp} {a : Nat} : Top.row t a t.ports.length = (nbN t a).map Int.ofNat := rfl
theorem mem_nb {t : Top.Tp} {a b : Nat} : b ∈ nbN t a ↔ b < t.ports.length ∧ t.links.any (Top.lnk a b) = true := by
 rw [nbN, List.mem_filter, List.mem_range]
theorem lnk_symm {a b : Int} {l : Top.Lk} : Top.lnk a b l = Top.lnk b a l := by
 rw [Top.lnk, Top.lnk, Bool.or_comm]
 congr 2 <;> rw [Bool.and_comm]
theorem nb_symm {t : Top.Tp} {a b : Nat} (ha : a < t.ports.length) (h : b ∈ nbN t a) : a ∈ nbN t b := by
 rw [mem_nb] at h ⊢
 refine ⟨ha, ?_⟩
 have := h.2
 rw [List.any_eq_true] at this ⊢
 obtain ⟨l, hl, h2⟩ := this
 exact ⟨l, hl, by rw [lnk_symm]; exact h2⟩
theorem nb_port {t : Top.Tp} (h0 : Top.chk t = 0) {s : Nat} {p : Int} (h : (Top.peer t ((s : Int), p)).2 = 0) : ∃ v : Nat, (Top.peer t ((s : Int), p)).1.1 = (v : Int) ∧ v ∈ nbN t s := by
 rcases (Top.chk_valid h0).portIs h0 ((s : Int), p) with ⟨_, h1⟩ | ⟨_, _, _, _, _, h1⟩ | ⟨k, hk, q, x, y, _, _, _, h1, _, hx, hy, _, hyn, _, hl, _⟩
 ·rw [h1] at h; cases h
 ·rw [h1] at h; cases h
 ·simp only at hx
  have : x = s := by omega
  subst this
  exact ⟨y, by rw [h1]; exact hy, mem_nb.2 ⟨hyn, List.any_eq_true.2 ⟨_, List.getElem_mem hk, hl⟩⟩⟩
theorem port_nb {t : Top.Tp} (h0 : Top.chk t = 0) {s v : Nat} (h : v ∈ nbN t s) : ∃ (p : Int) (i : Int), Top.peer t ((s : Int), p) = (((v : Int), i), 0) := by
 have hv := Top.chk_valid h0
 obtain ⟨_, hl⟩ := mem_nb.1 h
 rw [List.any_eq_true] at hl
 obtain ⟨l, hm, hl⟩ := hl
 obtain ⟨k, hk, rfl⟩ := List.getElem_of_mem hm
 simp only [Top.lnk, Bool.and_eq_true, Bool.or_eq_true, Bool.not_eq_true', decide_eq_true_eq] at hl
 obtain ⟨hd, hl⟩ := hl
 have key : ∀ q : Int × Int, (t.links[k].a = q ∨ t.links[k].b = q) → q.1 = (s : Int) → ∃ (p : Int) (i : Int), Top.peer t ((s : Int), p) = (((v : Int), i), 0) := by
  intro q hq h1
  have hi := hv.linkIs hk hq
  rcases hv.portIs h0 q with ⟨h2, _⟩ | ⟨k', hk', h2, _, h3, _⟩ | ⟨k', hk', q', x, y, h2, _, _, h1', _, hx, hy, _, _, hxy, hln, _⟩
  ·rw [hi] at h2; simp at h2
  ·rw [hi] at h2
   have : k = k' := by simp at h2; omega
   subst this
   rw [hd] at h3; cases h3
  ·rw [hi] at h2
   have : k = k' := by simp at h2; omega
   subst this
   have hxs : x = s := by omega
   subst hxs
   have hyv : y = v := by
    simp only [Top.lnk, Bool.and_eq_true, Bool.or_eq_true, Bool.not_eq_true', decide_eq_true_eq] at hln
    rcases hl with ⟨a1, a2⟩ | ⟨a1, a2⟩ <;> rcases hln.2 with ⟨b1, b2⟩ | ⟨b1, b2⟩ <;> omega
   subst hyv
   refine ⟨q.2, q'.2, ?_⟩
   rw [show ((x : Int), q.2) = q from by rw [← h1], h1', ← hy]
 rcases hl with ⟨a1, _⟩ | ⟨a1, _⟩
 ·exact key _ (.inl rfl) a1
 ·exact key _ (.inr rfl) a1
def Wk (t : Top.Tp) : Nat → Nat → Nat → Prop
 | 0, s, d => s = d
 | n + 1, s, d => ∃ v, v ∈ nbN t s ∧ Wk t n v d
theorem Wk.snoc {t : Top.Tp} {v u : Nat} (h2 : u ∈ nbN t v) : ∀ {n s : Nat}, Wk t n s v → Wk t (n + 1) s u
 | 0, s, h => ⟨u, by rw [show s = v from h]; exact h2, rfl⟩
 | n + 1, s, h => by
  obtain ⟨w, hw, h⟩ := h
  exact ⟨w, hw, Wk.snoc h2 h⟩
theorem Wk.symm {t : Top.Tp} : ∀ {n s d : Nat}, s < t.ports.length → Wk t n s d → Wk t n d s
 | 0, s, d, _, h => Eq.symm h
 | n + 1, s, d, hs, h => by
  obtain ⟨v, hv, h⟩ := h
  exact Wk.snoc (nb_symm hs hv) (Wk.symm (mem_nb.1 hv).1 h)
theorem vld_Wk {t : Top.Tp} (h0 : Top.chk t = 0) {dst : Int × Int} {d : Nat} (hd : dst.1 = (d : Int)) : ∀ (l : List Hop) (s : Nat) (i : Int), vld t dst true ((s : Int), i) l = true → ∃ n, l.length = n + 1 ∧ Wk t n s d
 | [], _, _, h => by cases h
 | [h], s, i, hv => by
  obtain ⟨h1, h2⟩ := vld_head hv
  rw [vld_one h1 h2, Bool.and_true, decide_eq_true_eq] at hv
  refine ⟨0, rfl, ?_⟩
  rw [← hv] at hd
  simp only at hd h1
  show s = d
  omega
 | h :: g :: r, s, i, hv => by
  obtain ⟨h1, _⟩ := vld_head hv
  obtain ⟨e1, e2⟩ := vld_next hv
  simp only at h1
  rw [h1] at e1 e2
  obtain ⟨v, g1, g2⟩ := nb_port h0 e1
  rw [show (Top.peer t ((s : Int), h.out)).1 = ((v : Int), (Top.peer t ((s : Int), h.out)).1.2) from by rw [← g1]] at e2
  obtain ⟨n, hn, hw⟩ := vld_Wk h0 hd (g :: r) v _ e2
  exact ⟨n + 1, by rw [List.length_cons, hn], v, g2, hw⟩
theorem Wk_vld {t : Top.Tp} (h0 : Top.chk t = 0) {dst : Int × Int} {d : Nat} (hd : dst.1 = (d : Int)) : ∀ (n s : Nat) (i : Int), Wk t n s d → ∃ l, l.length = n + 1 ∧ vld t dst true ((s : Int), i) l = true
 | 0, s, i, h => by
  have : s = d := h
  subst this
  refine ⟨[⟨(s : Int), i, dst.2⟩], rfl, ?_⟩
  rw [vld_one rfl rfl, Bool.and_true, decide_eq_true_eq, ← hd]
 | n + 1, s, i, h => by
  obtain ⟨v, hv, h⟩ := h
  obtain ⟨p, i', hp⟩ := port_nb h0 hv
  obtain ⟨l, hl, hvl⟩ := Wk_vld h0 hd n v i' h
  cases l with
  | nil => cases hvl
  | cons g r =>
   refine ⟨⟨(s : Int), i, p⟩ :: g :: r, by rw [List.length_cons, hl], ?_⟩
   rw [vld_go rfl rfl (by simp only [hp])]
   simp only [hp]
   exact hvl
def gS (t : Top.Tp) (src : Nat) : Gph Nat Nat where
 key := id
 np := fun s => (nbN t s).length
 stp := fun s i => (nbN t s)[i]?
 sk := fun s i => (nbN t s)[i]?
 acc := fun s => decide (s = src)
 hk := fun w p => by simp
 states := List.range t.ports.length
 cls := fun k p k' _ _ h => List.mem_range.2 (mem_nb.1 (List.mem_of_getElem? h)).1
theorem run_Wk {t : Top.Tp} {src : Nat} : ∀ (ps : List Nat) (s w : Nat), (gS t src).run s ps = some w → Wk t ps.length s w
 | [], s, w, h => by cases h; rfl
 | p :: ps, s, w, h => by
  rw [Gph.run] at h
  split at h
  ·cases hs : (gS t src).stp s p with
   | none => rw [hs] at h; cases h
   | some v =>
    rw [hs] at h
    exact ⟨v, List.mem_of_getElem? hs, run_Wk ps v w h⟩
  ·cases h
theorem Wk_run {t : Top.Tp} {src : Nat} : ∀ (n s d : Nat), Wk t n s d → ∃ ps, ps.length = n ∧ (gS t src).run s ps = some d
 | 0, s, d, h => ⟨[], rfl, by rw [Gph.run, show s = d from h]⟩
 | n + 1, s, d, h => by
  obtain ⟨v, hv, h⟩ := h
  obtain ⟨ps, h1, h2⟩ := Wk_run n v d h
  obtain ⟨i, hi, e⟩ := List.getElem_of_mem hv
  refine ⟨i :: ps, by simp [h1], ?_⟩
  rw [Gph.run, if_pos (show i < (gS t src).np ((gS t src).key s) from hi)]
  rw [show (gS t src).stp s i = some v from by rw [← e]; exact List.getElem?_eq_getElem hi]
  exact h2
theorem D_Wk {t : Top.Tp} {src v : Nat} (hv : v < t.ports.length) : ((gS t src).D v < 0 → ∀ n, ¬ Wk t n v src) ∧ (∀ n : Nat, (gS t src).D v = (n : Int) → Wk t n v src ∧ ∀ m, Wk t m v src → n ≤ m) := by
 have key : ∀ n, Wk t n v src → 0 ≤ (gS t src).D v ∧ (gS t src).D v ≤ n := fun n h => by
  obtain ⟨ps, h1, h2⟩ := Wk_run (src := src) n v src h
  have := (gS t src).run_D ps v src (List.mem_range.2 hv) h2 (by exact decide_eq_true rfl)
  rw [h1] at this
  exact this
 refine ⟨fun h n hw => by have := key n hw; omega, fun n h => ⟨?_, fun m hm => by have := key m hm; omega⟩⟩
 obtain ⟨h1, h2, h3⟩ := (gS t src).walk_run n v h
 have hw := run_Wk _ _ _ h1
 rw [h2] at hw
 have : (gS t src).walk n v = src := of_decide_eq_true h3
 rwa [this] at hw
theorem sht_len {t : Top.Tp} {a : Tb} (hF : Fit t a) {s d : Int × Int} {sn dn : Nat} (hs : s.1 = (sn : Int)) (hd : d.1 = (dn : Int)) (hsn : sn < t.ports.length) (hL : ∀ w : List Int, (∀ c ∈ w, 0 ≤ c ∧ c < (t.ports.length : Int)) → La a 0 w = true) :
  ((gS t dn).D sn < 0 → findR t a hF s d = none) ∧ (∀ n : Nat, (gS t dn).D sn = (n : Int) → ∃ l, findR t a hF s d = some l ∧ l.length = n + 1) := by
 obtain ⟨s1, s2⟩ := s
 simp only at hs
 subst hs
 have hsr : 0 ≤ (sn : Int) ∧ (sn : Int) < t.ports.length := by omega
 obtain ⟨k1, k2⟩ := D_Wk (t := t) (src := dn) hsn
 refine ⟨fun h => ?_, fun n h => ?_⟩
 ·cases hr : findR t a hF ((sn : Int), s2) d with
  | none => rfl
  | some l =>
   obtain ⟨o1, _⟩ := opt1 hF hsr hr
   obtain ⟨n, _, hw⟩ := vld_Wk hF.top hd l sn s2 o1
   exact absurd hw (k1 h n)
 ·obtain ⟨hw, hmin⟩ := k2 n h
  obtain ⟨l, hl, hv⟩ := Wk_vld hF.top hd n sn s2 hw
  obtain ⟨best, b1, b2, _⟩ := opt2 hF hsr hv (hL _ (vld_rng hF.top l _ hsr hv))
  obtain ⟨o1, _⟩ := opt1 hF hsr b1
  obtain ⟨m, hm, hw2⟩ := vld_Wk hF.top hd best sn s2 o1
  have := hmin m hw2
  exact ⟨best, b1, by omega⟩
theorem D_symm {t : Top.Tp} {u v : Nat} (hu : u < t.ports.length) (hv : v < t.ports.length) : (gS t u).D v = (gS t v).D u := by
 obtain ⟨a1, a2⟩ := D_Wk (t := t) (src := u) hv
 obtain ⟨b1, b2⟩ := D_Wk (t := t) (src := v) hu
 have r1 := (gS t u).D_min v
 have r2 := (gS t v).D_min u
 by_cases h1 : (gS t u).D v < 0
 ·by_cases h2 : (gS t v).D u < 0
  ·omega
  ·obtain ⟨n, hn⟩ : ∃ n : Nat, (gS t v).D u = (n : Int) := ⟨((gS t v).D u).toNat, by omega⟩
   exact absurd ((b2 n hn).1.symm hu) (a1 h1 n)
 ·obtain ⟨n, hn⟩ : ∃ n : Nat, (gS t u).D v = (n : Int) := ⟨((gS t u).D v).toNat, by omega⟩
  by_cases h2 : (gS t v).D u < 0
  ·exact absurd ((a2 n hn).1.symm hv) (b1 h2 n)
  ·obtain ⟨m, hm⟩ : ∃ m : Nat, (gS t v).D u = (m : Int) := ⟨((gS t v).D u).toNat, by omega⟩
   have g1 := (a2 n hn).2 m ((b2 m hm).1.symm hu)
   have g2 := (b2 m hm).2 n ((a2 n hn).1.symm hv)
   omega
end Go.Proofs.Yticeakkgoafiaaa

/- Chapter 43: the law's distance of two switches. -/
set_option maxRecDepth 100000
set_option maxHeartbeats 4000000
set_option linter.all false
namespace Go.Proofs.Yticeakkgoafiaaa
open Go.Vm Go.ChangeShapes Go.WideShapes Go.ChangeAt Go.RowKit
theorem getV_tab3 {n i : Nat} {g : Nat → V} (h : i < n) : getV ((tab n g).drop i) 0 1 = [g i] := by
 have := getV_tab (n := n) (i := i) (g := g) h
 rwa [Nat.mul_one] at this
theorem mem_take_succ {l : List Nat} {i v : Nat} (hi : i < l.length) : v ∈ l.take (i + 1) ↔ v ∈ l.take i ∨ v = l[i] := by
 rw [List.take_succ_eq_append_getElem hi, List.mem_append, List.mem_singleton]
def nbR (t : Top.Tp) (a : Nat) : V := .sl false ((nbN t a).map fun x : Nat => V.int .i64 (x : Int)) (nbN t a).length
def nbV (t : Top.Tp) : V := .sl false (tab t.ports.length (nbR t)) t.ports.length
@[simp] theorem bel_nbR {n : Nat} {t : Top.Tp} (a : Nat) : (nbR t a).bel n = true := by rw [nbR, bel_sl]; exact belAll_map (fun _ => rfl) _
@[simp] theorem bel_nbV {n : Nat} {t : Top.Tp} : belAll n (tab t.ports.length (nbR t)) = true := belAll_tab fun i _ => bel_nbR i
theorem encN_nb {t : Top.Tp} (h : Top.chk t = 0) : Top.encN t = nbV t := by
 rw [Top.encN, if_pos h, Top.slLL, Top.nbrs, tab_map, tab_length, nbV]
 refine congrArg (fun l => V.sl false l t.ports.length) (tab_ext fun i _ => ?_)
 rw [row_nb, Top.slI, nbR, List.map_map, List.length_map]
 rfl
def seenS (D : Nat → Int) (nb : Nat → List Nat) (k s i v : Nat) : Bool := (List.range s).any (fun s' => decide (D s' = k) && (nb s').contains v) || (decide (D s = k) && ((nb s).take i).contains v)
def midS (D : Nat → Int) (nb : Nat → List Nat) (k s i v : Nat) : Int := if D v < 0 ∧ seenS D nb k s i v = true then (k : Int) + 1 else D v
theorem midS_0 {D : Nat → Int} {nb : Nat → List Nat} {k : Nat} : midS D nb k 0 0 = D := by
 funext v
 rw [midS, if_neg]
 simp [seenS]
theorem midS_next {D : Nat → Int} {nb : Nat → List Nat} {k s i : Nat} (h : i = (nb s).length ∨ D s ≠ k) : midS D nb k s i = midS D nb k (s + 1) 0 := by
 funext v
 have : seenS D nb k s i v = seenS D nb k (s + 1) 0 v := by
  simp only [seenS, List.take_zero, List.contains_nil, Bool.and_false, Bool.or_false, List.range_succ, List.any_append, List.any_cons, List.any_nil]
  rcases h with h | h
  ·rw [h, List.take_length]
  ·rw [decide_eq_false h, Bool.false_and, Bool.false_and]
 rw [midS, midS, this]
theorem midS_at {D : Nat → Int} {nb : Nat → List Nat} {k s i : Nat} (h : D s = k) : midS D nb k s i s = k := by
 rw [midS, if_neg (by omega), h]
theorem midS_no {D : Nat → Int} {nb : Nat → List Nat} {k s i : Nat} (h : D s ≠ k) : midS D nb k s i s ≠ k := by
 rw [midS]
 split <;> omega
theorem midS_step {D : Nat → Int} {nb : Nat → List Nat} {k s i : Nat} (hi : i < (nb s).length) (hk : D s = k) (v : Nat) : midS D nb k s (i + 1) v = if v = (nb s)[i] ∧ midS D nb k s i v < 0 then (k : Int) + 1 else midS D nb k s i v := by
 have hs : seenS D nb k s (i + 1) v = (seenS D nb k s i v || decide (v = (nb s)[i])) := by
  simp only [seenS, decide_eq_true hk, Bool.true_and]
  rw [Bool.or_assoc]
  congr 1
  rw [Bool.eq_iff_iff]
  simp [List.contains_iff_mem, mem_take_succ hi]
 rw [midS, midS, hs]
 by_cases h1 : D v < 0
 ·cases h2 : seenS D nb k s i v with
  | true =>
   simp only [h1, true_and, Bool.true_or, if_true]
   rw [if_neg (by omega)]
  | false =>
   rw [if_neg (show ¬ (D v < 0 ∧ false = true) by simp)]
   by_cases h3 : v = (nb s)[i]
   ·rw [if_pos ⟨h1, by simp [h3]⟩, if_pos ⟨h3, h1⟩]
   ·rw [if_neg (by simp [h3]), if_neg (by simp [h3])]
 ·rw [if_neg (by omega), if_neg (by omega), if_neg (by omega)]
theorem midS_end {t : Top.Tp} {u k v : Nat} (hv : v < t.ports.length) : midS ((gS t u).dN k) (nbN t) k t.ports.length 0 v = (gS t u).dN (k + 1) v := by
 have hs : seenS ((gS t u).dN k) (nbN t) k t.ports.length 0 v = (List.range ((gS t u).np v)).any (fun p => (gS t u).hit ((gS t u).dN k) (k : Int) v p) := by
  simp only [seenS, List.take_zero, List.contains_nil, Bool.and_false, Bool.or_false]
  rw [Bool.eq_iff_iff, List.any_eq_true, List.any_eq_true]
  constructor
  ·rintro ⟨s', hs', h⟩
   rw [Bool.and_eq_true, decide_eq_true_eq, List.contains_iff_mem] at h
   obtain ⟨i, hi, e⟩ := List.getElem_of_mem (nb_symm (List.mem_range.1 hs') h.2)
   refine ⟨i, List.mem_range.2 hi, ((gS t u).hit_iff).2 ⟨s', ?_, h.1⟩⟩
   show (nbN t v)[i]? = some s'
   rw [← e]
   exact List.getElem?_eq_getElem hi
  ·rintro ⟨i, hi, h⟩
   obtain ⟨s', e, hd⟩ := ((gS t u).hit_iff).1 h
   have hm : s' ∈ nbN t v := List.mem_of_getElem? e
   refine ⟨s', List.mem_range.2 (mem_nb.1 hm).1, ?_⟩
   rw [Bool.and_eq_true, decide_eq_true_eq, List.contains_iff_mem]
   exact ⟨hd, nb_symm hv hm⟩
 rw [midS, Gph.dN, hs]
 by_cases h1 : (gS t u).dN k v < 0
 ·rw [decide_eq_true h1, Bool.true_and]
  simp only [h1, true_and]
  rfl
 ·rw [if_neg (by simp [h1]), if_neg (by simp [h1])]
attribute [local push_cast] cfg0 nbR getV_map getV_mapO List.length_map Nat.mul_one tab_length putV_tab getV_tab getV_tabO getV_tabP getV_tab3 Top.encT Top.slI Top.slP Top.slL
theorem pc21 (t : Top.Tp) (hf : t.fit) (h0 : Top.chk t = 0) (u v : Nat) (hu : u < t.ports.length) (hv : v < t.ports.length) : PC Try.prog 21 [.agg (Top.encT t), .int .i64 (u : Int), .int .i64 (v : Int)] (.int .i64 ((gS t u).D v)) := by
 have h36 := Top.pc36 t hf
 rw [encN_nb h0, nbV] at h36
 have h16 := (Top.chk_valid h0).small
 have hnb := fun a b (h : b ∈ nbN t a) => (mem_nb.1 h).1
 have hend := fun k => (tab_ext fun v hv => congrArg (V.int .i64) (midS_end (t := t) (u := u) (k := k) (v := v) hv))
 have hD0 : ∀ v, (gS t u).dN 0 v = if v = u then 0 else -1 := fun v => by
  rw [Gph.dN]
  show (if decide (v = u) = true then (0 : Int) else -1) = _
  simp
 have hDn : (gS t u).D v = (gS t u).dN t.ports.length v := by
  rw [Gph.D, show (gS t u).states.length = t.ports.length from List.length_range]
 rw [hDn]
 generalize (gS t u).dN = D at hend hD0 ⊢
 have hnl : ∀ a, (nbN t a).length ≤ 16 := fun a => by
  refine Nat.le_trans ?_ h16
  rw [nbN]
  exact Nat.le_trans (List.length_filter_le _ _) (by rw [List.length_range]; exact Nat.le_refl _)
 generalize t.ports.length = m at h36 h16 hnb hend hu hv ⊢
 refine PC.walk tok mixed cfg0 Try.func21 rfl Try.call21 (by simp [tab_length]) (by first | rfl | simp [tab_length]) ?_; refine vms1 Try.ntmps21 ?_
 refine callO.pc h36 ?_
 simp (maxSteps := 2000000) -implicitDefEqProofs +contextual (disch := first | assumption | omega | decide +kernel) only [push_cast, ↓capI, seval, Nat.reduceLeDiff, Nat.reduceEqDiff, reduceCtorEq, ↓reduceIte, rep_tab]
 refine T.lp tok mixed cfg0 (fun (k : Nat) => dd 1 (kp 2 (dd 4 (kp 2 (sv (.int .i64 (k : Int)) (dd 75 (nl))))))) (fun H0 (k : Nat) => [.cells 0 (Top.encT t), .cells 0 (tab m fun v => .int .i64 (if v < k then -1 else 0))]) (fun (k : Nat) => k ≤ m) (fun (k : Nat) => m - k) (0) ?_ ?_ ?_
 ·exact Nat.zero_le _
 ·rw [show (tab m fun v => V.int .i64 (if v < 0 then -1 else 0)) = tab m fun _ => V.int .i64 0 from tab_ext fun v _ => by rw [if_neg (Nat.not_lt_zero v)]]
  exact Gn.canon (J := []) (by first | rfl | (simp [List.append_nil, Top.encT, Top.slI, Top.slP, Top.slL, encQ]; done) | (simp [List.append_nil, Top.encT, Top.slI, Top.slP, Top.slL, encQ]; rfl)) (by simp [wk, putT, kp, dd, sv, nl]) (by simp [tab_length]) (by simp [tab_length, kp, dd, sv, nl]) (by simp [tab_length])
 intro k hk
 by_cases hlt : k < m
 ·refine vms1 hlt ?_
  refine ⟨k + 1, hlt, by (try simp only); omega, ?_⟩
  refine Gn.canon (J := []) ?_ (by simp [wk]) (by simp [tab_length]) (by simp [tab_length]) (by simp [tab_length])
  rw [List.append_nil]
  refine congrArg (fun l => [_, Ob.cells 0 l]) (tab_ext fun v _ => ?_)
  by_cases e : v = k
  ·rw [if_pos e, if_pos (by omega)]
  ·rw [if_neg e]
   by_cases h : v < k
   ·rw [if_pos h, if_pos (by omega)]
   ·rw [if_neg h, if_neg (by omega)]
 have hke : k = m := by omega
 subst hke
 clear hk hlt
 simp (maxSteps := 2000000) -implicitDefEqProofs +contextual (disch := first | assumption | omega | decide +kernel) only [push_cast, ↓capI, seval, Nat.reduceLeDiff, Nat.reduceEqDiff, reduceCtorEq, ↓reduceIte, Nat.lt_irrefl, hu]
 refine T.lp tok mixed cfg0 (fun (n : Nat) => dd 2 (kp 1 (dd 4 (kp 2 (dd 1 (sv (.int .i64 (n : Int)) (dd 74 (nl)))))))) (fun H0 (n : Nat) => [.cells 0 (Top.encT t), .cells 0 (tab k fun v => .int .i64 (D n v))]) (fun (n : Nat) => n ≤ k) (fun (n : Nat) => k - n) (0) ?_ ?_ ?_
 ·exact Nat.zero_le _
 ·refine Gn.canon (J := []) ?_ (by simp [wk, putT, kp, dd, sv, nl]) (by simp [tab_length]) (by simp [tab_length, kp, dd, sv, nl]) (by simp [tab_length])
  rw [List.append_nil]
  refine congrArg (fun l => [_, Ob.cells 0 l]) (tab_ext fun v hv => ?_)
  rw [hD0]
  by_cases e : v = u
  ·rw [if_pos e, if_pos e]
  ·rw [if_neg e, if_neg e, if_pos hv]
 intro n hn
 by_cases hln : n < k
 case neg =>
  have hne : n = k := by omega
  subst hne
  simp (maxSteps := 2000000) -implicitDefEqProofs +contextual (disch := first | assumption | omega | decide +kernel) only [push_cast, ↓capI, seval, Nat.reduceLeDiff, Nat.reduceEqDiff, reduceCtorEq, ↓reduceIte, Nat.lt_irrefl, hv]
  refine endK.ret ?_ (by first | rfl | simp [tab_length]); simp [evRes, getT, retV, Try.f21]
 refine vms1 hln ?_
 refine T.lp tok mixed cfg0 (fun (s : Nat) => dd 2 (kp 1 (dd 4 (kp 2 (dd 1 (kp 1 (sv (.int .i64 (s : Int)) (dd 73 (nl))))))))) (fun H0 (s : Nat) => [.cells 0 (Top.encT t), .cells 0 (tab k fun v => .int .i64 (midS (D n) (nbN t) n s 0 v))]) (fun (s : Nat) => s ≤ k) (fun (s : Nat) => k - s) (0) ?_ ?_ ?_
 ·exact Nat.zero_le _
 ·rw [midS_0]
  exact Gn.canon (J := []) (by first | rfl | (simp [List.append_nil, Top.encT, Top.slI, Top.slP, Top.slL, encQ]; done) | (simp [List.append_nil, Top.encT, Top.slI, Top.slP, Top.slL, encQ]; rfl)) (by simp [wk, putT, kp, dd, sv, nl]) (by simp [tab_length]) (by simp [tab_length, kp, dd, sv, nl]) (by simp [tab_length])
 intro s hs
 by_cases hls : s < k
 case neg =>
  have hse : s = k := by omega
  subst hse
  rw [hend]
  refine vms1 hls ?_
  refine ⟨n + 1, hln, by (try simp only); omega, ?_⟩; exact Gn.canon (by first | rfl | (simp [List.append_nil, Top.encT, Top.slI, Top.slP, Top.slL, encQ]; rfl)) (by simp [wk]) (by simp [tab_length]) (by simp [tab_length]) (by simp [tab_length])
 refine vms1 hls ?_
 refine T.lp tok mixed cfg0 (fun (i : Nat) => dd 2 (kp 1 (dd 4 (kp 2 (dd 1 (kp 2 (sv (.int .i64 (i : Int)) (dd 72 (nl))))))))) (fun H0 (i : Nat) => [.cells 0 (Top.encT t), .cells 0 (tab k fun v => .int .i64 (midS (D n) (nbN t) n s i v))]) (fun (i : Nat) => i ≤ (nbN t s).length) (fun (i : Nat) => (nbN t s).length - i) (0) ?_ ?_ ?_
 ·exact Nat.zero_le _
 ·exact Gn.canon (J := []) (by first | rfl | (simp [List.append_nil, Top.encT, Top.slI, Top.slP, Top.slL, encQ]; done) | (simp [List.append_nil, Top.encT, Top.slI, Top.slP, Top.slL, encQ]; rfl)) (by simp [wk, putT, kp, dd, sv, nl]) (by simp [tab_length]) (by simp [tab_length, kp, dd, sv, nl]) (by simp [tab_length])
 intro i hi
 have hnls := hnl s
 by_cases hli : i < (nbN t s).length
 case neg =>
  have e0 := midS_next (D := D n) (nb := nbN t) (k := n) (Or.inl (show i = (nbN t s).length by omega))
  rw [e0]
  refine vms2 hli hls ?_
  refine ⟨s + 1, hls, by (try simp only); omega, ?_⟩; exact Gn.canon (by first | rfl | (simp [List.append_nil, Top.encT, Top.slI, Top.slP, Top.slL, encQ]; rfl)) (by simp [wk]) (by simp [tab_length]) (by simp [tab_length]) (by simp [tab_length])
 by_cases hds : D n s = n
 case neg =>
  have hno := midS_no (nb := nbN t) (i := i) hds
  have e0 := midS_next (nb := nbN t) (i := i) (.inr hds)
  rw [e0] at hno ⊢
  refine vms3 hli hls hno ?_
  refine ⟨s + 1, hls, by (try simp only); omega, ?_⟩; exact Gn.canon (by first | rfl | (simp [List.append_nil, Top.encT, Top.slI, Top.slP, Top.slL, encQ]; rfl)) (by simp [wk]) (by simp [tab_length]) (by simp [tab_length]) (by simp [tab_length])
 have hat := midS_at (nb := nbN t) (i := i) hds
 have hstep := fun v => midS_step hli hds v
 have hwk := hnb s _ (List.getElem_mem hli)
 by_cases hw0 : midS (D n) (nbN t) n s i (nbN t s)[i] < 0
 ·refine vms5 hli hls hat hwk hw0 ?_
  refine ⟨i + 1, hli, by (try simp only); omega, ?_⟩
  refine Gn.canon (J := []) ?_ (by simp [wk]) (by simp [tab_length]) (by simp [tab_length]) (by simp [tab_length])
  rw [List.append_nil]
  refine congrArg (fun l => [_, Ob.cells 0 l]) (tab_ext fun v _ => ?_)
  rw [hstep]
  by_cases e : v = (nbN t s)[i]
  ·rw [if_pos e, if_pos ⟨e, by rw [e]; exact hw0⟩]
  ·rw [if_neg e, if_neg (fun h => e h.1)]
 ·have e1 : (fun v => V.int .i64 (midS (D n) (nbN t) n s (i + 1) v)) = fun v => V.int .i64 (midS (D n) (nbN t) n s i v) := funext fun v => by
   rw [hstep, if_neg]
   rintro ⟨e, h⟩
   rw [e] at h
   exact hw0 h
  refine vms5 hli hls hat hwk hw0 ?_
  refine ⟨i + 1, hli, by (try simp only); omega, ?_⟩
  refine Gn.canon (J := []) ?_ (by simp [wk]) (by simp [tab_length]) (by simp [tab_length]) (by simp [tab_length])
  rw [List.append_nil]
  exact congrArg (fun l => [_, Ob.cells 0 l]) (tab_ext fun v _ => (congrFun e1 v).symm)
end Go.Proofs.Yticeakkgoafiaaa

/- Chapter 43: without a constraint the number of hops is the distance plus 1. -/
set_option maxRecDepth 100000
set_option maxHeartbeats 4000000
set_option linter.all false
namespace Go.Proofs.Yticeakkgoafiaaa
open Go.Vm Go.ChangeShapes Go.WideShapes Go.ChangeAt Go.RowKit
theorem all_okP (m : Nat) : okP m pAll := ⟨rfl, .inr (.inl rfl), by rw [chk1, if_neg (by decide), if_neg (by rintro ⟨h, _⟩; exact absurd h (by decide))]⟩
theorem all_det : ∀ k : Fin 17, (detN k.1 (nxP pAll) 3).sets.length ≤ 3 := by decide +kernel
theorem all_few {m : Nat} (hm : m ≤ 16) (hm1 : 0 < m) : (autR pAll m).next.length ≤ 64 := by
 have hsz := siz_nx (m : Int) pAll (all_okP m)
 have hl : (flat pAll).length = 2 := rfl
 have hD := cls_of (x := nxP pAll) (by omega)
 have hT := (detT_ok hD (x := nxP pAll) (by simp) (m := m) hm hm1).1
 have h3 : (detN m (nxP pAll) 3).sets.length ≤ 3 := all_det ⟨m, by omega⟩
 have h4 := (minS_ok hT).2
 rw [detN_at h3 (by decide)] at h4
 rw [autR]
 omega
theorem all_ok {t : Top.Tp} {x y : Int} (h0 : Top.chk t = 0) (hb : ¬ badR t x y) : okR t x y (flat pAll) pAll :=
 ⟨h0, hb, tree_checkP (all_okP _) (by decide), all_okP _, rfl, by decide, all_few (Top.chk_valid h0).small (Top.chk_valid h0).pos⟩
theorem all_Star {x : Nd} (hx : Mt (.leaf x) = fun w => w.length = 1) : ∀ w : List Int, Star (Mt (.leaf x)) w
 | [] => Star.nil
 | c :: w => by
  have := Star.app (u := [c]) (v := w) (L := Mt (.leaf x)) (by rw [hx]; rfl) (all_Star hx w)
  exact this
theorem all_La {m : Nat} (hm : m ≤ 16) (hm1 : 0 < m) {w : List Int} (h : ∀ c ∈ w, 0 ≤ c ∧ c < (m : Int)) : La (autR pAll m) 0 w = true := by
 refine (bld_lang hm hm1 (all_okP m) (by decide) rfl).2 ⟨h, ?_⟩
 exact all_Star (by funext w; rfl) w
theorem all_find {t : Top.Tp} {x y : Int} (hf : t.fit) (h0 : Top.chk t = 0) (hb : ¬ badR t x y) {sn dn : Nat} (hs : (hostP t x).1 = (sn : Int)) (hd : (hostP t y).1 = (dn : Int)) (hsn : sn < t.ports.length) :
  ((gS t dn).D sn < 0 → PC Try.prog 10 (argV t x y (flat pAll)) (.tup [.sl true [] 0, .int .i64 21])) ∧
  (∀ n : Nat, (gS t dn).D sn = (n : Int) → ∃ l : List Hop, l.length = n + 1 ∧ l.length ≤ 1025 ∧ PC Try.prog 10 (argV t x y (flat pAll)) (.tup [slH l, .int .i64 0])) := by
 have ho := all_ok h0 hb
 have hv := Top.chk_valid h0
 have hp : PC Try.prog 10 (argV t x y (flat pAll)) (findV (findR t (autR pAll t.ports.length) (fit_of ho) (hostP t x) (hostP t y))) := by
  rcases pc10 t x y (flat pAll) hf (by decide) with ⟨e, he, _, _⟩ | ⟨q, hq, h⟩
  ·exact (okR_no he ho).elim
  ·have := okR_one hq ho
   subst this
   exact h
 obtain ⟨k1, k2⟩ := sht_len (fit_of ho) hs hd hsn fun w hw => all_La hv.small hv.pos hw
 refine ⟨fun h => ?_, fun n h => ?_⟩
 ·rw [k1 h] at hp
  exact hp
 ·obtain ⟨l, h1, h2⟩ := k2 n h
  rw [h1] at hp
  exact ⟨l, h2, find_len h1, hp⟩
attribute [local push_cast] cfg0 slN Top.encT Top.slI Top.slP Top.slL Top.encP Top.gfp_lenP Top.gfd_lenP Top.lfl_lenP Nat.mul_one
theorem pc6 (t : Top.Tp) (x y : Int) : PC Try.prog 6 [.agg (Top.encT t), .int .i64 x, .int .i64 y] (.bool true) := by
 have h18 := Top.pc18 t
 cases hs : Top.small t with
 | false =>
  rw [hs] at h18
  refine PC.walk tok mixed cfg0 Try.func6 rfl Try.call6 (by simp) (by first | rfl | simp) ?_; refine vms1 Try.ntmps6 ?_
  refine callO.pc h18 ?_
  refine vms0 ?_
  refine callO.pc pc9 ?_
  refine vms0 ?_
  refine endK.retA ?_; simp [evRes, getT, retV, Try.f6]
 | true =>
 rw [hs] at h18
 have hf := Top.small_fit hs
 have h19 := Top.pc19 t hf
 have hhf := hf.hosts
 by_cases h0 : Top.chk t = 0
 case neg =>
  refine PC.walk tok mixed cfg0 Try.func6 rfl Try.call6 (by simp) (by first | rfl | simp) ?_; refine vms1 Try.ntmps6 ?_
  refine callO.pc h18 ?_
  refine vms0 ?_
  refine callO.pc h19 ?_
  refine vms1 h0 ?_
  refine callO.pc pc9 ?_
  refine vms0 ?_
  refine endK.retA ?_; simp [evRes, getT, retV, Try.f6]
 rw [h0] at h19
 by_cases x0 : x < 0
 ·refine PC.walk tok mixed cfg0 Try.func6 rfl Try.call6 (by simp) (by first | rfl | simp) ?_; refine vms1 Try.ntmps6 ?_
  refine callO.pc h18 ?_
  refine vms0 ?_
  refine callO.pc h19 ?_
  simp (maxSteps := 2000000) -implicitDefEqProofs +contextual (disch := first | assumption | omega | decide +kernel) only [push_cast, ↓capI, seval, Nat.reduceLeDiff, Nat.reduceEqDiff, reduceCtorEq, ↓reduceIte, x0]
  refine callO.pc pc9 ?_
  refine vms0 ?_
  refine endK.retA ?_; simp [evRes, getT, retV, Try.f6]
 by_cases x1 : x < (t.hosts.length : Int)
 case neg =>
  refine PC.walk tok mixed cfg0 Try.func6 rfl Try.call6 (by simp) (by first | rfl | simp) ?_; refine vms1 Try.ntmps6 ?_
  refine callO.pc h18 ?_
  refine vms0 ?_
  refine callO.pc h19 ?_
  simp (maxSteps := 2000000) -implicitDefEqProofs +contextual (disch := first | assumption | omega | decide +kernel) only [push_cast, ↓capI, seval, Nat.reduceLeDiff, Nat.reduceEqDiff, reduceCtorEq, ↓reduceIte, x0, x1]
  refine callO.pc pc9 ?_
  refine vms0 ?_
  refine endK.retA ?_; simp [evRes, getT, retV, Try.f6]
 by_cases y0 : y < 0
 ·refine PC.walk tok mixed cfg0 Try.func6 rfl Try.call6 (by simp) (by first | rfl | simp) ?_; refine vms1 Try.ntmps6 ?_
  refine callO.pc h18 ?_
  refine vms0 ?_
  refine callO.pc h19 ?_
  simp (maxSteps := 2000000) -implicitDefEqProofs +contextual (disch := first | assumption | omega | decide +kernel) only [push_cast, ↓capI, seval, Nat.reduceLeDiff, Nat.reduceEqDiff, reduceCtorEq, ↓reduceIte, x0, x1, y0]
  refine callO.pc pc9 ?_
  refine vms0 ?_
  refine endK.retA ?_; simp [evRes, getT, retV, Try.f6]
 by_cases y1 : y < (t.hosts.length : Int)
 case neg =>
  refine PC.walk tok mixed cfg0 Try.func6 rfl Try.call6 (by simp) (by first | rfl | simp) ?_; refine vms1 Try.ntmps6 ?_
  refine callO.pc h18 ?_
  refine vms0 ?_
  refine callO.pc h19 ?_
  simp (maxSteps := 2000000) -implicitDefEqProofs +contextual (disch := first | assumption | omega | decide +kernel) only [push_cast, ↓capI, seval, Nat.reduceLeDiff, Nat.reduceEqDiff, reduceCtorEq, ↓reduceIte, x0, x1, y0, y1]
  refine callO.pc pc9 ?_
  refine vms0 ?_
  refine endK.retA ?_; simp [evRes, getT, retV, Try.f6]
 have hb : ¬ badR t x y := by rw [badR]; omega
 have hb' : ¬ badR t y x := by rw [badR]; omega
 obtain ⟨hx1, hx2⟩ := host_at (x := x) h0 (by omega)
 obtain ⟨hy1, hy2⟩ := host_at (x := y) h0 (by omega)
 obtain ⟨u, hu⟩ : ∃ u : Nat, (hostP t x).1 = (u : Int) := ⟨(hostP t x).1.toNat, by omega⟩
 obtain ⟨v, hv⟩ : ∃ v : Nat, (hostP t y).1 = (v : Int) := ⟨(hostP t y).1.toNat, by omega⟩
 have hun : u < t.ports.length := by omega
 have hvn : v < t.ports.length := by omega
 have h21 := pc21 t hf h0 u v hun hvn
 obtain ⟨a1, a2⟩ := all_find hf h0 hb hu hv hun
 obtain ⟨b1, b2⟩ := all_find hf h0 hb' hv hu hvn
 rw [D_symm hvn hun] at a1 a2
 obtain ⟨x, rfl⟩ : ∃ k : Nat, x = (k : Int) := ⟨x.toNat, by omega⟩
 obtain ⟨y, rfl⟩ : ∃ k : Nat, y = (k : Int) := ⟨y.toNat, by omega⟩
 have hx : x < t.hosts.length := by omega
 have hy : y < t.hosts.length := by omega
 have ex : t.hosts[x].1 = (u : Int) := by
  rw [← hu, hostP, Int.toNat_natCast, List.getD_eq_getElem?_getD, List.getElem?_eq_getElem hx]; rfl
 have ey : t.hosts[y].1 = (v : Int) := by
  rw [← hv, hostP, Int.toNat_natCast, List.getD_eq_getElem?_getD, List.getElem?_eq_getElem hy]; rfl
 have h20 := pc20
 rw [argV] at a1 a2 b1 b2
 generalize (gS t u).D v = d at h21 a1 a2 b1 b2
 by_cases hd : d < 0
 ·have hA := a1 hd
  have hB := b1 hd
  clear a1 a2 b1 b2
  generalize flat pAll = r at hA hB h20
  refine PC.walk tok mixed cfg0 Try.func6 rfl Try.call6 (by simp) (by first | rfl | simp) ?_; refine vms1 Try.ntmps6 ?_
  refine callO.pc h18 ?_
  refine vms0 ?_
  refine callO.pc h19 ?_
  simp (maxSteps := 2000000) -implicitDefEqProofs +contextual (disch := first | assumption | omega | decide +kernel) only [push_cast, ↓capI, seval, Nat.reduceLeDiff, Nat.reduceEqDiff, reduceCtorEq, ↓reduceIte, x0, x1, y0, y1, hx, hy]
  refine callG.pc1 h20 ?_
  refine vms0 ?_
  refine callG.pc1 hA ?_
  refine vms0 ?_
  refine callG.pc1 h20 ?_
  refine vms0 ?_
  refine callG.pc1 hB ?_
  simp (maxSteps := 2000000) -implicitDefEqProofs +contextual (disch := first | assumption | omega | decide +kernel) only [push_cast, ↓capI, seval, Nat.reduceLeDiff, Nat.reduceEqDiff, reduceCtorEq, ↓reduceIte, hx, hy, ex, ey]
  refine callG.pc1 h21 ?_
  refine vms1 hd ?_
  refine callO.pc pc9 ?_
  refine vms0 ?_
  refine endK.retA ?_; simp [evRes, getT, retV, Try.f6]
 ·obtain ⟨n, rfl⟩ : ∃ n : Nat, d = (n : Int) := ⟨d.toNat, by omega⟩
  obtain ⟨l, hl, hll, hA⟩ := a2 n rfl
  obtain ⟨m, hm, _, hB⟩ := b2 n rfl
  clear a1 a2 b1 b2
  generalize flat pAll = r at hA hB h20
  rw [slH] at hA hB
  refine PC.walk tok mixed cfg0 Try.func6 rfl Try.call6 (by simp) (by first | rfl | simp) ?_; refine vms1 Try.ntmps6 ?_
  refine callO.pc h18 ?_
  refine vms0 ?_
  refine callO.pc h19 ?_
  simp (maxSteps := 2000000) -implicitDefEqProofs +contextual (disch := first | assumption | omega | decide +kernel) only [push_cast, ↓capI, seval, Nat.reduceLeDiff, Nat.reduceEqDiff, reduceCtorEq, ↓reduceIte, x0, x1, y0, y1, hx, hy]
  refine callG.pc1 h20 ?_
  refine vms0 ?_
  refine callG.pc1 hA ?_
  refine vms0 ?_
  refine callG.pc1 h20 ?_
  refine vms0 ?_
  refine callG.pc1 hB ?_
  simp (maxSteps := 2000000) -implicitDefEqProofs +contextual (disch := first | assumption | omega | decide +kernel) only [push_cast, ↓capI, seval, Nat.reduceLeDiff, Nat.reduceEqDiff, reduceCtorEq, ↓reduceIte, hx, hy, ex, ey]
  refine callG.pc1 h21 ?_
  have hl2 : ((l.length : Int) = (n : Int) + 1) = True := eq_true (by omega)
  have hm2 : ((m.length : Int) = (n : Int) + 1) = True := eq_true (by omega)
  refine vms3 hd hl2 hm2 ?_
  refine callO.pc pc9 ?_
  refine vms0 ?_
  refine endK.retA ?_; simp [evRes, getT, retV, Try.f6]
theorem law6 (xs : List V) (h : TypA tt 8 [26, 3, 3] xs) : PC Try.prog 6 xs (.bool true) := by
 obtain ⟨v1, vs, cs, rfl, rfl, h1, h⟩ := typA_cons h
 obtain ⟨v2, vs, cs2, rfl, rfl, h2, h⟩ := typA_cons h
 obtain ⟨v3, vs, cs3, rfl, rfl, h3, h⟩ := typA_cons h
 obtain rfl := typA_nil h
 obtain ⟨a, ha⟩ := typ_T (m := 3) h1
 obtain ⟨x, hx⟩ := typ_J (m := 7) h2
 obtain ⟨y, hy⟩ := typ_J (m := 7) h3
 refine PC.lax ?_
 rw [laxs, laxs, laxs, laxs, ha, hx, hy]
 exact pc6 a x y
end Go.Proofs.Yticeakkgoafiaaa


/-
  Joined by a program from the texts Opt.
-/
import Derived.Test.YticeakkgoafiaaaMg
/- Chapter 43 (plain): what Find answers is the best of the valid lists of hops. -/
set_option maxRecDepth 100000
set_option maxHeartbeats 4000000
set_option linter.all false
namespace Go.Proofs.Yticeakkgoafiaaa
open Go.Vm
theorem okP_mono {sw : Int} (h : sw ≤ 1000000000) : ∀ p : Pr, okP sw p → okP 1000000000 p
 | .leaf x, hp => by
  refine ⟨hp.1, ?_⟩
  have h2 := hp.2
  unfold chk1 at h2 ⊢
  split at h2
  ·cases h2
  ·rename_i h3
   rw [if_neg h3]
   split at h2
   ·cases h2
   ·rename_i h4
    rw [if_neg]
    rintro ⟨h5, h6⟩
    refine h4 ⟨h5, ?_⟩
    unfold badN at h6 ⊢
    omega
 | .un x p, hp => ⟨hp.1, okP_mono h p hp.2⟩
 | .bin x p q, hp => ⟨hp.1, okP_mono h p hp.2.1, okP_mono h q hp.2.2⟩
theorem bld_lang {t : Tb} {m : Nat} {p : Pr} (hm : m ≤ 16) (hm1 : 0 < m) (hp : okP m p) (hl : (flat p).length ≤ 24) (ht : t = minS (detT (nxP p) m)) {w : List Int} :
  La t 0 w = true ↔ ltrs m w ∧ Mt p w := by
 have hsz := siz_nx (m : Int) p hp
 have hD := cls_of (x := nxP p) (by omega)
 have hT := (detT_ok hD (x := nxP p) (by simp) (m := m) hm hm1).1
 rw [ht, minS_lang hT w, detT_La hD (by simp) hm hm1, MN_nx m p w hp]
theorem ends_has {t : Top.Tp} (h0 : Top.chk t = 0) {a : Int × Int} (hm : a ∈ Top.ends t) : Top.has t a = true := by
 have h1 : Top.chk1 t = 0 := by
  unfold Top.chk at h0
  repeat' split at h0
  all_goals first | omega | exact h0
 unfold Top.chk1 at h1
 split at h1
 ·omega
 split at h1
 ·omega
 rename_i hx
 simp only [List.any_eq_true, not_exists, not_and, Bool.not_eq_true] at hx
 have := hx _ hm
 simpa using this
theorem peer_port {t : Top.Tp} (h0 : Top.chk t = 0) {p : Int × Int} (h : (Top.peer t p).2 = 0) : ∃ s k : Nat, p = ((s : Int), (k : Int)) ∧ s < t.ports.length ∧ k < npR t p := by
 have hh : Top.has t p = true := by
  unfold Top.peer at h
  rw [if_neg (fun g => g h0)] at h
  rcases @Top.firstAt_spec _ (fun l => decide (l.a = p) || decide (l.b = p)) t.links 0 with ⟨h1, _⟩ | ⟨k, hk, h1, h2⟩
  ·rw [show Top.linkAt t p = (0, false) from h1] at h
   cases h
  ·refine ends_has h0 (List.mem_append_left _ (List.mem_flatMap.2 ⟨t.links[k], List.getElem_mem hk, ?_⟩))
   simp only [Bool.or_eq_true, decide_eq_true_eq] at h2
   rcases h2 with h2 | h2
   ·simp [h2]
   ·simp [h2]
 simp only [Top.has, Bool.and_eq_true, decide_eq_true_eq] at hh
 obtain ⟨a, b⟩ := p
 simp only at hh
 refine ⟨a.toNat, b.toNat, by rw [Int.toNat_of_nonneg hh.1, Int.toNat_of_nonneg hh.2.2.1], by omega, ?_⟩
 rw [npR, gI]
 simp only
 omega
theorem suc_nx {t : Top.Tp} {a : Tb} (h : Fit t a) {q s : Int} (hq : 0 ≤ q ∧ q < a.next.length) (hs : 0 ≤ s ∧ s < t.ports.length) : suc a q s = nxA a q s := by
 have hmem : a.next.getD q.toNat [] ∈ a.next := by
  rw [List.getD_eq_getElem?_getD, List.getElem?_eq_getElem (by omega)]
  exact List.getElem_mem _
 have hl := h.aut.row _ hmem
 rw [suc, if_neg (by rw [hl]; omega), nxA]
theorem vld_M {t : Top.Tp} {dst : Int × Int} {M : Bool} : ∀ (l : List Hop) (a : Int × Int), vld t dst M a l = (vld t dst true a l && M)
 | [], a => rfl
 | [h], a => by
  rw [vld, vld]
  cases M <;> simp
 | h :: g :: r, a => by
  rw [vld, vld, vld_M (g :: r)]
  cases M <;> simp
theorem vld_head {t : Top.Tp} {dst : Int × Int} {M : Bool} {a : Int × Int} {h : Hop} {r : List Hop} (hv : vld t dst M a (h :: r) = true) : h.sw = a.1 ∧ h.inp = a.2 := by
 refine ⟨?_, ?_⟩
 ·by_cases e : h.sw = a.1
  ·exact e
  ·rw [vld_sw e] at hv; cases hv
 ·by_cases e : h.inp = a.2
  ·exact e
  ·rw [vld_in e] at hv; cases hv
theorem vld_next {t : Top.Tp} {dst : Int × Int} {M : Bool} {a : Int × Int} {h g : Hop} {r : List Hop} (hv : vld t dst M a (h :: g :: r) = true) : (Top.peer t (h.sw, h.out)).2 = 0 ∧ vld t dst M (Top.peer t (h.sw, h.out)).1 (g :: r) = true := by
 obtain ⟨h1, h2⟩ := vld_head hv
 by_cases e : (Top.peer t (h.sw, h.out)).2 = 0
 ·rw [vld_go h1 h2 e] at hv
  exact ⟨e, hv⟩
 ·rw [vld_no e] at hv; cases hv
theorem vld_rng {t : Top.Tp} (h0 : Top.chk t = 0) {dst : Int × Int} {M : Bool} : ∀ (l : List Hop) (a : Int × Int), 0 ≤ a.1 ∧ a.1 < t.ports.length → vld t dst M a l = true → ∀ c ∈ sws l, 0 ≤ c ∧ c < (t.ports.length : Int)
 | [], _, _, h => by cases h
 | [h], a, ha, hv => by
  intro c hc
  rw [sws, List.map_singleton, List.mem_singleton] at hc
  rw [hc, (vld_head hv).1]; exact ha
 | h :: g :: r, a, ha, hv => by
  intro c hc
  rw [sws, List.map_cons, List.mem_cons] at hc
  obtain ⟨h1, h2⟩ := vld_next hv
  rcases hc with hc | hc
  ·rw [hc, (vld_head hv).1]; exact ha
  ·exact vld_rng h0 (g :: r) _ (peer_rng h0 h1) h2 c hc
theorem stp_of {t : Top.Tp} {a : Tb} {w : Wr} {p : Nat} (h1 : (Top.peer t (w.sw, (p : Int))).2 = 0) (h2 : ¬ nxA a w.q (Top.peer t (w.sw, (p : Int))).1.1 < 0) :
  stpR t a w p = some ⟨(Top.peer t (w.sw, (p : Int))).1.1, nxA a w.q (Top.peer t (w.sw, (p : Int))).1.1, (Top.peer t (w.sw, (p : Int))).1.2, w.out ++ [⟨w.sw, w.inp, (p : Int)⟩]⟩ := by
 rw [stpR, if_neg (by omega), if_neg h2]
theorem stp_inv {t : Top.Tp} {a : Tb} {w w' : Wr} {p : Nat} (h : stpR t a w p = some w') : (Top.peer t (w.sw, (p : Int))).2 = 0 ∧ ¬ nxA a w.q (Top.peer t (w.sw, (p : Int))).1.1 < 0 ∧
  w' = ⟨(Top.peer t (w.sw, (p : Int))).1.1, nxA a w.q (Top.peer t (w.sw, (p : Int))).1.1, (Top.peer t (w.sw, (p : Int))).1.2, w.out ++ [⟨w.sw, w.inp, (p : Int)⟩]⟩ := by
 rw [stpR] at h
 split at h
 ·cases h
 ·rename_i h1
  split at h
  ·cases h
  ·rename_i h2
   cases h
   exact ⟨by omega, h2, rfl⟩
def outs (l : List Hop) : List Int := l.map Hop.out
theorem vld_run {t : Top.Tp} {a : Tb} (hF : Fit t a) {dst : Int × Int} : ∀ (r : List Hop) (h : Hop) (w : Wr), kW w ∈ statesR t a → vld t dst true (w.sw, w.inp) (h :: r) = true → La a w.q (sws r) = true →
  ∃ (ps : List Nat) (w' : Wr), ps.length = r.length ∧ (gR t a dst.1 hF).run w ps = some w' ∧ accR a dst.1 (kW w') = true ∧ outs (h :: r) = ps.map (fun p : Nat => (p : Int)) ++ [dst.2]
 | [], h, w, hk, hv, hL => by
  obtain ⟨h1, h2⟩ := vld_head hv
  rw [vld_one h1 h2, Bool.and_true, decide_eq_true_eq] at hv
  rw [sws, List.map_nil, La_nil, accq, Bool.and_eq_true] at hL
  refine ⟨[], w, rfl, rfl, ?_, ?_⟩
  ·rw [accR, kW, ← hv]
   simp only at h1 ⊢
   rw [hL.2, decide_eq_true h1.symm]; rfl
  ·rw [← hv]; rfl
 | g :: r, h, w, hk, hv, hL => by
  obtain ⟨h1, h2⟩ := vld_head hv
  obtain ⟨he, hv'⟩ := vld_next hv
  simp only at h1 h2
  obtain ⟨s, k, hsk, hs, hkk⟩ := peer_port hF.top he
  simp only [Prod.mk.injEq] at hsk
  have hpr := peer_rng hF.top he
  obtain ⟨g1, g2⟩ := vld_head hv'
  have hkr := mem_states.1 hk
  simp only [kW] at hkr
  rw [hsk.2] at he hv' hpr g1 hkk
  rw [h1] at he hv' hpr g1 hkk
  rw [sws, List.map_cons, La_cons, suc_nx hF hkr.2 (by rw [g1]; exact hpr), g1] at hL
  have hnn : ¬ nxA a w.q (Top.peer t (w.sw, (k : Int))).1.1 < 0 := fun hlt => by
   rw [La_neg hlt] at hL; cases hL
  have hst := stp_of he hnn
  have hk' : kW ⟨(Top.peer t (w.sw, (k : Int))).1.1, nxA a w.q (Top.peer t (w.sw, (k : Int))).1.1, (Top.peer t (w.sw, (k : Int))).1.2, w.out ++ [⟨w.sw, w.inp, (k : Int)⟩]⟩ ∈ statesR t a := by
   refine skR_cls hF hk (p := k) ?_
   rw [← stp_sk, hst]; rfl
  obtain ⟨ps, w', e1, e2, e3, e4⟩ := vld_run hF r g _ hk' hv' hL
  refine ⟨k :: ps, w', by simp [e1], ?_, e3, ?_⟩
  ·rw [Gph.run, if_pos (by exact hkk)]
   rw [show (gR t a dst.1 hF).stp w k = _ from hst]
   exact e2
  ·rw [outs, List.map_cons, ← outs, e4, hsk.2]; rfl
theorem run_vld {t : Top.Tp} {a : Tb} (hF : Fit t a) {dst : Int × Int} : ∀ (ps : List Nat) (w w' : Wr), kW w ∈ statesR t a → (gR t a dst.1 hF).run w ps = some w' → accR a dst.1 (kW w') = true →
  ∃ (h : Hop) (r : List Hop), finW w' dst.2 = w.out ++ h :: r ∧ vld t dst true (w.sw, w.inp) (h :: r) = true ∧ La a w.q (sws r) = true ∧ outs (h :: r) = ps.map (fun p : Nat => (p : Int)) ++ [dst.2]
 | [], w, w', hk, hr, ha => by
  cases hr
  rw [accR, Bool.and_eq_true, decide_eq_true_eq] at ha
  have hkr := mem_states.1 hk
  refine ⟨⟨w.sw, w.inp, dst.2⟩, [], rfl, ?_, ?_, rfl⟩
  ·rw [vld_one rfl rfl, Bool.and_true, decide_eq_true_eq]
   have := ha.1
   simp only [kW] at this
   rw [this]
  ·rw [sws, List.map_nil, La_nil, accq, decide_eq_true (show 0 ≤ w.q from hkr.2.1), Bool.true_and]
   exact ha.2
 | p :: ps, w, w', hk, hr, ha => by
  rw [Gph.run] at hr
  split at hr
  case isFalse => cases hr
  cases hst : (gR t a dst.1 hF).stp w p with
  | none => rw [hst] at hr; cases hr
  | some w1 =>
   rw [hst] at hr
   have hst' : stpR t a w p = some w1 := hst
   obtain ⟨s1, s2, s3⟩ := stp_inv hst'
   have hk1 : kW w1 ∈ statesR t a := skR_cls hF hk (p := p) (by rw [← stp_sk, hst']; rfl)
   obtain ⟨h, r, e1, e2, e3, e4⟩ := run_vld hF ps w1 w' hk1 hr ha
   have hkr := mem_states.1 hk
   simp only [kW] at hkr
   have hpr := peer_rng hF.top s1
   obtain ⟨g1, _⟩ := vld_head e2
   subst s3
   simp only at e1 e2 e3 g1
   refine ⟨⟨w.sw, w.inp, (p : Int)⟩, h :: r, by rw [e1]; simp, ?_, ?_, ?_⟩
   ·rw [vld_go rfl rfl s1]
    exact e2
   ·rw [sws, List.map_cons, La_cons, g1, suc_nx hF hkr.2 hpr]
    exact e3
   ·rw [outs, List.map_cons, ← outs, e4]; rfl
theorem mt_La {t : Top.Tp} {x y : Int} {r : List Nd} {p : Pr} (ho : okR t x y r p) {w : List Int} (hw : ∀ c ∈ w, 0 ≤ c ∧ c < (t.ports.length : Int)) : mtL r w = true ↔ La (autR p t.ports.length) 0 w = true := by
 have hv := Top.chk_valid ho.top
 have h16 := hv.small
 have hpos := hv.pos
 have h24 := ho.len
 rw [ho.flt] at h24
 have hok := okP_mono (by omega) p ho.ok
 rw [autR, bld_lang h16 hpos ho.ok h24 rfl, ho.flt, mtL_iff hok (tree_checkP hok h24)]
 exact ⟨fun h => ⟨hw, h⟩, fun h => h.2⟩
def lexO : List Int → List Int → Prop
 | x :: xs, y :: ys => x < y ∨ (x = y ∧ lexO xs ys)
 | _, _ => True
theorem lexO_of : ∀ (a b : List Nat) (d : Int), a.length = b.length → Gph.lex a b → lexO (a.map (fun p : Nat => (p : Int)) ++ [d]) (b.map (fun p : Nat => (p : Int)) ++ [d])
 | [], [], d, _, _ => .inr ⟨rfl, trivial⟩
 | x :: a, y :: b, d, hl, h => by
  rcases h with h | ⟨rfl, h⟩
  ·exact .inl (by simpa using h)
  ·exact .inr ⟨rfl, lexO_of a b d (by simpa using hl) h⟩
 | [], _ :: _, _, hl, _ => by simp at hl
 | _ :: _, [], _, hl, _ => by simp at hl
theorem outs_len (l : List Hop) : (outs l).length = l.length := List.length_map _
theorem host_at {t : Top.Tp} (h0 : Top.chk t = 0) {x : Int} (h : 0 ≤ x ∧ x < t.hosts.length) : 0 ≤ (hostP t x).1 ∧ (hostP t x).1 < t.ports.length := by
 have hx : x.toNat < t.hosts.length := by omega
 rw [hostP, List.getD_eq_getElem?_getD, List.getElem?_eq_getElem hx]
 exact host_rng h0 hx
theorem start_key {t : Top.Tp} {a : Tb} (hF : Fit t a) {s : Int × Int} (hs : 0 ≤ s.1 ∧ s.1 < t.ports.length) (hq : ¬ nxA a 0 s.1 < 0) : kW ⟨s.1, nxA a 0 s.1, s.2, []⟩ ∈ statesR t a := by
 have := nxA_rng hF.aut (q := 0) (s := s.1) ⟨Int.le_refl _, by have := hF.aut.pos; omega⟩ hs
 exact mem_states.2 ⟨hs, by simp only [kW]; omega, by simp only [kW]; omega⟩
theorem opt1 {t : Top.Tp} {a : Tb} (hF : Fit t a) {s d : Int × Int} (hs : 0 ≤ s.1 ∧ s.1 < t.ports.length) {best : List Hop} (h : findR t a hF s d = some best) : vld t d true s best = true ∧ La a 0 (sws best) = true := by
 rw [findR] at h
 split at h
 ·cases h
 rename_i hq
 rw [Option.map_eq_some_iff] at h
 obtain ⟨w, hw, rfl⟩ := h
 rw [Gph.found] at hw
 split at hw
 ·cases hw
 rename_i hD
 cases hw
 have hk := start_key hF hs hq
 obtain ⟨h1, _, h3⟩ := (gR t a d.1 hF).walk_run ((gR t a d.1 hF).D ((gR t a d.1 hF).key ⟨s.1, nxA a 0 s.1, s.2, []⟩)).toNat ⟨s.1, nxA a 0 s.1, s.2, []⟩ (by omega)
 obtain ⟨g, r, e1, e2, e3, _⟩ := run_vld hF _ _ _ hk h1 h3
 rw [e1]
 simp only [List.nil_append] at e2 ⊢
 refine ⟨e2, ?_⟩
 rw [sws, List.map_cons, La_cons, (vld_head e2).1, suc_nx hF ⟨Int.le_refl _, by have := hF.aut.pos; omega⟩ hs]
 exact e3
theorem opt2 {t : Top.Tp} {a : Tb} (hF : Fit t a) {s d : Int × Int} (hs : 0 ≤ s.1 ∧ s.1 < t.ports.length) {l : List Hop} (hv : vld t d true s l = true) (hL : La a 0 (sws l) = true) :
  ∃ best, findR t a hF s d = some best ∧ best.length ≤ l.length ∧ (best.length = l.length → lexO (outs best) (outs l)) := by
 cases l with
 | nil => cases hv
 | cons h r =>
  have hh := vld_head hv
  have hnx := suc_nx hF (q := 0) (s := s.1) ⟨Int.le_refl _, by have := hF.aut.pos; omega⟩ hs
  rw [sws, List.map_cons, La_cons, hh.1, hnx] at hL
  have hq : ¬ nxA a 0 s.1 < 0 := fun hlt => by rw [La_neg hlt] at hL; cases hL
  have hk := start_key hF hs hq
  obtain ⟨ps, w', e1, e2, e3, e4⟩ := vld_run hF r h ⟨s.1, nxA a 0 s.1, s.2, []⟩ hk hv hL
  obtain ⟨d1, d2⟩ := (gR t a d.1 hF).run_D ps _ _ hk e2 e3
  obtain ⟨n, hn⟩ : ∃ n : Nat, (gR t a d.1 hF).D ((gR t a d.1 hF).key ⟨s.1, nxA a 0 s.1, s.2, []⟩) = (n : Int) := ⟨_, (Int.toNat_of_nonneg d1).symm⟩
  have hnp : n ≤ ps.length := by omega
  obtain ⟨h1, h2, h3⟩ := (gR t a d.1 hF).walk_run n _ hn
  obtain ⟨g, q, b1, _, _, b4⟩ := run_vld hF _ _ _ hk h1 h3
  have hbl := congrArg List.length b4
  rw [outs_len, List.length_append, List.length_map, h2] at hbl
  refine ⟨g :: q, ?_, ?_, fun hlen => ?_⟩
  ·rw [findR, if_neg hq, Gph.found, if_neg (by omega), hn, Int.toNat_natCast, Option.map_some, b1]
   rfl
  ·rw [hbl]; simp; omega
  ·rw [b4, e4]
   have hpn : ps.length = n := by
    rw [hbl] at hlen
    simp only [List.length_cons, List.length_nil] at hlen
    omega
   refine lexO_of _ _ _ (by rw [h2, hpn]) ?_
   exact (gR t a d.1 hF).run_lex n ps _ _ hk hn e2 e3 hpn
end Go.Proofs.Yticeakkgoafiaaa


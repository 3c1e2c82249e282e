/-
  Joined by a program from the texts Alt Alt2 L7.
-/
import Derived.Test.YticeakkgoafiaaaMg
import Derived.Test.YticeakkgoafiaaaMl
import Derived.Test.YticeakkgoafiaaaMd
/- Chapter 43: the route for an alternative (plain), better lists. -/
set_option maxRecDepth 100000
set_option maxHeartbeats 4000000
set_option linter.all false
namespace Go.Proofs.Yticeakkgoafiaaa
open Go.Vm Go.ChangeShapes Go.WideShapes Go.ChangeAt Go.RowKit
def lexB : List Int → List Int → Bool
 | x :: xs, y :: ys => if x = y then lexB xs ys else decide (x < y)
 | _, _ => false
def btr (a b : List Hop) : Bool := if a.length = b.length then lexB (outs a) (outs b) else decide (a.length < b.length)
attribute [local push_cast] cfg0 encQ slN encH gfp_lenH gfd_lenH lfl_lenH Nat.mul_one Top.encT Top.slI Top.slP Top.slL
theorem pc23 (a b : List Hop) (ha : a.length ≤ 2 ^ 30) (hb : b.length ≤ 2 ^ 30) : PC Try.prog 23 [slH a, slH b] (.bool (btr a b)) := by
 rw [slH, slH]
 by_cases hl : a.length = b.length
 case neg =>
  have hl2 : ¬ (a.length : Int) = (b.length : Int) := by omega
  rw [btr, if_neg hl]
  by_cases hlt : a.length < b.length
  ·refine PC.walk tok mixed cfg0 Try.func23 rfl Try.call23 (by simp) (by first | rfl | simp) ?_; refine vms1 Try.ntmps23 ?_
   (try refine vms1 hl2 ?_)
   refine endK.retA ?_; simp [evRes, getT, retV, Try.f23,  hlt, hl2]
  ·refine PC.walk tok mixed cfg0 Try.func23 rfl Try.call23 (by simp) (by first | rfl | simp) ?_; refine vms1 Try.ntmps23 ?_
   (try refine vms1 hl2 ?_)
   refine endK.retA ?_; simp [evRes, getT, retV, Try.f23,  hlt, hl2]
 have hl2 : (a.length : Int) = (b.length : Int) := by omega
 rw [btr, if_pos hl]
 generalize hB : lexB (outs a) (outs b) = B
 refine PC.walk tok mixed cfg0 Try.func23 rfl Try.call23 (by simp) (by first | rfl | simp) ?_; refine vms1 Try.ntmps23 ?_
 (try refine vms1 hl2 ?_)
 refine T.lp tok mixed cfg0 (fun ((i : Nat)) => kp 2 (dd 3 (sv (.int .i64 (i : Int)) (dd 38 (nl))))) (fun H0 ((i : Nat)) => H0) (fun ((i : Nat)) => i ≤ a.length ∧ lexB ((outs a).drop i) ((outs b).drop i) = B) (fun ((i : Nat)) => a.length - i) (0) ?_ ?_ ?_
 ·exact ⟨Nat.zero_le _, hB⟩
 ·exact Gn.canon (J := _) (by first | rfl | (simp [List.append_nil, Top.encT, Top.slI, Top.slP, Top.slL, encQ]; done) | (simp [List.append_nil, Top.encT, Top.slI, Top.slP, Top.slL, encQ]; rfl)) (by simp [wk, putT, kp, dd, sv, nl]) (by simp [List.length_append]) (by simp [kp, dd, sv, nl]) (by simp)
 intro i hi
 obtain ⟨hi, hli⟩ := hi
 by_cases hlt : i < a.length
 ·have hlb : i < b.length := by omega
  rw [List.drop_eq_getElem_cons (show i < (outs a).length by rw [outs_len]; exact hlt), List.drop_eq_getElem_cons (show i < (outs b).length by rw [outs_len]; exact hlb), lexB] at hli
  simp only [outs, List.getElem_map] at hli
  have hltb : (i : Int) < (b.length : Int) := by omega
  by_cases he : a[i].out = b[i].out
  ·rw [if_pos he] at hli
   refine vms5 hlt hlb hl2 he hltb ?_
   refine ⟨(i + 1), ⟨by omega, hli⟩, by (try simp only); omega, ?_⟩; exact Gn.canon (by first | rfl | (simp [List.append_nil, Top.encT, Top.slI, Top.slP, Top.slL, encQ]; rfl)) (by simp [wk]) (by simp [List.length_append]) (by simp) (by simp)
  ·rw [if_neg he] at hli
   refine vms5 hlt hlb hl2 he hltb ?_
   refine endK.retA ?_; simp [evRes, getT, retV, Try.f23,  hli]
 ·have h1 : (outs a).drop i = [] := List.drop_eq_nil_of_le (by rw [outs_len]; omega)
  rw [h1] at hli
  simp only [lexB] at hli
  have hltb : ¬ (i : Int) < (b.length : Int) := by omega
  refine vms3 hlt hl2 hltb ?_
  refine endK.retA ?_; simp [evRes, getT, retV, Try.f23,  ← hli]
theorem lexB_of : ∀ {a b : List Int}, a.length = b.length → lexB b a = false → lexO a b
 | [], [], _, _ => trivial
 | x :: a, y :: b, hl, h => by
  rw [lexB] at h
  by_cases e : y = x
  ·rw [if_pos e] at h
   exact .inr ⟨e.symm, lexB_of (by simpa using hl) h⟩
  ·rw [if_neg e, decide_eq_false_iff_not] at h
   exact .inl (by omega)
 | [], _ :: _, hl, _ => by simp at hl
 | _ :: _, [], hl, _ => by simp at hl
theorem lexO_anti : ∀ {a b : List Int}, a.length = b.length → lexO a b → lexO b a → a = b
 | [], [], _, _, _ => rfl
 | x :: a, y :: b, hl, h, h' => by
  rcases h with h | ⟨rfl, h⟩
  ·rcases h' with h' | ⟨rfl, _⟩ <;> omega
  ·rcases h' with h' | ⟨_, h'⟩
   ·omega
   ·rw [lexO_anti (by simpa using hl) h h']
 | [], _ :: _, hl, _, _ => by simp at hl
 | _ :: _, [], hl, _, _ => by simp at hl
theorem lexB_no : ∀ {a b : List Int}, lexO a b → lexB b a = false
 | [], _, _ => by cases ‹List Int› <;> rfl
 | x :: a, [], _ => rfl
 | x :: a, y :: b, h => by
  rw [lexB]
  rcases h with h | ⟨rfl, h⟩
  ·rw [if_neg (by omega), decide_eq_false (by omega)]
  ·rw [if_pos rfl]
   exact lexB_no h
theorem vld_outs {t : Top.Tp} {d : Int × Int} : ∀ {l l' : List Hop} {a : Int × Int}, vld t d true a l = true → vld t d true a l' = true → outs l = outs l' → l = l'
 | [], _, _, h, _, _ => by cases h
 | _ :: _, [], _, _, h, _ => by cases h
 | h :: r, h' :: r', a, hv, hv', ho => by
  obtain ⟨h1, h2⟩ := vld_head hv
  obtain ⟨g1, g2⟩ := vld_head hv'
  simp only [outs, List.map_cons, List.cons.injEq] at ho
  have he : h = h' := by
   obtain ⟨a1, a2, a3⟩ := h
   obtain ⟨b1, b2, b3⟩ := h'
   simp only at h1 h2 g1 g2 ho
   rw [h1, h2, g1, g2, ho.1]
  subst he
  cases r with
  | nil =>
   cases r' with
   | nil => rfl
   | cons _ _ => simp at ho
  | cons g r =>
   cases r' with
   | nil => simp at ho
   | cons g' r' =>
    rw [vld_outs (vld_next hv).2 (vld_next hv').2 ho.2]
def V2 (t : Top.Tp) (a : Tb) (s d : Int × Int) (l : List Hop) : Prop := vld t d true s l = true ∧ La a 0 (sws l) = true
def wantR : Option (List Hop) → Option (List Hop) → Option (List Hop)
 | none, b => b
 | some a, none => some a
 | some a, some b => if btr b a then some b else some a
theorem alt_spec {t : Top.Tp} {a b c : Tb} (ha : Fit t a) (hb : Fit t b) (hc : Fit t c) {s d : Int × Int} (hs : 0 ≤ s.1 ∧ s.1 < t.ports.length) (hL : ∀ l, vld t d true s l = true → (La c 0 (sws l) = true ↔ La a 0 (sws l) = true ∨ La b 0 (sws l) = true)) :
  findR t c hc s d = wantR (findR t a ha s d) (findR t b hb s d) := by
 have va := fun l (h : V2 t a s d l) => opt2 ha hs h.1 h.2
 have vb := fun l (h : V2 t b s d l) => opt2 hb hs h.1 h.2
 have vc := fun l (h : V2 t c s d l) => opt2 hc hs h.1 h.2
 have ua := fun l (h : findR t a ha s d = some l) => opt1 ha hs h
 have ub := fun l (h : findR t b hb s d = some l) => opt1 hb hs h
 have uc := fun l (h : findR t c hc s d = some l) => opt1 hc hs h
 have hac : ∀ l, V2 t a s d l → V2 t c s d l := fun l h => ⟨h.1, (hL l h.1).2 (.inl h.2)⟩
 have hbc : ∀ l, V2 t b s d l → V2 t c s d l := fun l h => ⟨h.1, (hL l h.1).2 (.inr h.2)⟩
 have hcc : ∀ l, V2 t c s d l → V2 t a s d l ∨ V2 t b s d l := fun l h => ((hL l h.1).1 h.2).imp (fun g => ⟨h.1, g⟩) (fun g => ⟨h.1, g⟩)
 generalize findR t a ha s d = A at va ua ⊢
 generalize findR t b hb s d = B at vb ub ⊢
 generalize findR t c hc s d = C at vc uc ⊢
 have anti : ∀ x y : List Hop, vld t d true s x = true → vld t d true s y = true → x.length ≤ y.length → y.length ≤ x.length → (x.length = y.length → lexO (outs x) (outs y)) → (y.length = x.length → lexO (outs y) (outs x)) → x = y := by
  intro x y h1 h2 h3 h4 h5 h6
  have hl : x.length = y.length := by omega
  exact vld_outs h1 h2 (lexO_anti (by rw [outs_len, outs_len]; exact hl) (h5 hl) (h6 hl.symm))
 cases C with
 | none =>
  have nA : A = none := by
   cases A with
   | none => rfl
   | some x => obtain ⟨_, h, _⟩ := vc x (hac x (ua x rfl)); cases h
  have nB : B = none := by
   cases B with
   | none => rfl
   | some x => obtain ⟨_, h, _⟩ := vc x (hbc x (ub x rfl)); cases h
  subst nA
  subst nB
  rfl
 | some z =>
  have hz := uc z rfl
  have ca : ∀ x, A = some x → z.length ≤ x.length ∧ (z.length = x.length → lexO (outs z) (outs x)) := fun x h => by
   obtain ⟨_, h1, h2⟩ := vc x (hac x (ua x h))
   cases h1
   exact h2
  have cb : ∀ x, B = some x → z.length ≤ x.length ∧ (z.length = x.length → lexO (outs z) (outs x)) := fun x h => by
   obtain ⟨_, h1, h2⟩ := vc x (hbc x (ub x h))
   cases h1
   exact h2
  have eA : V2 t a s d z → A = some z := fun h => by
   obtain ⟨x, h1, h2, h3⟩ := va z h
   obtain ⟨g1, g2⟩ := ca x h1
   rw [h1, anti x z (ua x h1).1 hz.1 h2 g1 h3 g2]
  have eB : V2 t b s d z → B = some z := fun h => by
   obtain ⟨x, h1, h2, h3⟩ := vb z h
   obtain ⟨g1, g2⟩ := cb x h1
   rw [h1, anti x z (ub x h1).1 hz.1 h2 g1 h3 g2]
  have nob : ∀ x, z.length ≤ x.length ∧ (z.length = x.length → lexO (outs z) (outs x)) → btr x z = false := fun x h => by
   rw [btr]
   split
   ·rename_i e
    exact lexB_no (h.2 e.symm)
   ·exact decide_eq_false (by omega)
  by_cases hA : V2 t a s d z
  ·have e := eA hA
   subst e
   cases B with
   | none => rfl
   | some x =>
    rw [wantR, nob x (cb x rfl)]
    rfl
  ·have e := eB ((hcc z hz).resolve_left hA)
   subst e
   cases A with
   | none => rfl
   | some x =>
    rw [wantR]
    cases hb : btr z x with
    | true => rfl
    | false =>
     exfalso
     obtain ⟨g1, g2⟩ := ca x rfl
     rw [btr] at hb
     split at hb
     ·rename_i e
      have := lexB_of (by rw [outs_len, outs_len]; exact e.symm) hb
      have := anti x z (ua x rfl).1 hz.1 (by omega) g1 (fun _ => this) g2
      subst this
      exact hA (ua x rfl)
     ·rw [decide_eq_false_iff_not] at hb
      omega
end Go.Proofs.Yticeakkgoafiaaa

/- Chapter 43: the route for an alternative of two expressions is the better one of the routes for both. -/
set_option maxRecDepth 100000
set_option maxHeartbeats 4000000
set_option linter.all false
namespace Go.Proofs.Yticeakkgoafiaaa
open Go.Vm Go.ChangeShapes Go.WideShapes Go.ChangeAt Go.RowKit
def cfgA : Cfg := { lv := [49, 50], ef := [], ord := [], em := [] }
theorem ones_N {g : Bool} {p : Prop} : ∀ {xs : List Nd}, ones g (xs.flatMap encN) p = p
 | [] => rfl
 | x :: xs => by simp only [List.flatMap_cons, encN, List.cons_append, List.nil_append, ones, V.one]; exact ones_N
def altL (r s : List Nd) : List Nd := op0 5 :: (r ++ s)
theorem fnd_an {t : Top.Tp} {x y : Int} {r : List Nd} (h : FndR 10 t x y r) : ∃ (v : V) (e : Int) (o : Option (List Hop)), hopV v e o ∧ PC Try.prog 10 (argV t x y r) (.tup [v, .int .i64 e]) ∧
  ((errR t x y r e ∧ o = none) ∨ ∃ (p : Pr) (ho : okR t x y r p), o = findR t (autR p t.ports.length) (fit_of ho) (hostP t x) (hostP t y) ∧ (o = none → e = 21)) := by
 rcases h with ⟨e, he, h0, h⟩ | ⟨p, ho, h⟩
 ·exact ⟨_, e, none, .inl ⟨rfl, h0, rfl⟩, h, .inl ⟨he, rfl⟩⟩
 ·cases hr : findR t (autR p t.ports.length) (fit_of ho) (hostP t x) (hostP t y) with
  | none =>
   rw [hr] at h
   exact ⟨_, 21, none, .inl ⟨rfl, by decide, rfl⟩, h, .inr ⟨p, ho, hr.symm, fun _ => rfl⟩⟩
  | some l =>
   rw [hr] at h
   exact ⟨_, 0, some l, .inr ⟨l, rfl, rfl, rfl, find_len hr⟩, h, .inr ⟨p, ho, hr.symm, fun h => by cases h⟩⟩
theorem err_alt {t : Top.Tp} {x y : Int} {r s : List Nd} {e f : Int} (h : errR t x y r e) (h' : errR t x y s f) (c1 : checkP t.ports.length r = 0) (c2 : checkP t.ports.length s = 0) : e = 12 ∨ f = 12 ∨ e = f := by
 rcases h with ⟨a, h⟩ | ⟨a, b, h⟩ | ⟨a, b, c, h⟩ | ⟨a, b, c, _, h⟩ <;> rcases h' with ⟨a', h'⟩ | ⟨a', b', h'⟩ | ⟨a', b', c', h'⟩ | ⟨a', b', c', _, h'⟩ <;>
  first | exact .inl h | exact .inr (.inl h') | exact absurd a' a | exact absurd a a' | exact absurd b b' | exact absurd b' b | exact absurd c1 c | exact absurd c2 c' | exact .inr (.inr (by rw [h, h']))
theorem err_ok {t : Top.Tp} {x y : Int} {r s : List Nd} {e : Int} {p : Pr} (h : errR t x y r e) (h' : okR t x y s p) (c1 : checkP t.ports.length r = 0) : e = 12 := by
 rcases h with ⟨a, _⟩ | ⟨_, b, _⟩ | ⟨_, _, c, _⟩ | ⟨_, _, _, _, h⟩
 ·exact absurd h'.top a
 ·exact absurd b h'.rng
 ·exact absurd c1 c
 ·exact h
theorem tree_checkP' {sw : Int} {r : List Nd} {p : Pr} (_ : checkP sw r = 0) (hl : r.length ≤ 24) (hf : r = flat p) (ho : okP sw p) (hs : sw ≤ 1000000000 := by omega) : checkP 1000000000 r = 0 := by
 subst hf
 exact tree_checkP (okP_mono hs p ho) hl
theorem alt_find {t : Top.Tp} {x y : Int} {r s : List Nd} (hf : t.fit) (c1 : checkP t.ports.length r = 0) (c2 : checkP t.ports.length s = 0) (l1 : r.length ≤ 11) (l2 : s.length ≤ 11) :
  ∃ (va vb vc : V) (e f g : Int) (A B C : Option (List Hop)), hopV va e A ∧ hopV vb f B ∧ hopV vc g C ∧ PC Try.prog 10 (argV t x y r) (.tup [va, .int .i64 e]) ∧ PC Try.prog 10 (argV t x y s) (.tup [vb, .int .i64 f]) ∧ PC Try.prog 10 (argV t x y (altL r s)) (.tup [vc, .int .i64 g]) ∧
  (e = 12 ∨ f = 12 ∨ g = 12 ∨ ((e ≠ 0 ∧ f ≠ 0) → g = e) ∧ (¬ (e ≠ 0 ∧ f ≠ 0) → C = wantR A B)) := by
 obtain ⟨va, e, A, hA, pA, qA⟩ := fnd_an (pc10 t x y r hf (by omega))
 obtain ⟨vb, f, B, hB, pB, qB⟩ := fnd_an (pc10 t x y s hf (by omega))
 obtain ⟨vc, g, C, hC, pC, qC⟩ := fnd_an (pc10 t x y (altL r s) hf (by rw [altL]; simp; omega))
 refine ⟨va, vb, vc, e, f, g, A, B, C, hA, hB, hC, pA, pB, pC, ?_⟩
 obtain ⟨_, p1, ok1, f1⟩ := checkP_tree c1
 obtain ⟨_, p2, ok2, f2⟩ := checkP_tree c2
 have hfl : altL r s = flat (.bin (op0 5) p1 p2) := by rw [altL, flat, f1, f2]
 have okb : okP t.ports.length (.bin (op0 5) p1 p2) := ⟨.inr rfl, ok1, ok2⟩
 have hlb : (altL r s).length ≤ 24 := by rw [altL]; simp; omega
 have cb : checkP t.ports.length (altL r s) = 0 := by
  rw [hfl]
  exact tree_checkP okb (by rw [← hfl]; exact hlb)
 rcases qA with ⟨eA, nA⟩ | ⟨pa, oa, fa, ga⟩
 ·have n0 : e ≠ 0 := by
   rcases hA with ⟨_, h, _⟩ | ⟨_, _, _, h, _⟩
   ·exact h
   ·rw [nA] at h; cases h
  rcases qB with ⟨eB, nB⟩ | ⟨pb, ob, _, _⟩
  ·rcases qC with ⟨eC, nC⟩ | ⟨pc, oc, _, _⟩
   ·rcases err_alt eA eC c1 cb with h | h | h
    ·exact .inl h
    ·exact .inr (.inr (.inl h))
    ·rcases err_alt eA eB c1 c2 with g1 | g1 | g1
     ·exact .inl g1
     ·exact .inr (.inl g1)
     ·refine .inr (.inr (.inr ⟨fun _ => h.symm, fun hn => ?_⟩))
      exact absurd ⟨n0, by rw [← g1]; exact n0⟩ hn
   ·exact .inl (err_ok eA oc c1)
  ·exact .inl (err_ok eA ob c1)
 ·rcases qB with ⟨eB, nB⟩ | ⟨pb, ob, fb, gb⟩
  ·exact .inr (.inl (err_ok eB oa c2))
  ·rcases qC with ⟨eC, nC⟩ | ⟨pc, oc, fc, gc⟩
   ·exact .inr (.inr (.inl (err_ok eC oa cb)))
   ·refine .inr (.inr (.inr ?_))
    have h1 := (flat_inj _ pa p1 [] [] oa.ok ok1 (by rw [← oa.flt, ← f1])).1
    have h2 := (flat_inj _ pb p2 [] [] ob.ok ok2 (by rw [← ob.flt, ← f2])).1
    have h3 := (flat_inj _ pc (.bin (op0 5) p1 p2) [] [] oc.ok okb (by rw [← oc.flt, ← hfl])).1
    have hrng := oa.rng
    rw [badR] at hrng
    have hsr := host_at oa.top (x := x) (by omega)
    have hw : C = wantR A B := by
     rw [fa, fb, fc]
     refine alt_spec (fit_of oa) (fit_of ob) (fit_of oc) hsr fun l hl => ?_
     have hr := vld_rng oa.top l _ hsr hl
     rw [← mt_La oa hr, ← mt_La ob hr, ← mt_La oc hr]
     have hv := Top.chk_valid oa.top
     have h16 := hv.small
     have g1 := mtL_iff (l := sws l) (okP_mono (sw := t.ports.length) (by omega) p1 ok1) (by rw [← f1]; exact tree_checkP' c1 (by omega) f1 ok1)
     have g2 := mtL_iff (l := sws l) (okP_mono (sw := t.ports.length) (by omega) p2 ok2) (by rw [← f2]; exact tree_checkP' c2 (by omega) f2 ok2)
     have g3 := mtL_iff (l := sws l) (okP_mono (sw := t.ports.length) (by omega) (.bin (op0 5) p1 p2) okb) (by rw [← hfl]; exact tree_checkP' cb hlb hfl okb)
     rw [hfl, g3, f1, g1, f2, g2]
     simp [Mt, op0]
    refine ⟨fun hn => ?_, fun _ => hw⟩
    have e1 : A = none := by
     rcases hA with ⟨_, _, h⟩ | ⟨_, _, h, _⟩
     ·exact h
     ·exact absurd h hn.1
    have e2 : B = none := by
     rcases hB with ⟨_, _, h⟩ | ⟨_, _, h, _⟩
     ·exact h
     ·exact absurd h hn.2
    rw [e1, e2, wantR] at hw
    rw [ga e1, gc hw]
end Go.Proofs.Yticeakkgoafiaaa

/- Chapter 43: the route for an alternative of two expressions is the better one of the routes for both. -/
set_option maxRecDepth 100000
set_option maxHeartbeats 4000000
set_option linter.all false
namespace Go.Proofs.Yticeakkgoafiaaa
open Go.Vm Go.ChangeShapes Go.WideShapes Go.ChangeAt Go.RowKit
theorem ones_N2 {g : Bool} {p : Prop} {r s : List Nd} : ones g (r.flatMap encN ++ s.flatMap encN) p = p := by
 rw [← List.flatMap_append]
 exact ones_N
theorem take_N2 {r s : List Nd} : List.take ((r.length + s.length) * 2) (r.flatMap encN ++ s.flatMap encN) = r.flatMap encN ++ s.flatMap encN := by
 refine List.take_of_length_le ?_
 rw [List.length_append, len_flat lenN, len_flat lenN]
 omega
theorem hop_sl {v : V} {e : Int} {o : Option (List Hop)} (h : hopV v e o) : ∃ (b : Bool) (xs : List Hop), v = .sl b (xs.flatMap encH) xs.length ∧ xs.length ≤ 1025 ∧ ((b = true ∧ e ≠ 0 ∧ o = none) ∨ (b = false ∧ e = 0 ∧ o = some xs)) := by
 rcases h with ⟨rfl, h1, h2⟩ | ⟨l, rfl, h1, h2, hl⟩
 ·exact ⟨true, [], rfl, by decide, .inl ⟨rfl, h1, h2⟩⟩
 ·exact ⟨false, l, rfl, hl, .inr ⟨rfl, h1, h2⟩⟩
attribute [local push_cast] cfg0 cfgA encQ slN encN encH gfp_lenN gfd_lenN lfl_lenN ones_N take_N ones_N2 take_N2 gfp_lenH gfd_lenH lfl_lenH Nat.mul_one Top.encT Top.slI Top.slP Top.slL
theorem pc7 (t : Top.Tp) (q : Qy) (s : List Nd) : PC Try.prog 7 [.agg (Top.encT t), .agg (encQ q), slN s] (.bool true) := by
 have h8 := pc8 t q
 have hb8 := fun h => small_of (t := t) (q := q) h
 obtain ⟨x, y, r⟩ := q
 simp only at hb8
 cases hsm : smallQ t ⟨x, y, r⟩ with
 | false =>
  rw [hsm] at h8
  refine PC.walk tok mixed cfg0 Try.func7 rfl Try.call7 (by simp) (by first | rfl | simp) ?_; refine vms1 Try.ntmps7 ?_
  refine callO.pc h8 ?_
  refine vms0 ?_
  refine callO.pc pc9 ?_
  refine vms0 ?_
  refine endK.retA ?_; simp [evRes, getT, retV, Try.f7]
 | true =>
  rw [hsm] at h8
  obtain ⟨hf, _⟩ := hb8 hsm
  by_cases l1 : (11 : Int) < r.length
  ·refine PC.walk tok mixed cfg0 Try.func7 rfl Try.call7 (by simp) (by first | rfl | simp) ?_; refine vms1 Try.ntmps7 ?_
   refine callO.pc h8 ?_
   simp (maxSteps := 2000000) -implicitDefEqProofs +contextual (disch := first | assumption | omega | decide +kernel) only [push_cast, ↓capI, seval, Nat.reduceLeDiff, Nat.reduceEqDiff, reduceCtorEq, ↓reduceIte, l1]
   refine callO.pc pc9 ?_
   refine vms0 ?_
   refine endK.retA ?_; simp [evRes, getT, retV, Try.f7]
  by_cases l2 : (11 : Int) < s.length
  ·refine PC.walk tok mixed cfg0 Try.func7 rfl Try.call7 (by simp) (by first | rfl | simp) ?_; refine vms1 Try.ntmps7 ?_
   refine callO.pc h8 ?_
   simp (maxSteps := 2000000) -implicitDefEqProofs +contextual (disch := first | assumption | omega | decide +kernel) only [push_cast, ↓capI, seval, Nat.reduceLeDiff, Nat.reduceEqDiff, reduceCtorEq, ↓reduceIte, l1, l2]
   refine callO.pc pc9 ?_
   refine vms0 ?_
   refine endK.retA ?_; simp [evRes, getT, retV, Try.f7]
  have h22r := pc22 (t.ports.length : Int) r (by omega)
  have h22s := pc22 (t.ports.length : Int) s (by omega)
  by_cases c1 : checkP t.ports.length r = 0
  case neg =>
   refine PC.walk tok mixed cfg0 Try.func7 rfl Try.call7 (by simp) (by first | rfl | simp) ?_; refine vms1 Try.ntmps7 ?_
   refine callO.pc h8 ?_
   simp (maxSteps := 2000000) -implicitDefEqProofs +contextual (disch := first | assumption | omega | decide +kernel) only [push_cast, ↓capI, seval, Nat.reduceLeDiff, Nat.reduceEqDiff, reduceCtorEq, ↓reduceIte, l1, l2]
   refine callO.pc h22r ?_
   simp (maxSteps := 2000000) -implicitDefEqProofs +contextual (disch := first | assumption | omega | decide +kernel) only [push_cast, ↓capI, seval, Nat.reduceLeDiff, Nat.reduceEqDiff, reduceCtorEq, ↓reduceIte, c1]
   refine callO.pc pc9 ?_
   refine vms0 ?_
   refine endK.retA ?_; simp [evRes, getT, retV, Try.f7]
  by_cases c2 : checkP t.ports.length s = 0
  case neg =>
   refine PC.walk tok mixed cfg0 Try.func7 rfl Try.call7 (by simp) (by first | rfl | simp) ?_; refine vms1 Try.ntmps7 ?_
   refine callO.pc h8 ?_
   simp (maxSteps := 2000000) -implicitDefEqProofs +contextual (disch := first | assumption | omega | decide +kernel) only [push_cast, ↓capI, seval, Nat.reduceLeDiff, Nat.reduceEqDiff, reduceCtorEq, ↓reduceIte, l1, l2]
   refine callO.pc h22r ?_
   simp (maxSteps := 2000000) -implicitDefEqProofs +contextual (disch := first | assumption | omega | decide +kernel) only [push_cast, ↓capI, seval, Nat.reduceLeDiff, Nat.reduceEqDiff, reduceCtorEq, ↓reduceIte, c1]
   refine callO.pc h22s ?_
   simp (maxSteps := 2000000) -implicitDefEqProofs +contextual (disch := first | assumption | omega | decide +kernel) only [push_cast, ↓capI, seval, Nat.reduceLeDiff, Nat.reduceEqDiff, reduceCtorEq, ↓reduceIte, c2]
   refine callO.pc pc9 ?_
   refine vms0 ?_
   refine endK.retA ?_; simp [evRes, getT, retV, Try.f7]
  obtain ⟨va, vb, vc, e, f, g, A, B, C, hA, hB, hC, pA, pB, pC, hall⟩ := alt_find (x := x) (y := y) hf c1 c2 (by omega) (by omega)
  rw [argV] at pA pB pC
  have hln : ((altL r s).flatMap encN).length = (altL r s).length * 2 := len_flat lenN _
  have hal : (altL r s).length = 1 + (r.length + s.length) := by rw [altL]; simp; omega
  refine PC.cutN tok mixed cfgA 2 Try.func7 rfl Try.call7 (by simp) rfl ?_
  simp (maxSteps := 2000000) -implicitDefEqProofs +contextual (disch := first | assumption | omega | decide +kernel) only [push_cast, ↓capI, seval, Nat.reduceLeDiff, Nat.reduceEqDiff, reduceCtorEq, ↓reduceIte, Try.ntmps7, cutAt_z, cutAt_s]
  refine callO.pc h8 ?_
  simp (maxSteps := 2000000) -implicitDefEqProofs +contextual (disch := first | assumption | omega | decide +kernel) only [push_cast, ↓capI, seval, Nat.reduceLeDiff, Nat.reduceEqDiff, reduceCtorEq, ↓reduceIte, l1, l2, cutAt_z, cutAt_s]
  refine callO.pc h22r ?_
  simp (maxSteps := 2000000) -implicitDefEqProofs +contextual (disch := first | assumption | omega | decide +kernel) only [push_cast, ↓capI, seval, Nat.reduceLeDiff, Nat.reduceEqDiff, reduceCtorEq, ↓reduceIte, c1, cutAt_z, cutAt_s]
  refine callO.pc h22s ?_
  simp (maxSteps := 2000000) -implicitDefEqProofs +contextual (disch := first | assumption | omega | decide +kernel) only [push_cast, ↓capI, seval, Nat.reduceLeDiff, Nat.reduceEqDiff, reduceCtorEq, ↓reduceIte, c2, cutAt_z, cutAt_s]
  obtain ⟨ba, xa, rfl, la, hA⟩ := hop_sl hA
  obtain ⟨bb, xb, rfl, lb, hB⟩ := hop_sl hB
  obtain ⟨bc, xc, rfl, lc, hC⟩ := hop_sl hC
  have hT : (1 + (r.length + s.length)) = (altL r s).length := hal.symm
  have hE : V.int .i64 5 :: V.int .i64 0 :: (r.flatMap encN ++ s.flatMap encN) = (altL r s).flatMap encN := by
   rw [altL, List.flatMap_cons, List.flatMap_append]
   rfl
  refine cutK.gn ((Gn.weak (tm' := (.dead :: .dead :: slN s :: .ptr 0 0 0 :: .ptr 1 0 0 :: .dead :: .dead :: .buf 2 1 0 (1 + (r.length + s.length)) 2 :: .dead :: .dead :: .dead :: .dead :: .dead :: .dead :: .dead :: .dead :: .dead :: .dead :: .dead :: .dead :: .dead :: .dead :: .dead :: .dead :: .dead :: .dead :: .dead :: .dead :: .dead :: .dead :: .dead :: .dead :: .dead :: .dead :: .dead :: .dead :: .dead :: .dead :: .dead :: .dead :: .dead :: .dead :: .dead :: .dead :: .dead :: .dead :: .dead :: .dead :: .dead :: .dead :: .dead :: .dead :: .dead :: .dead :: .dead :: .dead :: .dead :: .dead :: .dead :: .dead :: .dead :: .dead :: .dead :: .dead :: .dead :: .dead :: .dead :: .dead :: .dead :: .dead :: .dead :: .dead :: .dead :: .dead :: .dead :: .dead :: .dead :: .dead :: .dead :: .dead :: .dead :: .dead :: .dead :: .dead :: .dead :: .dead :: .dead :: .dead :: .dead :: .dead :: .dead :: .dead :: .dead :: .dead :: .dead :: .dead :: .dead :: .dead :: .dead :: .dead :: .dead :: .dead :: .dead :: .dead :: .dead :: .dead :: .dead :: .dead :: .dead :: .dead :: .dead :: .dead :: .dead :: .dead :: .dead :: .dead :: .dead :: .dead :: .dead :: .dead :: .dead :: .dead :: .dead :: .dead :: .dead :: .dead :: .dead :: .dead :: .dead :: .dead :: .dead :: .dead :: [])) (by simp [wk, slN])).trans ((Gn.freeze (id := 2) rfl).trans ((Gn.weak (tm' := (.dead :: .dead :: slN s :: .ptr 0 0 0 :: .ptr 1 0 0 :: .dead :: .dead :: slN (altL r s) :: .dead :: .dead :: .dead :: .dead :: .dead :: .dead :: .dead :: .dead :: .dead :: .dead :: .dead :: .dead :: .dead :: .dead :: .dead :: .dead :: .dead :: .dead :: .dead :: .dead :: .dead :: .dead :: .dead :: .dead :: .dead :: .dead :: .dead :: .dead :: .dead :: .dead :: .dead :: .dead :: .dead :: .dead :: .dead :: .dead :: .dead :: .dead :: .dead :: .dead :: .dead :: .dead :: .dead :: .dead :: .dead :: .dead :: .dead :: .dead :: .dead :: .dead :: .dead :: .dead :: .dead :: .dead :: .dead :: .dead :: .dead :: .dead :: .dead :: .dead :: .dead :: .dead :: .dead :: .dead :: .dead :: .dead :: .dead :: .dead :: .dead :: .dead :: .dead :: .dead :: .dead :: .dead :: .dead :: .dead :: .dead :: .dead :: .dead :: .dead :: .dead :: .dead :: .dead :: .dead :: .dead :: .dead :: .dead :: .dead :: .dead :: .dead :: .dead :: .dead :: .dead :: .dead :: .dead :: .dead :: .dead :: .dead :: .dead :: .dead :: .dead :: .dead :: .dead :: .dead :: .dead :: .dead :: .dead :: .dead :: .dead :: .dead :: .dead :: .dead :: .dead :: .dead :: .dead :: .dead :: .dead :: .dead :: .dead :: .dead :: .dead :: .dead :: .dead :: .dead :: [])) ?_).trans (Gn.canon (J := [.dead, .cells 2 (r.flatMap encN ++ s.flatMap encN)]) (H := [.cells 0 (Top.encT t), .cells 0 [.int .i64 x, .int .i64 y, .sl false (r.flatMap encN) r.length]]) (tm' := (.dead :: .dead :: slN s :: .ptr 0 0 0 :: .ptr 1 0 0 :: .dead :: .dead :: slN (altL r s) :: .dead :: .dead :: .dead :: .dead :: .dead :: .dead :: .dead :: .dead :: .dead :: .dead :: .dead :: .dead :: .dead :: .dead :: .dead :: .dead :: .dead :: .dead :: .dead :: .dead :: .dead :: .dead :: .dead :: .dead :: .dead :: .dead :: .dead :: .dead :: .dead :: .dead :: .dead :: .dead :: .dead :: .dead :: .dead :: .dead :: .dead :: .dead :: .dead :: .dead :: .dead :: .dead :: .dead :: .dead :: .dead :: .dead :: .dead :: .dead :: .dead :: .dead :: .dead :: .dead :: .dead :: .dead :: .dead :: .dead :: .dead :: .dead :: .dead :: .dead :: .dead :: .dead :: .dead :: .dead :: .dead :: .dead :: .dead :: .dead :: .dead :: .dead :: .dead :: .dead :: .dead :: .dead :: .dead :: .dead :: .dead :: .dead :: .dead :: .dead :: .dead :: .dead :: .dead :: .dead :: .dead :: .dead :: .dead :: .dead :: .dead :: .dead :: .dead :: .dead :: .dead :: .dead :: .dead :: .dead :: .dead :: .dead :: .dead :: .dead :: .dead :: .dead :: .dead :: .dead :: .dead :: .dead :: .dead :: .dead :: .dead :: .dead :: .dead :: .dead :: .dead :: .dead :: .dead :: .dead :: .dead :: .dead :: .dead :: .dead :: .dead :: .dead :: .dead :: .dead :: [])) ?_ ?_ ?_ ?_ ?_)))) (cutK.go (cfg := cfgA) tok mixed ?_)
  ·have htk : List.take ((altL r s).length * 2) ((altL r s).flatMap encN) = (altL r s).flatMap encN := List.take_of_length_le (by omega)
   rw [hT, hE]
   simp [wk, fzs, fz, Nat.beq, Nat.beq_refl, slN, fzs_ok, hln, htk]
  ·have hfz := fun l => fzs_ok (id := 2) (ver := 1) (l := l) (xs := r.flatMap encN ++ s.flatMap encN) (by rw [← List.flatMap_append]; exact bel_Ns _)
   simp [wk, fzs, fz, fzH, setO, Nat.beq, Nat.beq_refl, slN, hfz, fzs_ok, Top.encT, Top.slI, Top.slP, Top.slL]
  ·simp [wk]
  ·simp
  ·simp 
  ·simp 
  rw [slN] at pA pB pC
  simp only [Top.encT, Top.slI, Top.slP, Top.slL] at pA pB pC
  refine vms0 ?_
  by_cases e12 : e = 12
  ·
   refine callO.pc pA ?_
   simp (maxSteps := 2000000) -implicitDefEqProofs +contextual (disch := first | assumption | omega | decide +kernel) only [push_cast, ↓capI, seval, Nat.reduceLeDiff, Nat.reduceEqDiff, reduceCtorEq, ↓reduceIte, e12]
   refine callO.pc pB ?_
   simp (maxSteps := 2000000) -implicitDefEqProofs +contextual (disch := first | assumption | omega | decide +kernel) only [push_cast, ↓capI, seval, Nat.reduceLeDiff, Nat.reduceEqDiff, reduceCtorEq, ↓reduceIte, e12]
   refine callO.pc pC ?_
   simp (maxSteps := 2000000) -implicitDefEqProofs +contextual (disch := first | assumption | omega | decide +kernel) only [push_cast, ↓capI, seval, Nat.reduceLeDiff, Nat.reduceEqDiff, reduceCtorEq, ↓reduceIte, e12]
   refine callO.pc pc9 ?_
   refine vms0 ?_
   refine endK.retA ?_; simp [evRes, getT, retV, Try.f7]
  by_cases f12 : f = 12
  ·
   refine callO.pc pA ?_
   simp (maxSteps := 2000000) -implicitDefEqProofs +contextual (disch := first | assumption | omega | decide +kernel) only [push_cast, ↓capI, seval, Nat.reduceLeDiff, Nat.reduceEqDiff, reduceCtorEq, ↓reduceIte, e12, f12]
   refine callO.pc pB ?_
   simp (maxSteps := 2000000) -implicitDefEqProofs +contextual (disch := first | assumption | omega | decide +kernel) only [push_cast, ↓capI, seval, Nat.reduceLeDiff, Nat.reduceEqDiff, reduceCtorEq, ↓reduceIte, e12, f12]
   refine callO.pc pC ?_
   simp (maxSteps := 2000000) -implicitDefEqProofs +contextual (disch := first | assumption | omega | decide +kernel) only [push_cast, ↓capI, seval, Nat.reduceLeDiff, Nat.reduceEqDiff, reduceCtorEq, ↓reduceIte, e12, f12]
   refine callO.pc pc9 ?_
   refine vms0 ?_
   refine endK.retA ?_; simp [evRes, getT, retV, Try.f7]
  by_cases g12 : g = 12
  ·
   refine callO.pc pA ?_
   simp (maxSteps := 2000000) -implicitDefEqProofs +contextual (disch := first | assumption | omega | decide +kernel) only [push_cast, ↓capI, seval, Nat.reduceLeDiff, Nat.reduceEqDiff, reduceCtorEq, ↓reduceIte, e12, f12, g12]
   refine callO.pc pB ?_
   simp (maxSteps := 2000000) -implicitDefEqProofs +contextual (disch := first | assumption | omega | decide +kernel) only [push_cast, ↓capI, seval, Nat.reduceLeDiff, Nat.reduceEqDiff, reduceCtorEq, ↓reduceIte, e12, f12, g12]
   refine callO.pc pC ?_
   simp (maxSteps := 2000000) -implicitDefEqProofs +contextual (disch := first | assumption | omega | decide +kernel) only [push_cast, ↓capI, seval, Nat.reduceLeDiff, Nat.reduceEqDiff, reduceCtorEq, ↓reduceIte, e12, f12, g12]
   refine callO.pc pc9 ?_
   refine vms0 ?_
   refine endK.retA ?_; simp [evRes, getT, retV, Try.f7]
  obtain ⟨q1, q2⟩ := (hall.resolve_left e12).resolve_left f12 |>.resolve_left g12
  rcases hA with ⟨rfl, e0, rfl⟩ | ⟨rfl, rfl, rfl⟩
  ·rcases hB with ⟨rfl, f0, rfl⟩ | ⟨rfl, rfl, rfl⟩
   ·have g1 := q1 ⟨e0, f0⟩
    subst g1
    refine callO.pc pA ?_
    simp (maxSteps := 2000000) -implicitDefEqProofs +contextual (disch := first | assumption | omega | decide +kernel) only [push_cast, ↓capI, seval, Nat.reduceLeDiff, Nat.reduceEqDiff, reduceCtorEq, ↓reduceIte, e0, f0, e12, f12]
    refine callO.pc pB ?_
    simp (maxSteps := 2000000) -implicitDefEqProofs +contextual (disch := first | assumption | omega | decide +kernel) only [push_cast, ↓capI, seval, Nat.reduceLeDiff, Nat.reduceEqDiff, reduceCtorEq, ↓reduceIte, e0, f0, e12, f12]
    refine callO.pc pC ?_
    simp (maxSteps := 2000000) -implicitDefEqProofs +contextual (disch := first | assumption | omega | decide +kernel) only [push_cast, ↓capI, seval, Nat.reduceLeDiff, Nat.reduceEqDiff, reduceCtorEq, ↓reduceIte, e0, f0, e12, f12]
    refine callO.pc pc9 ?_
    refine vms0 ?_
    refine endK.retA ?_; simp [evRes, getT, retV, Try.f7]
   ·have h3 := q2 (fun h => h.2 rfl)
    rw [wantR] at h3
    subst h3
    rcases hC with ⟨_, _, h⟩ | ⟨rfl, rfl, h⟩
    ·cases h
    cases h
    have h12 := pc12 xb xb (by omega)
    rw [decide_eq_true rfl, slH] at h12
    refine callO.pc pA ?_
    simp (maxSteps := 2000000) -implicitDefEqProofs +contextual (disch := first | assumption | omega | decide +kernel) only [push_cast, ↓capI, seval, Nat.reduceLeDiff, Nat.reduceEqDiff, reduceCtorEq, ↓reduceIte, e0, e12]
    refine callO.pc pB ?_
    simp (maxSteps := 2000000) -implicitDefEqProofs +contextual (disch := first | assumption | omega | decide +kernel) only [push_cast, ↓capI, seval, Nat.reduceLeDiff, Nat.reduceEqDiff, reduceCtorEq, ↓reduceIte, e0, e12]
    refine callO.pc pC ?_
    simp (maxSteps := 2000000) -implicitDefEqProofs +contextual (disch := first | assumption | omega | decide +kernel) only [push_cast, ↓capI, seval, Nat.reduceLeDiff, Nat.reduceEqDiff, reduceCtorEq, ↓reduceIte, e0, e12]
    refine callO.pc h12 ?_
    refine vms0 ?_
    refine callO.pc pc9 ?_
    refine vms0 ?_
    refine endK.retA ?_; simp [evRes, getT, retV, Try.f7]
  ·rcases hB with ⟨rfl, f0, rfl⟩ | ⟨rfl, rfl, rfl⟩
   ·have h3 := q2 (fun h => h.1 rfl)
    rw [wantR] at h3
    subst h3
    rcases hC with ⟨_, _, h⟩ | ⟨rfl, rfl, h⟩
    ·cases h
    cases h
    have h12 := pc12 xa xa (by omega)
    rw [decide_eq_true rfl, slH] at h12
    refine callO.pc pA ?_
    simp (maxSteps := 2000000) -implicitDefEqProofs +contextual (disch := first | assumption | omega | decide +kernel) only [push_cast, ↓capI, seval, Nat.reduceLeDiff, Nat.reduceEqDiff, reduceCtorEq, ↓reduceIte, f0, f12]
    refine callO.pc pB ?_
    simp (maxSteps := 2000000) -implicitDefEqProofs +contextual (disch := first | assumption | omega | decide +kernel) only [push_cast, ↓capI, seval, Nat.reduceLeDiff, Nat.reduceEqDiff, reduceCtorEq, ↓reduceIte, f0, f12]
    refine callO.pc pC ?_
    simp (maxSteps := 2000000) -implicitDefEqProofs +contextual (disch := first | assumption | omega | decide +kernel) only [push_cast, ↓capI, seval, Nat.reduceLeDiff, Nat.reduceEqDiff, reduceCtorEq, ↓reduceIte, f0, f12]
    refine callO.pc h12 ?_
    refine vms0 ?_
    refine callO.pc pc9 ?_
    refine vms0 ?_
    refine endK.retA ?_; simp [evRes, getT, retV, Try.f7]
   ·have h3 := q2 (fun h => h.1 rfl)
    rw [wantR] at h3
    have h23 := pc23 xb xa (by omega) (by omega)
    rw [slH, slH] at h23
    cases hb : btr xb xa with
    | true =>
     rw [hb, if_pos rfl] at h3
     rw [hb] at h23
     subst h3
     rcases hC with ⟨_, _, h⟩ | ⟨rfl, rfl, h⟩
     ·cases h
     cases h
     have h12 := pc12 xb xb (by omega)
     rw [decide_eq_true rfl, slH] at h12
     refine callO.pc pA ?_
     refine vms0 ?_
     refine callO.pc pB ?_
     refine vms0 ?_
     refine callO.pc pC ?_
     refine vms0 ?_
     refine callO.pc h23 ?_
     refine vms0 ?_
     refine callO.pc h12 ?_
     refine vms0 ?_
     refine callO.pc pc9 ?_
     refine vms0 ?_
     refine endK.retA ?_; simp [evRes, getT, retV, Try.f7]
    | false =>
     rw [hb, if_neg (by decide)] at h3
     rw [hb] at h23
     subst h3
     rcases hC with ⟨_, _, h⟩ | ⟨rfl, rfl, h⟩
     ·cases h
     cases h
     have h12 := pc12 xa xa (by omega)
     rw [decide_eq_true rfl, slH] at h12
     refine callO.pc pA ?_
     refine vms0 ?_
     refine callO.pc pB ?_
     refine vms0 ?_
     refine callO.pc pC ?_
     refine vms0 ?_
     refine callO.pc h23 ?_
     refine vms0 ?_
     refine callO.pc h12 ?_
     refine vms0 ?_
     refine callO.pc pc9 ?_
     refine vms0 ?_
     refine endK.retA ?_; simp [evRes, getT, retV, Try.f7]
theorem law7 (xs : List V) (h : TypA tt 8 [26, 29, 27] xs) : PC Try.prog 7 xs (.bool true) := by
 obtain ⟨v1, vs, cs, rfl, rfl, h1, h⟩ := typA_cons h
 obtain ⟨v2, vs, cs2, rfl, rfl, h2, h⟩ := typA_cons h
 obtain ⟨v3, vs, cs3, rfl, rfl, h3, h⟩ := typA_cons h
 obtain rfl := typA_nil h
 obtain ⟨a, ha⟩ := typ_T (m := 3) h1
 obtain ⟨x, hx⟩ := typ_Q (m := 4) h2
 obtain ⟨r, hr⟩ := typ_slN (m := 5) h3
 refine PC.lax ?_
 rw [laxs, laxs, laxs, laxs, ha, hx, hr]
 exact pc7 a x r
end Go.Proofs.Yticeakkgoafiaaa


/-
  Joined by a program from the texts Prt Fol Adv Sbs Glu.
-/
import Derived.Test.YticeakkgoafiaaaMd
import Derived.Test.YticeakkgoafiaaaMb
import Derived.Test.YticeakkgoafiaaaMg
/- Chapter 42: words of 32 bits; the reference's part. -/
set_option maxRecDepth 100000
set_option maxHeartbeats 4000000
set_option linter.all false
namespace Go.Proofs.Yticeakkgoafiaaa
open Go.Vm
abbrev W32 := BitVec 32
theorem u32_wrap (n : Int) : IntKind.u32.wrap n = ((BitVec.ofInt 32 n).toNat : Int) := by
 simp only [IntKind.wrap, BitVec.toNat_ofInt]
 simp [IntKind.signed, IntKind.bits]
 omega
theorem u32_nat {k : Nat} (h : k < 2 ^ 32) : IntKind.u32.wrap (k : Int) = k := by
 rw [u32_wrap, BitVec.ofInt_natCast, BitVec.toNat_ofNat, Nat.mod_eq_of_lt h]
theorem of32 {x : W32} : BitVec.ofInt 32 (x.toNat : Int) = x := by
 rw [BitVec.ofInt_natCast, BitVec.ofNat_toNat, BitVec.setWidth_eq]
theorem or32 {x y : W32} : ibits .or .u32 (x.toNat : Int) (y.toNat : Int) = ((x ||| y).toNat : Int) := by
 simp only [ibits]
 refine (u32_nat (BitVec.isLt (BitVec.ofInt 32 (x.toNat : Int) ||| BitVec.ofInt 32 (y.toNat : Int)))).trans ?_
 rw [of32, of32]
theorem and32 {x : W32} : ibits .and .u32 (x.toNat : Int) 1 = ((x &&& 1#32).toNat : Int) := by
 simp only [ibits]
 refine (u32_nat (BitVec.isLt (BitVec.ofInt 32 (x.toNat : Int) &&& BitVec.ofInt 32 1))).trans ?_
 rw [of32]
 rfl
theorem shl32 {k : Nat} : ishl .u32 1 (k : Int) = ((1#32 <<< k).toNat : Int) := by
 simp only [ishl, Int.toNat_natCast]
 rw [u32_wrap]
 congr 1
 have hb : IntKind.u32.bits = 32 := rfl
 rw [hb, show ((1 : Int) * 2 ^ min k 32) = ((1 * 2 ^ min k 32 : Nat) : Int) by push_cast; rfl, BitVec.ofInt_natCast, BitVec.toNat_ofNat, BitVec.toNat_shiftLeft, Nat.shiftLeft_eq]
 by_cases h : k ≤ 32
 ·rw [Nat.min_eq_left h]; rfl
 ·rw [Nat.min_eq_right (by omega)]
  have e : (2 : Nat) ^ k = 2 ^ 32 * 2 ^ (k - 32) := by rw [← Nat.pow_add]; congr 1; omega
  rw [e]
  simp [Nat.mul_mod_right]
theorem shr32 {x : W32} {k : Nat} : ishr .u32 (x.toNat : Int) (k : Int) = ((x >>> k).toNat : Int) := by
 simp only [ishr, Int.toNat_natCast]
 have hb : IntKind.u32.bits = 32 := rfl
 rw [hb, show ((2 : Int) ^ min k 32) = ((2 ^ min k 32 : Nat) : Int) by push_cast; rfl, BitVec.toNat_ushiftRight, Nat.shiftRight_eq_div_pow]
 rw [Int.fdiv_eq_ediv_of_nonneg _ (Int.natCast_nonneg _), ← Int.natCast_ediv]
 congr 1
 by_cases h : k ≤ 32
 ·rw [Nat.min_eq_left h]
 ·rw [Nat.min_eq_right (by omega)]
  have hx := x.isLt
  rw [Nat.div_eq_of_lt hx, Nat.div_eq_of_lt]
  exact Nat.lt_of_lt_of_le hx (Nat.pow_le_pow_right (by omega) (by omega))
theorem bit32 {x : W32} {i : Nat} : (((x >>> i &&& 1#32).toNat : Int) == 1) = x.getLsbD i := by
 have h : (x >>> i &&& 1#32) = if x.getLsbD i then 1#32 else 0#32 := by
  refine BitVec.eq_of_getLsbD_eq fun j hj => ?_
  rw [BitVec.getLsbD_and, BitVec.getLsbD_ushiftRight]
  by_cases h0 : j = 0
  ·subst h0; cases h : x.getLsbD i <;> simp [h]
  ·cases h : x.getLsbD i <;> simp [BitVec.getLsbD_one, h0]
 rw [h]
 cases x.getLsbD i <;> rfl
structure Pt where
 emp : Bool
 fst : W32
 lst : W32
 to : Nat
def encPt (x : Pt) : List V := [.bool x.emp, .int .u32 x.fst.toNat, .int .u32 x.lst.toNat, .int .i64 (x.to : Int)]
@[simp] theorem bel_Pt {n : Nat} (x : Pt) : belAll n (encPt x) = true := rfl
theorem len_Pt (x : Pt) : (encPt x).length = 4 := rfl
def ptP : Nat → Pr → Pt
 | a, .leaf x => if x.op = 1 then ⟨true, 0#32, 0#32, a + 1⟩ else ⟨false, 1#32 <<< a, 1#32 <<< a, a + 1⟩
 | a, .un _ p => ⟨true, (ptP (a + 1) p).fst, (ptP (a + 1) p).lst, (ptP (a + 1) p).to⟩
 | a, .bin x p q =>
  if x.op = 5 then ⟨(ptP (a + 1) p).emp || (ptP (ptP (a + 1) p).to q).emp, (ptP (a + 1) p).fst ||| (ptP (ptP (a + 1) p).to q).fst, (ptP (a + 1) p).lst ||| (ptP (ptP (a + 1) p).to q).lst, (ptP (ptP (a + 1) p).to q).to⟩
  else ⟨(ptP (a + 1) p).emp && (ptP (ptP (a + 1) p).to q).emp, if (ptP (a + 1) p).emp = true then (ptP (a + 1) p).fst ||| (ptP (ptP (a + 1) p).to q).fst else (ptP (a + 1) p).fst,
   if (ptP (ptP (a + 1) p).to q).emp = true then (ptP (a + 1) p).lst ||| (ptP (ptP (a + 1) p).to q).lst else (ptP (ptP (a + 1) p).to q).lst, (ptP (ptP (a + 1) p).to q).to⟩
theorem ptP_to : ∀ (p : Pr) (a : Nat), (ptP a p).to = a + (flat p).length
 | .leaf x, a => by rw [ptP]; split <;> rfl
 | .un _ p, a => by rw [ptP]; simp only [ptP_to p, flat, List.length_cons]; omega
 | .bin x p q, a => by
  rw [ptP]
  split <;> simp only [ptP_to q, ptP_to p, flat, List.length_cons, List.length_append] <;> omega
theorem getN0 {l : List Nd} {i : Nat} (h : i < l.length) : getV (l.flatMap encN) (i * 2) 1 = [.int .i64 l[i].op] := by
 have := get_flat_part (enc := encN) lenN l i h 1 (by decide)
 rw [getV, List.drop_zero] at this
 rw [getV]
 exact this
attribute [local push_cast] fmN fm0 take_N toN1 slN_nil encN slN cfg0 gfp_lenN gfd_lenN lfl_lenN getN0 w_nat shl32 shr32 or32 and32 encPt
theorem pc71 (sw : Int) (r : List Nd) (hr : r.length ≤ 24) : ∀ (p : Pr) (a : Nat) (s : List Nd), okP sw p → r.drop a = flat p ++ s → PC Try.prog 71 [slN r, .int .i64 (a : Int)] (.agg (encPt (ptP a p))) := by
 intro p
 induction p with
 | leaf x =>
  intro a s hp hd
  obtain ⟨ha, hx, _⟩ := drop_cons hd
  have hlen := len_flat lenN r
  have q1 := len_flat_at lenN r a 2 ha (by decide)
  rcases hp.1 with h | h | h
  ·rw [ptP, if_pos h]
   refine PC.walk tok mixed cfg0 Try.func71 rfl Try.call71 (by simp) (by first | rfl | simp) ?_; refine vms1 Try.ntmps71 ?_
   refine vms3 ha hx h ?_
   refine endK.retA ?_; simp [evRes, getT, retV, Try.f71,  encPt, tt_146, Res.then, ldT, ldR, getO, mkV, getV, imp, lenOK_iff]
  ·rw [ptP, if_neg (by omega)]
   refine PC.walk tok mixed cfg0 Try.func71 rfl Try.call71 (by simp) (by first | rfl | simp) ?_; refine vms1 Try.ntmps71 ?_
   refine vms3 ha hx h ?_
   refine endK.retA ?_; simp [evRes, getT, retV, Try.f71,  encPt, tt_146, Res.then, ldT, ldR, getO, mkV, getV, imp, lenOK_iff]
  ·rw [ptP, if_neg (by omega)]
   refine PC.walk tok mixed cfg0 Try.func71 rfl Try.call71 (by simp) (by first | rfl | simp) ?_; refine vms1 Try.ntmps71 ?_
   refine vms3 ha hx h ?_
   refine endK.retA ?_; simp [evRes, getT, retV, Try.f71,  encPt, tt_146, Res.then, ldT, ldR, getO, mkV, getV, imp, lenOK_iff]
 | un x p ih =>
  intro a s hp hd
  obtain ⟨ha, hx, hd2⟩ := drop_cons (show r.drop a = x :: (flat p ++ s) from hd)
  have hlen := len_flat lenN r
  have q1 := len_flat_at lenN r a 2 ha (by decide)
  have i1 := ih (a + 1) s hp.2 hd2
  have h := hp.1
  rw [ptP]
  generalize ptP (a + 1) p = u at i1 ⊢
  obtain ⟨e1, f1, l1, t1⟩ := u
  refine PC.walk tok mixed cfg0 Try.func71 rfl Try.call71 (by simp) (by first | rfl | simp) ?_; refine vms1 Try.ntmps71 ?_
  refine vms3 ha hx h ?_
  refine callO.pc i1 ?_
  refine vms3 ha hx h ?_
  refine endK.retA ?_; simp [evRes, getT, retV, Try.f71,  encPt, tt_146, Res.then, ldT, ldR, getO, mkV, getV, imp, lenOK_iff]
 | bin x p q ih1 ih2 =>
  intro a s hp hd
  obtain ⟨ha, hx, hd2⟩ := drop_cons (show r.drop a = x :: (flat p ++ flat q ++ s) from hd)
  have hlen := len_flat lenN r
  have q1 := len_flat_at lenN r a 2 ha (by decide)
  rw [List.append_assoc] at hd2
  have i1 := ih1 (a + 1) (flat q ++ s) hp.2.1 hd2
  have hd3 := drop_app hd2
  have hto := ptP_to p (a + 1)
  rw [← hto] at hd3
  have i2 := ih2 _ s hp.2.2 hd3
  have ht2 := drop_len (by have := ptP_to p (a + 1); have := drop_len ha hd2; omega) hd3
  rw [ptP]
  generalize ptP (a + 1) p = u at i1 i2 hto ht2 ⊢
  obtain ⟨e1, f1, l1, t1⟩ := u
  simp only at i1 i2 hto ht2 ⊢
  generalize ptP t1 q = v at i2 ⊢
  obtain ⟨e2, f2, l2, t2⟩ := v
  simp only at i2 ⊢
  rcases hp.1 with h | h
  ·rw [if_neg (by omega)]
   cases e1 <;> cases e2
   all_goals
    refine PC.walk tok mixed cfg0 Try.func71 rfl Try.call71 (by simp) (by first | rfl | simp) ?_; refine vms1 Try.ntmps71 ?_
    refine vms3 ha hx h ?_
    refine callO.pc i1 ?_
    refine vms3 ha hx h ?_
    refine callO.pc i2 ?_
    refine vms3 ha hx h ?_
    refine endK.retA ?_; simp [evRes, getT, retV, Try.f71,  encPt, tt_146, Res.then, ldT, ldR, getO, mkV, getV, imp, lenOK_iff]
  ·rw [if_pos h]
   cases e1 <;> cases e2
   all_goals
    refine PC.walk tok mixed cfg0 Try.func71 rfl Try.call71 (by simp) (by first | rfl | simp) ?_; refine vms1 Try.ntmps71 ?_
    refine vms3 ha hx h ?_
    refine callO.pc i1 ?_
    refine vms3 ha hx h ?_
    refine callO.pc i2 ?_
    refine vms3 ha hx h ?_
    refine endK.retA ?_; simp [evRes, getT, retV, Try.f71,  encPt, tt_146, Res.then, ldT, ldR, getO, mkV, getV, imp, lenOK_iff]
end Go.Proofs.Yticeakkgoafiaaa

/- Chapter 42: the reference's follow, advance and find. -/
set_option maxRecDepth 100000
set_option maxHeartbeats 4000000
set_option linter.all false
namespace Go.Proofs.Yticeakkgoafiaaa
open Go.Vm
def orL (l : List W32) : W32 := l.foldl (· ||| ·) 0#32
def ownF (a : Nat) (p : Pr) (leaf : Nat) : W32 :=
 match p with
 | .leaf _ => 0#32
 | .un _ p => if (ptP (a + 1) p).lst.getLsbD leaf = true then (ptP (a + 1) p).fst else 0#32
 | .bin x p q => if x.op = 4 then (if (ptP (a + 1) p).lst.getLsbD leaf = true then (ptP (ptP (a + 1) p).to q).fst else 0#32) else 0#32
def conL : Nat → Pr → Nat → List W32
 | a, .leaf x, l => [ownF a (.leaf x) l]
 | a, .un x p, l => ownF a (.un x p) l :: conL (a + 1) p l
 | a, .bin x p q, l => ownF a (.bin x p q) l :: (conL (a + 1) p l ++ conL (ptP (a + 1) p).to q l)
theorem conL_len : ∀ (p : Pr) (a l : Nat), (conL a p l).length = (flat p).length
 | .leaf _, _, _ => rfl
 | .un _ p, a, l => by rw [conL, flat, List.length_cons, List.length_cons, conL_len p]
 | .bin _ p q, a, l => by rw [conL, flat, List.length_cons, List.length_cons, List.length_append, List.length_append, conL_len p, conL_len q]
theorem con_at (sw : Int) (l : Nat) : ∀ (p : Pr) (a i : Nat), okP sw p → i < (flat p).length → ∃ (p' : Pr) (s : List Nd), okP sw p' ∧ (flat p).drop i = flat p' ++ s ∧ (conL a p l)[i]? = some (ownF (a + i) p' l)
 | .leaf x, a, i, hp, hi => by
  have : i = 0 := by simp [flat] at hi; omega
  subst this
  exact ⟨.leaf x, [], hp, rfl, rfl⟩
 | .un x p, a, i, hp, hi => by
  cases i with
  | zero => exact ⟨.un x p, [], hp, by simp, rfl⟩
  | succ i =>
   obtain ⟨p', s, h1, h2, h3⟩ := con_at sw l p (a + 1) i hp.2 (by simpa [flat] using hi)
   exact ⟨p', s, h1, h2, by rw [conL, List.getElem?_cons_succ, h3, show a + 1 + i = a + (i + 1) from by omega]⟩
 | .bin x p q, a, i, hp, hi => by
  cases i with
  | zero => exact ⟨.bin x p q, [], hp, by simp, rfl⟩
  | succ i =>
   simp only [flat, List.length_cons, List.length_append] at hi
   by_cases hip : i < (flat p).length
   ·obtain ⟨p', s, h1, h2, h3⟩ := con_at sw l p (a + 1) i hp.2.1 hip
    refine ⟨p', s ++ flat q, h1, ?_, ?_⟩
    ·rw [flat, List.drop_succ_cons, List.drop_append_of_le_length (by omega), h2, List.append_assoc]
    ·rw [conL, List.getElem?_cons_succ, List.getElem?_append_left (by rw [conL_len]; exact hip), h3, show a + 1 + i = a + (i + 1) from by omega]
   ·obtain ⟨p', s, h1, h2, h3⟩ := con_at sw l q (ptP (a + 1) p).to (i - (flat p).length) hp.2.2 (by omega)
    refine ⟨p', s, h1, ?_, ?_⟩
    ·rw [flat, List.drop_succ_cons, List.drop_append, List.drop_of_length_le (by omega), List.nil_append]
     exact h2
    ·rw [conL, List.getElem?_cons_succ, List.getElem?_append_right (by rw [conL_len]; omega), conL_len, h3, ptP_to, show a + 1 + (flat p).length + (i - (flat p).length) = a + (i + 1) from by omega]
theorem orL_app {l : List W32} {x : W32} : orL (l ++ [x]) = orL l ||| x := by
 simp [orL]
theorem orL0 {l : List W32} : ((orL (l.take 0)).toNat : Int) = 0 := rfl
theorem orL1 : ((orL []).toNat : Int) = 0 := rfl
theorem orL_take {l : List W32} {i : Nat} {x : W32} (h : l[i]? = some x) : orL (l.take (i + 1)) = orL (l.take i) ||| x := by
 obtain ⟨hi, e⟩ := List.getElem?_eq_some_iff.1 h
 rw [List.take_succ_eq_append_getElem hi, e, orL_app]
attribute [local push_cast] fmN fm0 take_N toN1 slN_nil encN slN cfg0 gfp_lenN gfd_lenN lfl_lenN getN0 w_nat shl32 shr32 or32 and32 encPt bit32
theorem pc72 {sw : Int} {p : Pr} (hp : okP sw p) (h24 : (flat p).length ≤ 24) {leaf : Nat} (hl : leaf ≤ 24) : PC Try.prog 72 [slN (flat p), .int .i64 (leaf : Int)] (.int .u32 (orL (conL 0 p leaf)).toNat) := by
 have h44 := fun p' a s => pc71 sw (flat p) h24 p' a s
 have hat := con_at sw leaf p 0
 have hcl := conL_len p 0 leaf
 have h0 : (0 : Int) = ((0#32).toNat : Int) := rfl
 generalize hr : flat p = r at h44 hat hcl h24
 have hlen := len_flat lenN r
 generalize conL 0 p leaf = C at hat hcl
 refine PC.walk tok mixed cfg0 Try.func72 rfl Try.call72 (by simp) (by first | rfl | simp) ?_; refine vms1 Try.ntmps72 ?_
 refine T.lp tok mixed cfg0 (fun ((i : Nat)) => kp 2 (dd 3 (sv (.int .u32 (orL (C.take i)).toNat) (sv (.int .i64 (i : Int)) (dd 50 (nl)))))) (fun H0 ((i : Nat)) => H0) (fun ((i : Nat)) => i ≤ r.length) (fun ((i : Nat)) => r.length - i) (0) ?_ ?_ ?_
 ·exact Nat.zero_le _
 ·exact Gn.canon (J := _) (by first | rfl | (simp [List.append_nil, encPt]; done) | (simp [List.append_nil, encPt]; rfl)) (by simp [wk, slN, encPt, orL1, putT, kp, dd, sv, nl]) (by simp [List.length_append]) (by simp [kp, dd, sv, nl]) (by simp)
 ·intro i hi
  have hi0 : i ≤ r.length := hi
  by_cases hlt : i < r.length
  ·obtain ⟨p', s, hp', hd, hc⟩ := hat i hp hlt
   have hor := orL_take hc
   rw [Nat.zero_add] at hor
   have q1 := len_flat_at lenN r i 2 hlt (by decide)
   cases p' with
   | leaf x =>
    obtain ⟨_, hx, _⟩ := drop_cons hd
    have h4 : ¬ x.op = 4 := by have := hp'.1; omega
    have h6 : ¬ x.op = 6 := by have := hp'.1; omega
    rw [ownF, BitVec.or_zero] at hor
    refine vms4 hlt hx h4 h6 ?_
    refine ⟨(i + 1), by omega, by (try simp only); omega, ?_⟩; exact Gn.canon (by first | rfl | (simp [List.append_nil, encPt, hor]; rfl)) (by simp [wk, slN, encPt, orL1, hor]) (by simp [List.length_append]) (by simp) (by simp)
   | un x p1 =>
    obtain ⟨_, hx, hd2⟩ := drop_cons (show r.drop i = x :: (flat p1 ++ s) from hd)
    have h6 := hp'.1
    have i1 := h44 p1 (i + 1) s hp'.2 hd2
    rw [ownF] at hor
    generalize ptP (i + 1) p1 = u at i1 hor
    obtain ⟨e1, f1, l1, t1⟩ := u
    simp only at hor
    refine vms3 hlt hx h6 ?_
    refine callO.pc i1 ?_
    cases hb : l1.getLsbD leaf with
    | true =>
     rw [hb, if_pos rfl] at hor
     refine vms4 hlt hx h6 hb ?_
     refine ⟨(i + 1), by omega, by (try simp only); omega, ?_⟩; exact Gn.canon (by first | rfl | (simp [List.append_nil, encPt, hor]; rfl)) (by simp [wk, slN, encPt, orL1, hor]) (by simp [List.length_append]) (by simp) (by simp)
    | false =>
     rw [hb, if_neg (by decide), BitVec.or_zero] at hor
     refine vms4 hlt hx h6 hb ?_
     refine ⟨(i + 1), by omega, by (try simp only); omega, ?_⟩; exact Gn.canon (by first | rfl | (simp [List.append_nil, encPt, hor]; rfl)) (by simp [wk, slN, encPt, orL1, hor]) (by simp [List.length_append]) (by simp) (by simp)
   | bin x p1 p2 =>
    obtain ⟨ha, hx, hd2⟩ := drop_cons (show r.drop i = x :: (flat p1 ++ flat p2 ++ s) from hd)
    rw [ownF] at hor
    rcases hp'.1 with h | h
    ·rw [List.append_assoc] at hd2
     have i1 := h44 p1 (i + 1) (flat p2 ++ s) hp'.2.1 hd2
     have hd3 := drop_app hd2
     have hto := ptP_to p1 (i + 1)
     rw [← hto] at hd3
     have i2 := h44 p2 _ s hp'.2.2 hd3
     rw [if_pos h] at hor
     generalize ptP (i + 1) p1 = u at i1 i2 hor
     obtain ⟨e1, f1, l1, t1⟩ := u
     simp only at i2 hor
     generalize ptP t1 p2 = v at i2 hor
     obtain ⟨e2, f2, l2, t2⟩ := v
     simp only at hor
     refine vms3 hlt hx h ?_
     refine callO.pc i1 ?_
     refine vms3 hlt hx h ?_
     refine callO.pc i2 ?_
     cases hb : l1.getLsbD leaf with
     | true =>
      rw [hb, if_pos rfl] at hor
      refine vms4 hlt hx h hb ?_
      refine ⟨(i + 1), by omega, by (try simp only); omega, ?_⟩; exact Gn.canon (by first | rfl | (simp [List.append_nil, encPt, hor]; rfl)) (by simp [wk, slN, encPt, orL1, hor]) (by simp [List.length_append]) (by simp) (by simp)
     | false =>
      rw [hb, if_neg (by decide), BitVec.or_zero] at hor
      refine vms4 hlt hx h hb ?_
      refine ⟨(i + 1), by omega, by (try simp only); omega, ?_⟩; exact Gn.canon (by first | rfl | (simp [List.append_nil, encPt, hor]; rfl)) (by simp [wk, slN, encPt, orL1, hor]) (by simp [List.length_append]) (by simp) (by simp)
    ·have h4 : ¬ x.op = 4 := by omega
     have h6 : ¬ x.op = 6 := by omega
     rw [if_neg h4, BitVec.or_zero] at hor
     refine vms4 hlt hx h4 h6 ?_
     refine ⟨(i + 1), by omega, by (try simp only); omega, ?_⟩; exact Gn.canon (by first | rfl | (simp [List.append_nil, encPt, hor]; rfl)) (by simp [wk, slN, encPt, orL1, hor]) (by simp [List.length_append]) (by simp) (by simp)
  ·have : C.take i = C := List.take_of_length_le (by omega)
   simp (maxSteps := 2000000) -implicitDefEqProofs +contextual (disch := first | assumption | omega | decide +kernel) only [push_cast, ↓capI, seval, Nat.reduceLeDiff, Nat.reduceEqDiff, reduceCtorEq, ↓reduceIte, hlt, this]
   refine endK.retA ?_; simp [evRes, getT, retV, Try.f72]
end Go.Proofs.Yticeakkgoafiaaa

/- Chapter 42: the reference's advance and find. -/
set_option maxRecDepth 100000
set_option maxHeartbeats 4000000
set_option linter.all false
namespace Go.Proofs.Yticeakkgoafiaaa
open Go.Vm
structure Gs where
 nx : W32
 ac : Bool
 deriving DecidableEq
def encGs (x : Gs) : List V := [.int .u32 x.nx.toNat, .bool x.ac]
@[simp] theorem bel_Gs {n : Nat} (x : Gs) : belAll n (encGs x) = true := rfl
theorem len_Gs (x : Gs) : (encGs x).length = 2 := rfl
def slW (l : List W32) : V := .sl false (l.map fun x => .int .u32 x.toNat) l.length
@[simp] theorem bel_Ws {n : Nat} (l : List W32) : belAll n (l.map fun x => V.int .u32 x.toNat) = true := belAll_map (fun _ => rfl) l
@[simp] theorem bel_slW {n : Nat} (l : List W32) : (slW l).bel n = true := by rw [slW, bel_sl]; exact bel_Ws l
def slG (l : List Gs) : V := .sl false (l.flatMap encGs) l.length
@[simp] theorem bel_Gss {n : Nat} (l : List Gs) : belAll n (l.flatMap encGs) = true := belAll_flat bel_Gs l
@[simp] theorem bel_slG {n : Nat} (l : List Gs) : (slG l).bel n = true := by rw [slG, bel_sl]; exact bel_Gss l
def mtc (x : Nd) (sw : Int) : Bool := decide (x.op = 2) || decide (x.n = sw)
def advI (r : List Nd) (fl : List W32) (last : W32) (s : Gs) (sw : Int) (i : Nat) (o : Gs × Bool) : Gs × Bool :=
 if (s.nx.getLsbD i && mtc (r.getD i ⟨0, 0⟩) sw) = true then (⟨o.1.nx ||| fl.getD i 0#32, o.1.ac || last.getLsbD i⟩, true) else o
def advN (r : List Nd) (fl : List W32) (last : W32) (s : Gs) (sw : Int) : Nat → Gs × Bool
 | 0 => (⟨0#32, false⟩, false)
 | n + 1 => advI r fl last s sw n (advN r fl last s sw n)
def advS (r : List Nd) (fl : List W32) (last : W32) (s : Gs) (sw : Int) : Gs × Bool := advN r fl last s sw r.length
attribute [local push_cast] fmN fm0 take_N toN1 slN_nil encN slN cfg0 gfp_lenN gfd_lenN lfl_lenN w_nat shl32 shr32 or32 and32 encGs bit32 slW getV_map getV_mapO List.length_map Nat.mul_one
theorem pc73 {r : List Nd} (hr : r.length ≤ 24) {fl : List W32} (hf : fl.length = r.length) (last : W32) (s : Gs) (sw : Int) :
  PC Try.prog 73 [slN r, slW fl, .int .u32 last.toNat, .agg (encGs s), .int .i64 sw] (.tup [.agg (encGs (advS r fl last s sw).1), .bool (advS r fl last s sw).2]) := by
 obtain ⟨nx, ac⟩ := s
 have hlen := len_flat lenN r
 rw [advS]
 obtain ⟨zz, hzz⟩ : ∃ zz : Gs × Bool, zz = advN r fl last ⟨nx, ac⟩ sw 0 := ⟨_, rfl⟩
 refine PC.walk tok mixed cfg0 Try.func73 rfl Try.call73 (by simp) (by first | rfl | simp) ?_; refine vms1 Try.ntmps73 ?_
 refine T.lp tok mixed cfg0 (fun ((i : Nat)) => kp 3 (dd 1 (kp 1 (dd 3 (kp 1 (dd 1 (kp 1 (dd 1 (kp 1 (sv (.bool (advN r fl last ⟨nx, ac⟩ sw i).2) (sv (.int .i64 (i : Int)) (dd 52 (nl))))))))))))) (fun H0 ((i : Nat)) => [.cells 0 [.int .u32 nx.toNat, .bool ac], .cells 0 [.int .u32 0, .bool false], .cells 0 (encGs (advN r fl last ⟨nx, ac⟩ sw i).1)]) (fun ((i : Nat)) => i ≤ r.length) (fun ((i : Nat)) => r.length - i) (0) ?_ ?_ ?_
 ·exact Nat.zero_le _
 ·exact Gn.canon (J := []) (by simp [List.append_nil, encGs, advN]) (by simp [wk, slN, encGs, slW, putT, kp, dd, sv, nl, advN]) (by simp [List.length_append]) (by simp [kp, dd, sv, nl]) (by simp)
 ·intro i hi
  have hi0 : i ≤ r.length := hi
  have hnx : advN r fl last ⟨nx, ac⟩ sw (i + 1) = advI r fl last ⟨nx, ac⟩ sw i (advN r fl last ⟨nx, ac⟩ sw i) := rfl
  have hlast : i = r.length → advN r fl last ⟨nx, ac⟩ sw r.length = advN r fl last ⟨nx, ac⟩ sw i := fun e => by rw [e]
  generalize hA : advN r fl last ⟨nx, ac⟩ sw i = o at hnx hlast
  simp only [hA]
  obtain ⟨⟨on, oa⟩, os⟩ := o
  by_cases hlt : i < r.length
  ·have hif : i < fl.length := by omega
   have hgr : r.getD i ⟨0, 0⟩ = r[i] := by rw [List.getD_eq_getElem?_getD, List.getElem?_eq_getElem hlt]; rfl
   have hgf : fl.getD i 0#32 = fl[i] := by rw [List.getD_eq_getElem?_getD, List.getElem?_eq_getElem hif]; rfl
   have q1 := len_flat_at lenN r i 2 hlt (by decide)
   have q2 := len_flat_at2 lenN r i 1 1 hlt (by decide)
   rw [advI, hgr, hgf] at hnx
   simp only at hnx
   generalize hx : r[i] = x at hnx
   obtain ⟨op, n⟩ := x
   cases hb : nx.getLsbD i with
   | false =>
    rw [hb, Bool.false_and, if_neg (by decide)] at hnx
    refine vms2 hlt hb ?_
    refine ⟨(i + 1), by omega, by (try simp only); omega, ?_⟩; exact Gn.canon (by first | rfl | (simp [List.append_nil, encGs, hnx]; rfl)) (by simp [wk, slN, encGs, slW, hnx]) (by simp [List.length_append]) (by simp) (by simp)
   | true =>
    rw [hb, Bool.true_and, mtc] at hnx
    simp only at hnx
    by_cases h2 : op = 2
    ·rw [decide_eq_true h2, Bool.true_or, if_pos rfl] at hnx
     cases hac : oa with
     | true =>
      rw [hac, Bool.true_or] at hnx
      refine vms5 hlt hb hx h2 hif ?_
      refine ⟨(i + 1), by omega, by (try simp only); omega, ?_⟩; exact Gn.canon (by first | rfl | (simp [List.append_nil, encGs, hnx]; rfl)) (by simp [wk, slN, encGs, slW, hnx]) (by simp [List.length_append]) (by simp) (by simp)
     | false =>
      rw [hac, Bool.false_or] at hnx
      refine vms5 hlt hb hx h2 hif ?_
      refine ⟨(i + 1), by omega, by (try simp only); omega, ?_⟩; exact Gn.canon (by first | rfl | (simp [List.append_nil, encGs, hnx]; rfl)) (by simp [wk, slN, encGs, slW, hnx]) (by simp [List.length_append]) (by simp) (by simp)
    ·rw [decide_eq_false h2, Bool.false_or] at hnx
     by_cases hn : n = sw
     ·rw [decide_eq_true hn, if_pos rfl] at hnx
      cases hac : oa with
      | true =>
       rw [hac, Bool.true_or] at hnx
       refine vms6 hlt hb hx h2 hn hif ?_
       refine ⟨(i + 1), by omega, by (try simp only); omega, ?_⟩; exact Gn.canon (by first | rfl | (simp [List.append_nil, encGs, hnx]; rfl)) (by simp [wk, slN, encGs, slW, hnx]) (by simp [List.length_append]) (by simp) (by simp)
      | false =>
       rw [hac, Bool.false_or] at hnx
       refine vms6 hlt hb hx h2 hn hif ?_
       refine ⟨(i + 1), by omega, by (try simp only); omega, ?_⟩; exact Gn.canon (by first | rfl | (simp [List.append_nil, encGs, hnx]; rfl)) (by simp [wk, slN, encGs, slW, hnx]) (by simp [List.length_append]) (by simp) (by simp)
     ·rw [decide_eq_false hn, if_neg (by decide)] at hnx
      refine vms5 hlt hb hx h2 hn ?_
      refine ⟨(i + 1), by omega, by (try simp only); omega, ?_⟩; exact Gn.canon (by first | rfl | (simp [List.append_nil, encGs, hnx]; rfl)) (by simp [wk, slN, encGs, slW, hnx]) (by simp [List.length_append]) (by simp) (by simp)
  ·rw [hlast (by omega)]
   refine vms1 hlt ?_
   refine endK.retA ?_; simp [evRes, getT, retV, Try.f73,  encGs, tt_151, Res.then, ldT, ldR, getO, mkV, getV, imp, lenOK_iff]
def idxG (x : Gs) : List Gs → Option Nat
 | [] => none
 | y :: r => if x = y then some 0 else (idxG x r).map (· + 1)
def fndG (x : Gs) (l : List Gs) : Int := match idxG x l with | some k => (k : Int) | none => -1
theorem idxG_at {x : Gs} : ∀ {l : List Gs} {i : Nat} (hi : i < l.length), x ∉ l.take i → x = l[i] → idxG x l = some i
 | [], i, hi, _, _ => by simp at hi
 | y :: l, 0, hi, _, e => by rw [idxG, if_pos (by simpa using e)]
 | y :: l, i + 1, hi, hn, e => by
  simp only [List.take_succ_cons, List.mem_cons, not_or] at hn
  rw [idxG, if_neg hn.1, idxG_at (l := l) (by simpa using hi) hn.2 (by simpa using e)]
  rfl
theorem idxG_no {x : Gs} : ∀ {l : List Gs}, x ∉ l → idxG x l = none
 | [], _ => rfl
 | y :: l, h => by
  simp only [List.mem_cons, not_or] at h
  rw [idxG, if_neg h.1, idxG_no h.2]
  rfl
theorem pc74 {l : List Gs} (hl : l.length ≤ 2 ^ 30) (x : Gs) : PC Try.prog 74 [slG l, .agg (encGs x)] (.int .i64 (fndG x l)) := by
 obtain ⟨nx, ac⟩ := x
 have hlen := len_flat len_Gs l
 refine PC.walk tok mixed cfg0 Try.func74 rfl Try.call74 (by simp [bel_slG]) (by first | rfl | simp) ?_
 simp (maxSteps := 2000000) -implicitDefEqProofs +contextual (disch := first | assumption | omega | decide +kernel) only [push_cast, ↓capI, seval, Nat.reduceLeDiff, Nat.reduceEqDiff, reduceCtorEq, ↓reduceIte, Try.ntmps74, slG]
 refine T.lp tok mixed cfg0 (fun ((i : Nat)) => kp 1 (dd 2 (kp 1 (dd 1 (sv (.int .i64 (i : Int)) (dd 13 (nl))))))) (fun H0 ((i : Nat)) => H0) (fun ((i : Nat)) => i ≤ l.length ∧ (⟨nx, ac⟩ : Gs) ∉ l.take i) (fun ((i : Nat)) => l.length - i) (0) ?_ ?_ ?_
 ·exact ⟨Nat.zero_le _, by simp⟩
 ·exact Gn.canon (J := []) (by simp [List.append_nil, encGs]) (by simp [wk, slN, encGs, slW, putT, kp, dd, sv, nl, slG]) (by simp [List.length_append]) (by simp [bel_Gss, kp, dd, sv, nl]) (by simp [bel_Gss])
 ·intro i hi
  obtain ⟨hi, hn⟩ := hi
  by_cases hlt : i < l.length
  ·have hgv : getV ((l.flatMap encGs).drop (i * 2)) 0 2 = encGs l[i] := get_flat0 len_Gs l i hlt
   have q1 := len_flat_at len_Gs l i 2 hlt (by decide)
   by_cases he : (⟨nx, ac⟩ : Gs) = l[i]
   ·rw [fndG, idxG_at hlt hn he]
    generalize hy : l[i] = y at hgv he
    subst he
    refine vms2 hlt hgv ?_
    refine endK.retA ?_; simp [evRes, getT, retV, Try.f74]
   ·have hn2 : (⟨nx, ac⟩ : Gs) ∉ l.take (i + 1) := fun h => by
     rw [List.take_succ_eq_append_getElem hlt] at h
     rcases List.mem_append.1 h with h | h
     ·exact hn h
     ·rw [List.mem_singleton] at h; exact he h
    generalize hy : l[i] = y at hgv he
    obtain ⟨ny, ay⟩ := y
    have hbq : (((ny.toNat : Int) == (nx.toNat : Int)) && (ay == ac)) = false := by
     cases h : (((ny.toNat : Int) == (nx.toNat : Int)) && (ay == ac)) with
     | false => rfl
     | true =>
      exfalso
      rw [Bool.and_eq_true, beq_iff_eq, beq_iff_eq] at h
      have h1 : ny = nx := BitVec.eq_of_toNat_eq (by omega)
      exact he (by rw [h1, h.2])
    refine vms3 hlt hgv hbq ?_
    refine ⟨(i + 1), ⟨by omega, hn2⟩, by (try simp only); omega, ?_⟩; exact Gn.canon (by first | rfl | (simp [List.append_nil, encGs]; rfl)) (by simp [wk, slN, encGs, slW]) (by simp [List.length_append]) (by simp) (by simp)
  ·rw [List.take_of_length_le (by omega)] at hn
   rw [fndG, idxG_no hn]
   refine vms1 hlt ?_
   refine endK.retA ?_; simp [evRes, getT, retV, Try.f74]
end Go.Proofs.Yticeakkgoafiaaa

/- Chapter 42: a subset construction of any step (plain). -/
set_option maxRecDepth 100000
set_option maxHeartbeats 4000000
set_option linter.all false
namespace Go.Proofs.Yticeakkgoafiaaa
open Go.Vm
structure Gd where
 sets : List Gs
 rows : List (List Int)
 accs : List Bool
abbrev Stp := Gs → Int → Gs × Bool
def grI (st : Stp) (s : Gs) (j : Nat) (q : List Gs × List Int) : List Gs × List Int :=
 if (st s j).2 = false then (q.1, q.2 ++ [-1])
 else match idxG (st s j).1 q.1 with
  | some k => (q.1, q.2 ++ [(k : Int)])
  | none => (q.1 ++ [(st s j).1], q.2 ++ [(q.1.length : Int)])
def grN (st : Stp) (s : Gs) (sets : List Gs) : Nat → List Gs × List Int
 | 0 => (sets, [])
 | n + 1 => grI st s n (grN st s sets n)
def gdI (st : Stp) (m i : Nat) (d : Gd) : Gd :=
 match d.sets[i]? with
 | some s => ⟨(grN st s d.sets m).1, d.rows ++ [(grN st s d.sets m).2], d.accs ++ [s.ac]⟩
 | none => d
def gdN (st : Stp) (m : Nat) (s0 : Gs) : Nat → Gd
 | 0 => ⟨[s0], [], []⟩
 | i + 1 => gdI st m i (gdN st m s0 i)
def b24 (x : W32) : Prop := ∀ i, x.getLsbD i = true → i < 24
theorem idxG_some {x : Gs} : ∀ {l : List Gs} {k : Nat}, idxG x l = some k → l[k]? = some x
 | [], k, h => by simp [idxG] at h
 | y :: r, k, h => by
  simp only [idxG] at h
  split at h
  ·rename_i e; cases h; simp [e]
  ·rw [Option.map_eq_some_iff] at h
   obtain ⟨j, hj, rfl⟩ := h
   simpa using idxG_some hj
theorem idxG_none {x : Gs} : ∀ {l : List Gs}, idxG x l = none → x ∉ l
 | [], _ => by simp
 | y :: r, h => by
  simp only [idxG] at h
  split at h
  ·cases h
  ·rename_i e
   rw [Option.map_eq_none_iff] at h
   have := idxG_none h
   simp [e, this]
structure Gok (l : List Gs) : Prop where
 nodup : l.Nodup
 bits : ∀ x ∈ l, b24 x.nx
theorem b24_lt {x : W32} (h : b24 x) : x.toNat < 2 ^ 24 := by
 refine Nat.lt_pow_two_of_testBit _ fun i hi => ?_
 cases hb : x.toNat.testBit i
 ·rfl
 ·have := h i hb
  omega
theorem Gok.len {l : List Gs} (h : Gok l) : l.length ≤ 2 ^ 25 := by
 have h1 := nat_len (N := 2 ^ 25) (l := l.map fun x => x.nx.toNat * 2 + x.ac.toNat) (map_nodup (fun a b e => by
  have h1 : a.ac.toNat ≤ 1 := Bool.toNat_le a.ac
  have h2 : b.ac.toNat ≤ 1 := Bool.toNat_le b.ac
  obtain ⟨an, aa⟩ := a
  obtain ⟨bn, ba⟩ := b
  simp only at e h1 h2
  have e1 : an.toNat = bn.toNat := by omega
  have e2 : aa.toNat = ba.toNat := by omega
  rw [BitVec.eq_of_toNat_eq e1, show aa = ba from by cases aa <;> cases ba <;> first | rfl | cases e2]) h.nodup) (fun k hk => by
  obtain ⟨x, hx, rfl⟩ := List.mem_map.1 hk
  have h2 := b24_lt (h.bits x hx)
  have h3 : x.ac.toNat ≤ 1 := Bool.toNat_le x.ac
  omega)
 rwa [List.length_map] at h1
def EntG (st : Stp) (sets : List Gs) (y : Gs) (e : Int) (j : Nat) : Prop := ((st y j).2 = false ∧ e = -1) ∨ ((st y j).2 = true ∧ ∃ u : Nat, e = (u : Int) ∧ sets[u]? = some (st y j).1)
theorem EntG.mono {st : Stp} {sets r : List Gs} {y : Gs} {e : Int} {j : Nat} (h : EntG st sets y e j) : EntG st (sets ++ r) y e j := by
 rcases h with h | ⟨h, u, h1, h2⟩
 ·exact .inl h
 ·exact .inr ⟨h, u, h1, by rw [List.getElem?_append_left (List.getElem?_eq_some_iff.1 h2).1]; exact h2⟩
section
variable {st : Stp} (hb : ∀ s j, b24 (st s j).1.nx)
include hb
theorem grN_ok {s : Gs} {sets : List Gs} (h : Gok sets) : ∀ n, Gok (grN st s sets n).1 ∧ (∃ r, (grN st s sets n).1 = sets ++ r) ∧ (grN st s sets n).2.length = n ∧
  (∀ j, j < n → EntG st (grN st s sets n).1 s ((grN st s sets n).2.getD j 0) j) ∧
  (∀ k, sets.length ≤ k → k < (grN st s sets n).1.length → ∃ j, j < n ∧ (grN st s sets n).2.getD j 0 = (k : Int))
 | 0 => ⟨h, ⟨[], by simp [grN]⟩, rfl, fun j hj => by omega, fun k h1 h2 => by simp only [grN] at h2; omega⟩
 | n + 1 => by
  obtain ⟨h1, ⟨r, hr⟩, h3, h4, h5⟩ := grN_ok h (s := s) n
  rw [grN]
  generalize grN st s sets n = q at h1 hr h3 h4 h5
  obtain ⟨l, row⟩ := q
  simp only at h1 hr h3 h4 h5
  have hlt : ∀ (y : Int) (j : Nat), j < n → (row ++ [y]).getD j 0 = row.getD j 0 := fun y j h => by
   rw [List.getD_eq_getElem?_getD, List.getD_eq_getElem?_getD, List.getElem?_append_left (by omega)]
  have heq : ∀ y : Int, (row ++ [y]).getD n 0 = y := fun y => by
   rw [List.getD_eq_getElem?_getD, List.getElem?_append_right (by omega), show n - row.length = 0 from by omega]; rfl
  rw [grI]
  split
  ·rename_i hf
   refine ⟨h1, ⟨r, hr⟩, by simp [h3], fun j hj => ?_, fun k k1 k2 => ?_⟩
   ·simp only
    by_cases hjn : j < n
    ·rw [hlt _ _ hjn]; exact h4 j hjn
    ·rw [show j = n from by omega, heq]; exact .inl ⟨hf, rfl⟩
   ·obtain ⟨j, hj, e⟩ := h5 k k1 k2
    exact ⟨j, by omega, by simp only; rw [hlt _ _ hj]; exact e⟩
  ·rename_i hf
   rw [Bool.not_eq_false] at hf
   split
   ·rename_i u hu
    simp only at hu
    refine ⟨h1, ⟨r, hr⟩, by simp [h3], fun j hj => ?_, fun k k1 k2 => ?_⟩
    ·simp only
     by_cases hjn : j < n
     ·rw [hlt _ _ hjn]; exact h4 j hjn
     ·rw [show j = n from by omega, heq]; exact .inr ⟨hf, u, rfl, idxG_some hu⟩
    ·obtain ⟨j, hj, e⟩ := h5 k k1 k2
     exact ⟨j, by omega, by simp only; rw [hlt _ _ hj]; exact e⟩
   ·rename_i hu
    simp only at hu
    refine ⟨⟨List.nodup_append.2 ⟨h1.nodup, by simp, ?_⟩, fun x hx => ?_⟩, ⟨r ++ [(st s n).1], by rw [hr, List.append_assoc]⟩, by simp [h3], fun j hj => ?_, fun k k1 k2 => ?_⟩
    ·intro a ha b hb2
     simp at hb2
     subst hb2
     exact fun e => idxG_none hu (e ▸ ha)
    ·rcases List.mem_append.1 hx with hx | hx
     ·exact h1.bits x hx
     ·rw [List.mem_singleton] at hx; subst hx; exact hb s n
    ·simp only
     by_cases hjn : j < n
     ·rw [hlt _ _ hjn]; exact (h4 j hjn).mono
     ·rw [show j = n from by omega, heq]
      exact .inr ⟨hf, l.length, rfl, by rw [List.getElem?_append_right (Nat.le_refl _), Nat.sub_self]; rfl⟩
    ·simp only [List.length_append, List.length_singleton] at k2
     simp only
     by_cases hk : k < l.length
     ·obtain ⟨j, hj, e⟩ := h5 k k1 hk
      exact ⟨j, by omega, by rw [hlt _ _ hj]; exact e⟩
     ·exact ⟨n, by omega, by rw [heq]; omega⟩
structure Giv (st : Stp) (m : Nat) (s0 : Gs) (i : Nat) (d : Gd) : Prop where
 ok : Gok d.sets
 fst : d.sets[0]? = some s0
 rows : d.rows.length = min i d.sets.length
 accs : d.accs.length = min i d.sets.length
 row : ∀ k, k < d.rows.length → (d.rows.getD k []).length = m
 ent : ∀ k, k < d.rows.length → ∀ y, d.sets[k]? = some y → d.accs.getD k false = y.ac ∧ ∀ j, j < m → EntG st d.sets y (gI (d.rows.getD k []) j) j
 rch : ∀ k, 0 < k → k < d.sets.length → ∃ u j, u < k ∧ u < d.rows.length ∧ j < m ∧ gI (d.rows.getD u []) j = (k : Int)
theorem gdN_inv {m : Nat} {s0 : Gs} (h0 : b24 s0.nx) : ∀ i, Giv st m s0 i (gdN st m s0 i)
 | 0 => ⟨⟨by simp [gdN], fun x hx => by simp [gdN] at hx; subst hx; exact h0⟩, rfl, by simp [gdN], by simp [gdN], fun k h => by simp [gdN] at h, fun k h => by simp [gdN] at h, fun k h1 h2 => by simp [gdN] at h2; omega⟩
 | i + 1 => by
  have ih := gdN_inv h0 (m := m) i
  rw [gdN]
  generalize gdN st m s0 i = d at ih
  obtain ⟨sets, rows, accs⟩ := d
  have i1 := ih.ok
  have i2 := ih.fst
  have i3 := ih.rows
  have i4 := ih.accs
  have i5 := ih.row
  have i6 := ih.ent
  have i7 := ih.rch
  simp only at i1 i2 i3 i4 i5 i6 i7
  rw [gdI]
  simp only
  cases hs : sets[i]? with
  | none =>
   have := List.getElem?_eq_none_iff.1 hs
   exact ⟨i1, i2, by simp only; omega, by simp only; omega, i5, i6, i7⟩
  | some s =>
   have hlt := (List.getElem?_eq_some_iff.1 hs).1
   obtain ⟨g1, ⟨r, hr⟩, g3, g4, g5⟩ := grN_ok hb i1 (s := s) m
   simp only
   generalize grN st s sets m = q at g1 hr g3 g4 g5
   obtain ⟨l, row⟩ := q
   simp only at g1 hr g3 g4 g5 ⊢
   have hle : sets.length ≤ l.length := by rw [hr, List.length_append]; omega
   have hg : ∀ k, k < rows.length → (rows ++ [row]).getD k [] = rows.getD k [] := fun k hk => by
    rw [List.getD_eq_getElem?_getD, List.getElem?_append_left hk, ← List.getD_eq_getElem?_getD]
   have hg2 : (rows ++ [row]).getD i [] = row := by
    rw [List.getD_eq_getElem?_getD, List.getElem?_append_right (by omega), show i - rows.length = 0 from by omega]; rfl
   have ha : ∀ k, k < rows.length → (accs ++ [s.ac]).getD k false = accs.getD k false := fun k hk => by
    rw [List.getD_eq_getElem?_getD, List.getElem?_append_left (by omega), ← List.getD_eq_getElem?_getD]
   have ha2 : (accs ++ [s.ac]).getD i false = s.ac := by
    rw [List.getD_eq_getElem?_getD, List.getElem?_append_right (by omega), show i - accs.length = 0 from by omega]; rfl
   refine ⟨g1, ?_, by simp only [List.length_append, List.length_singleton]; omega, by simp only [List.length_append, List.length_singleton]; omega, fun k hk => ?_, fun k hk y hy => ?_, fun k k1 k2 => ?_⟩
   ·rw [hr, List.getElem?_append_left (List.getElem?_eq_some_iff.1 i2).1]; exact i2
   ·simp only [List.length_append, List.length_singleton] at hk
    by_cases h : k < rows.length
    ·simp only [hg k h]; exact i5 k h
    ·simp only [show k = i from by omega, hg2]; exact g3
   ·simp only [List.length_append, List.length_singleton] at hk hy
    have hy0 : sets[k]? = some y := by rw [hr, List.getElem?_append_left (by omega)] at hy; exact hy
    by_cases h : k < rows.length
    ·simp only [hg k h, ha k h]
     obtain ⟨e1, e2⟩ := i6 k h y hy0
     exact ⟨e1, fun j hj => by rw [hr]; exact (e2 j hj).mono⟩
    ·have hki : k = i := by omega
     subst hki
     rw [hs] at hy0
     cases hy0
     simp only [hg2, ha2]
     exact ⟨trivial, fun j hj => by rw [gI, Int.toNat_natCast]; exact g4 j hj⟩
   ·simp only at k2 ⊢
    by_cases h : k < sets.length
    ·obtain ⟨u, j, h1, h2, h3, h4⟩ := i7 k k1 h
     exact ⟨u, j, h1, by simp only [List.length_append, List.length_singleton]; omega, h3, by rw [hg u h2]; exact h4⟩
    ·obtain ⟨j, hj, e⟩ := g5 k (by omega) k2
     exact ⟨i, j, by omega, by simp only [List.length_append, List.length_singleton]; omega, hj, by rw [hg2, gI, Int.toNat_natCast]; exact e⟩
end
theorem gdN_stop {st : Stp} {m i : Nat} {s0 : Gs} (h : (gdN st m s0 i).sets.length ≤ i) : ∀ k, gdN st m s0 (i + k) = gdN st m s0 i
 | 0 => rfl
 | k + 1 => by
  have ih := gdN_stop h k
  rw [← Nat.add_assoc, gdN, ih, gdI, List.getElem?_eq_none (by omega)]
theorem gdN_at {st : Stp} {m i j : Nat} {s0 : Gs} (h : (gdN st m s0 i).sets.length ≤ i) (hj : i ≤ j) : gdN st m s0 j = gdN st m s0 i := by
 have := gdN_stop h (j - i)
 rwa [show i + (j - i) = j from by omega] at this
def gdT (st : Stp) (m : Nat) (s0 : Gs) : Tb := ⟨(gdN st m s0 bigN).rows, (gdN st m s0 bigN).accs⟩
def GP (st : Stp) : Gs → List Int → Bool
 | y, [] => y.ac
 | y, c :: w => (st y c).2 && GP st (st y c).1 w
theorem gdT_all {st : Stp} (hb : ∀ s j, b24 (st s j).1.nx) {m : Nat} {s0 : Gs} (h0 : b24 s0.nx) (hm : m ≤ 16) (hm1 : 0 < m) :
  okT (gdT st m s0).next.length m (gdT st m s0) ∧ (∀ q : Nat, q < (gdT st m s0).next.length → ∃ l, runA (gdT st m s0) 0 l = (q : Int)) ∧
  (∀ w, La (gdT st m s0) 0 w = true ↔ ltrs m w ∧ GP st s0 w = true) := by
 have hi := gdN_inv hb h0 (m := m) bigN
 have hl := hi.ok.len
 rw [gdT]
 generalize gdN st m s0 bigN = d at hi hl
 obtain ⟨sets, rows, accs⟩ := d
 have i2 := hi.fst
 have i3 := hi.rows
 have i4 := hi.accs
 have i5 := hi.row
 have i6 := hi.ent
 have i7 := hi.rch
 simp only at i2 i3 i4 i5 i6 i7 hl ⊢
 have hN : bigN = 2 ^ 30 := rfl
 have hr : rows.length = sets.length := by omega
 have ha : accs.length = sets.length := by omega
 have hp := (List.getElem?_eq_some_iff.1 i2).1
 have hT : okT rows.length m ⟨rows, accs⟩ := by
  refine ⟨rfl, by simp only; omega, fun r hr2 => ?_, fun r hr2 x hx => ?_, by omega, by omega, hm, hm1⟩
  ·obtain ⟨k, hk, e⟩ := List.getElem_of_mem hr2
   have := i5 k hk
   rwa [lgetD hk, e] at this
  ·obtain ⟨k, hk, e⟩ := List.getElem_of_mem hr2
   simp only at hk
   have hrl := i5 k hk
   rw [lgetD hk, e] at hrl
   obtain ⟨j, hj, e2⟩ := List.getElem_of_mem hx
   have := (i6 k hk _ (List.getElem?_eq_getElem (by omega))).2 j (by omega)
   rw [lgetD hk, e, gI, Int.toNat_natCast, lgetD hj, e2] at this
   rcases this with ⟨_, h⟩ | ⟨_, u, h, hu⟩
   ·omega
   ·have := (List.getElem?_eq_some_iff.1 hu).1
    omega
 refine ⟨hT, ?_, ?_⟩
 ·intro q
  induction q using Nat.strongRecOn with
  | ind q ih =>
   intro hq
   by_cases h0 : q = 0
   ·subst h0; exact ⟨[], rfl⟩
   ·obtain ⟨u, j, h1, h2, h3, h4⟩ := i7 q (by omega) (by omega)
    obtain ⟨l, hl⟩ := ih u h1 (by omega)
    refine ⟨l ++ [(j : Int)], ?_⟩
    rw [runA, List.foldl_append]
    show suc ⟨rows, accs⟩ (runA ⟨rows, accs⟩ 0 l) j = (q : Int)
    rw [hl, suc_at hT (by omega) h3]
    exact h4
 ·have key : ∀ (w : List Int) (k : Nat) (y : Gs), sets[k]? = some y → (La ⟨rows, accs⟩ k w = true ↔ ltrs m w ∧ GP st y w = true) := by
   intro w
   induction w with
   | nil =>
    intro k y hy
    have hk := (List.getElem?_eq_some_iff.1 hy).1
    rw [La_nil, accq, gB, Int.toNat_natCast, decide_eq_true (by omega), Bool.true_and]
    simp only
    rw [(i6 k (by omega) y hy).1, GP]
    exact ⟨fun h => ⟨fun c hc => by simp at hc, h⟩, fun h => h.2⟩
   | cons c w ih =>
    intro k y hy
    have hk := (List.getElem?_eq_some_iff.1 hy).1
    rw [La_cons]
    by_cases hc : 0 ≤ c ∧ c < (m : Int)
    ·obtain ⟨j, rfl⟩ : ∃ j : Nat, c = j := ⟨c.toNat, by omega⟩
     rw [suc_at hT (by omega) (by omega)]
     have hl : ltrs m ((j : Int) :: w) ↔ ltrs m w := by
      simp only [ltrs, List.mem_cons, forall_eq_or_imp]
      exact ⟨fun h => h.2, fun h => ⟨hc, h⟩⟩
     rw [hl, GP, Bool.and_eq_true]
     rcases (i6 k (by omega) y hy).2 j (by omega) with ⟨e, hn⟩ | ⟨e, u, hu, hs⟩
     ·rw [hn, La_neg (by decide), e]
      exact ⟨fun h => absurd h (by decide), fun h => absurd h.2.1 (by decide)⟩
     ·rw [hu, ih u _ hs, e]
      exact ⟨fun h => ⟨h.1, rfl, h.2⟩, fun h => ⟨h.1, h.2.2⟩⟩
    ·rw [suc_out hT (by omega) (by omega), La_neg (by decide)]
     exact ⟨fun h => absurd h (by decide), fun h => absurd (h.1 c (by simp)) hc⟩
  intro w
  exact key w 0 s0 i2
end Go.Proofs.Yticeakkgoafiaaa

/- Chapter 42: the leaves that can follow one another, and what an expression matches (plain). -/
set_option maxRecDepth 100000
set_option maxHeartbeats 4000000
set_option linter.all false
namespace Go.Proofs.Yticeakkgoafiaaa
open Go.Vm
theorem bit_sh {a i : Nat} (h : a < 32) : (1#32 <<< a).getLsbD i = true ↔ i = a := by
 simp only [BitVec.getLsbD_shiftLeft, Bool.and_eq_true, decide_eq_true_eq, Bool.not_eq_true', decide_eq_false_iff_not, BitVec.getLsbD_one]
 constructor
 ·rintro ⟨⟨_, h1⟩, h2⟩
  simp at h2
  omega
 ·rintro rfl
  exact ⟨⟨h, by omega⟩, by simp⟩
def Pos : Nat → Pr → Nat → Prop
 | a, .leaf x, i => x.op ≠ 1 ∧ i = a
 | a, .un _ p, i => Pos (a + 1) p i
 | a, .bin _ p q, i => Pos (a + 1) p i ∨ Pos (ptP (a + 1) p).to q i
theorem Pos.rng : ∀ {p : Pr} {a i : Nat}, Pos a p i → a ≤ i ∧ i < a + (flat p).length
 | .leaf x, a, i, h => by have := h.2; simp [flat]; omega
 | .un x p, a, i, h => by
  have := Pos.rng (p := p) h
  rw [flat, List.length_cons]; omega
 | .bin x p q, a, i, h => by
  rw [flat, List.length_cons, List.length_append]
  rcases h with h | h
  ·have := h.rng; omega
  ·have := h.rng
   rw [ptP_to] at this
   omega
def fol (a : Nat) (p : Pr) (i j : Nat) : Prop := ∃ x ∈ conL a p i, x.getLsbD j = true
def catK (L K : List Int → Prop) : List Int → Prop := fun v => ∃ u1 u2, v = u1 ++ u2 ∧ L u1 ∧ K u2
def cont : Nat → Pr → (List Int → Prop) → Nat → List Int → Prop
 | _, .leaf _, K, _, w => K w
 | a, .un _ p, K, i, w => cont (a + 1) p (catK (Star (Mt p)) K) i w
 | a, .bin x p q, K, i, w => if i < (ptP (a + 1) p).to then (if x.op = 5 then cont (a + 1) p K i w else cont (a + 1) p (catK (Mt q) K) i w) else cont (ptP (a + 1) p).to q K i w
theorem emp_iff (sw : Int) : ∀ (p : Pr) (a : Nat), okP sw p → ((ptP a p).emp = true ↔ Mt p [])
 | .leaf x, a, hp => by
  rw [ptP, Mt]
  by_cases h1 : x.op = 1
  ·rw [if_pos h1, if_pos h1]; simp
  ·rw [if_neg h1, if_neg h1]
   split <;> simp
 | .un x p, a, hp => by
  rw [ptP, Mt]
  exact ⟨fun _ => .nil, fun _ => rfl⟩
 | .bin x p q, a, hp => by
  have i1 := emp_iff sw p (a + 1) hp.2.1
  have i2 := emp_iff sw q (ptP (a + 1) p).to hp.2.2
  rw [ptP, Mt]
  by_cases h5 : x.op = 5
  ·rw [if_pos h5, if_pos h5]
   simp only [Bool.or_eq_true]
   rw [i1, i2]
  ·rw [if_neg h5, if_neg h5]
   simp only [Bool.and_eq_true]
   rw [i1, i2]
   constructor
   ·rintro ⟨h1, h2⟩; exact ⟨[], [], rfl, h1, h2⟩
   ·rintro ⟨u, v, e, h1, h2⟩
    have e := e.symm
    rw [List.append_eq_nil_iff] at e
    obtain ⟨rfl, rfl⟩ := e
    exact ⟨h1, h2⟩
theorem fst_bin {x : Nd} {p q : Pr} {a i : Nat} : (ptP a (.bin x p q)).fst.getLsbD i = true ↔ (ptP (a + 1) p).fst.getLsbD i = true ∨ ((x.op = 5 ∨ (ptP (a + 1) p).emp = true) ∧ (ptP (ptP (a + 1) p).to q).fst.getLsbD i = true) := by
 rw [ptP]
 by_cases h5 : x.op = 5
 ·rw [if_pos h5]
  simp [h5, BitVec.getLsbD_or]
 ·rw [if_neg h5]
  simp only
  by_cases he : (ptP (a + 1) p).emp = true
  ·rw [if_pos he]
   simp [he, BitVec.getLsbD_or]
  ·rw [if_neg he]
   simp [he, h5]
theorem lst_bin {x : Nd} {p q : Pr} {a i : Nat} : (ptP a (.bin x p q)).lst.getLsbD i = true ↔ (ptP (ptP (a + 1) p).to q).lst.getLsbD i = true ∨ ((x.op = 5 ∨ (ptP (ptP (a + 1) p).to q).emp = true) ∧ (ptP (a + 1) p).lst.getLsbD i = true) := by
 rw [ptP]
 by_cases h5 : x.op = 5
 ·rw [if_pos h5]
  simp only [BitVec.getLsbD_or, Bool.or_eq_true, h5, true_or, true_and]
  exact Or.comm
 ·rw [if_neg h5]
  simp only
  by_cases he : (ptP (ptP (a + 1) p).to q).emp = true
  ·rw [if_pos he]
   simp only [BitVec.getLsbD_or, Bool.or_eq_true, he, or_true, true_and]
   exact Or.comm
  ·rw [if_neg he]
   simp [he, h5]
theorem fst_pos : ∀ (p : Pr) (a i : Nat), a + (flat p).length ≤ 24 → (ptP a p).fst.getLsbD i = true → Pos a p i
 | .leaf x, a, i, hl, h => by
  rw [ptP] at h
  by_cases h1 : x.op = 1
  ·rw [if_pos h1] at h; simp at h
  ·rw [if_neg h1] at h
   simp only [flat, List.length_singleton] at hl
   exact ⟨h1, (bit_sh (by omega)).1 h⟩
 | .un x p, a, i, hl, h => by
  rw [flat, List.length_cons] at hl
  exact fst_pos p (a + 1) i (by omega) h
 | .bin x p q, a, i, hl, h => by
  rw [flat, List.length_cons, List.length_append] at hl
  rcases fst_bin.1 h with h | ⟨_, h⟩
  ·exact .inl (fst_pos p (a + 1) i (by omega) h)
  ·exact .inr (fst_pos q _ i (by rw [ptP_to]; omega) h)
theorem lst_pos : ∀ (p : Pr) (a i : Nat), a + (flat p).length ≤ 24 → (ptP a p).lst.getLsbD i = true → Pos a p i
 | .leaf x, a, i, hl, h => by
  rw [ptP] at h
  by_cases h1 : x.op = 1
  ·rw [if_pos h1] at h; simp at h
  ·rw [if_neg h1] at h
   simp only [flat, List.length_singleton] at hl
   exact ⟨h1, (bit_sh (by omega)).1 h⟩
 | .un x p, a, i, hl, h => by
  rw [flat, List.length_cons] at hl
  exact lst_pos p (a + 1) i (by omega) h
 | .bin x p q, a, i, hl, h => by
  rw [flat, List.length_cons, List.length_append] at hl
  rcases lst_bin.1 h with h | ⟨_, h⟩
  ·exact .inr (lst_pos q _ i (by rw [ptP_to]; omega) h)
  ·exact .inl (lst_pos p (a + 1) i (by omega) h)
theorem fol_un {x : Nd} {p : Pr} {a i j : Nat} : fol a (.un x p) i j ↔ ((ptP (a + 1) p).lst.getLsbD i = true ∧ (ptP (a + 1) p).fst.getLsbD j = true) ∨ fol (a + 1) p i j := by
 simp only [fol, conL, List.mem_cons, exists_eq_or_imp, ownF]
 refine or_congr_left ?_
 split
 ·rename_i h; simp [h]
 ·rename_i h; simp [h]
theorem fol_bin {x : Nd} {p q : Pr} {a i j : Nat} : fol a (.bin x p q) i j ↔ (x.op = 4 ∧ (ptP (a + 1) p).lst.getLsbD i = true ∧ (ptP (ptP (a + 1) p).to q).fst.getLsbD j = true) ∨ fol (a + 1) p i j ∨ fol (ptP (a + 1) p).to q i j := by
 simp only [fol, conL, List.mem_cons, List.mem_append, exists_eq_or_imp, ownF]
 refine Iff.trans (or_congr (a := _) (c := x.op = 4 ∧ (ptP (a + 1) p).lst.getLsbD i = true ∧ (ptP (ptP (a + 1) p).to q).fst.getLsbD j = true) ?_ Iff.rfl) (or_congr_right ?_)
 ·by_cases h4 : x.op = 4
  ·rw [if_pos h4]
   split
   ·rename_i h; simp [h, h4]
   ·rename_i h; simp [h, h4]
  ·rw [if_neg h4]; simp [h4]
 ·constructor
  ·rintro ⟨y, h | h, hy⟩
   ·exact .inl ⟨y, h, hy⟩
   ·exact .inr ⟨y, h, hy⟩
  ·rintro (⟨y, h, hy⟩ | ⟨y, h, hy⟩)
   ·exact ⟨y, .inl h, hy⟩
   ·exact ⟨y, .inr h, hy⟩
theorem fol_leaf {x : Nd} {a i j : Nat} : ¬ fol a (.leaf x) i j := by
 simp [fol, conL, ownF]
theorem fol_pos : ∀ (p : Pr) (a i j : Nat), a + (flat p).length ≤ 24 → fol a p i j → Pos a p i ∧ Pos a p j
 | .leaf x, a, i, j, hl, h => absurd h fol_leaf
 | .un x p, a, i, j, hl, h => by
  rw [flat, List.length_cons] at hl
  rcases fol_un.1 h with ⟨h1, h2⟩ | h
  ·exact ⟨lst_pos p (a + 1) i (by omega) h1, fst_pos p (a + 1) j (by omega) h2⟩
  ·exact fol_pos p (a + 1) i j (by omega) h
 | .bin x p q, a, i, j, hl, h => by
  rw [flat, List.length_cons, List.length_append] at hl
  rcases fol_bin.1 h with ⟨_, h1, h2⟩ | h | h
  ·exact ⟨.inl (lst_pos p (a + 1) i (by omega) h1), .inr (fst_pos q _ j (by rw [ptP_to]; omega) h2)⟩
  ·have := fol_pos p (a + 1) i j (by omega) h
   exact ⟨.inl this.1, .inl this.2⟩
  ·have := fol_pos q _ i j (by rw [ptP_to]; omega) h
   exact ⟨.inr this.1, .inr this.2⟩
def goes (r : List Nd) (B : Nat → Prop) (C : Nat → List Int → Prop) (w : List Int) : Prop := ∃ i c w', B i ∧ w = c :: w' ∧ mtc (r.getD i ⟨0, 0⟩) c = true ∧ C i w'
theorem goes_or {r : List Nd} {B B' : Nat → Prop} {C : Nat → List Int → Prop} {w : List Int} : goes r (fun i => B i ∨ B' i) C w ↔ goes r B C w ∨ goes r B' C w := by
 constructor
 ·rintro ⟨i, c, w', h | h, h2⟩
  ·exact .inl ⟨i, c, w', h, h2⟩
  ·exact .inr ⟨i, c, w', h, h2⟩
 ·rintro (⟨i, c, w', h, h2⟩ | ⟨i, c, w', h, h2⟩)
  ·exact ⟨i, c, w', .inl h, h2⟩
  ·exact ⟨i, c, w', .inr h, h2⟩
theorem goes_congr {r : List Nd} {B B' : Nat → Prop} {C C' : Nat → List Int → Prop} {w : List Int} (h1 : ∀ i, B i ↔ B' i) (h2 : ∀ i w', B i → (C i w' ↔ C' i w')) : goes r B C w ↔ goes r B' C' w := by
 constructor
 ·rintro ⟨i, c, w', h, h3, h4, h5⟩
  exact ⟨i, c, w', (h1 i).1 h, h3, h4, (h2 i w' h).1 h5⟩
 ·rintro ⟨i, c, w', h, h3, h4, h5⟩
  exact ⟨i, c, w', (h1 i).2 h, h3, h4, (h2 i w' ((h1 i).2 h)).2 h5⟩
theorem goes_and {r : List Nd} {P : Prop} {B : Nat → Prop} {C : Nat → List Int → Prop} {w : List Int} : goes r (fun i => P ∧ B i) C w ↔ P ∧ goes r B C w := by
 constructor
 ·rintro ⟨i, c, w', ⟨hp, h⟩, h2⟩
  exact ⟨hp, i, c, w', h, h2⟩
 ·rintro ⟨hp, i, c, w', h, h2⟩
  exact ⟨i, c, w', ⟨hp, h⟩, h2⟩
def catN (L K : List Int → Prop) (w : List Int) : Prop := ∃ u v, w = u ++ v ∧ u ≠ [] ∧ L u ∧ K v
theorem catK_iff {L K : List Int → Prop} {w : List Int} : catK L K w ↔ (L [] ∧ K w) ∨ catN L K w := by
 constructor
 ·rintro ⟨u, v, e, h1, h2⟩
  cases u with
  | nil => rw [List.nil_append] at e; subst e; exact .inl ⟨h1, h2⟩
  | cons c u => exact .inr ⟨c :: u, v, e, List.cons_ne_nil _ _, h1, h2⟩
 ·rintro (⟨h1, h2⟩ | ⟨u, v, e, _, h1, h2⟩)
  ·exact ⟨[], w, rfl, h1, h2⟩
  ·exact ⟨u, v, e, h1, h2⟩
theorem catN_star {L K : List Int → Prop} {w : List Int} : catN (Star L) K w ↔ catN L (catK (Star L) K) w := by
 constructor
 ·rintro ⟨u, v, rfl, hn, h1, h2⟩
  rcases h1.first with rfl | ⟨u1, u2, rfl, h3, h4, h5⟩
  ·exact absurd rfl hn
  ·exact ⟨u1, u2 ++ v, by rw [List.append_assoc], h5, h3, u2, v, rfl, h4, h2⟩
 ·rintro ⟨u, v, rfl, hn, h1, u2, v2, rfl, h3, h4⟩
  refine ⟨u ++ u2, v2, by rw [List.append_assoc], ?_, .app h1 h3, h4⟩
  intro e
  exact hn (List.append_eq_nil_iff.1 e).1
section
variable {r : List Nd} {sw : Int}
theorem first_iff : ∀ (p : Pr) (a : Nat) (s : List Nd) (K : List Int → Prop) (w : List Int), okP sw p → r.drop a = flat p ++ s → a + (flat p).length ≤ 24 →
  (catN (Mt p) K w ↔ goes r (fun i => (ptP a p).fst.getLsbD i = true) (cont a p K) w)
 | .leaf x, a, s, K, w, hp, hd, hl => by
  obtain ⟨ha, hx, _⟩ := drop_cons (show r.drop a = x :: s from hd)
  have hg : r.getD a ⟨0, 0⟩ = x := by rw [List.getD_eq_getElem?_getD, List.getElem?_eq_getElem ha, hx]; rfl
  rw [ptP]
  by_cases h1 : x.op = 1
  ·rw [if_pos h1]
   constructor
   ·rintro ⟨u, v, _, hn, h2, _⟩
    rw [Mt, if_pos h1] at h2
    exact absurd h2 hn
   ·rintro ⟨i, c, w', h, _⟩
    simp at h
  ·rw [if_neg h1]
   simp only [flat, List.length_singleton] at hl
   have hm : ∀ c : Int, mtc x c = true ↔ Mt (.leaf x) [c] := fun c => by
    rw [mtc, Mt, if_neg h1]
    by_cases h2 : x.op = 2
    ·rw [if_pos h2, decide_eq_true h2]; simp
    ·have h3 : x.op = 3 := by have := hp.1; omega
     rw [if_neg h2, decide_eq_false h2, nN, if_pos h3, Bool.false_or, decide_eq_true_iff]
     constructor
     ·intro e; rw [e]
     ·intro e; injection e with e; exact e.symm
   constructor
   ·rintro ⟨u, v, rfl, hn, h2, h3⟩
    have hu : ∃ c, u = [c] := by
     rw [Mt, if_neg h1] at h2
     split at h2
     ·match u, h2 with
      | [c], _ => exact ⟨c, rfl⟩
     ·exact ⟨_, h2⟩
    obtain ⟨c, rfl⟩ := hu
    exact ⟨a, c, v, (bit_sh (by omega)).2 rfl, rfl, by rw [hg]; exact (hm c).2 h2, h3⟩
   ·rintro ⟨i, c, w', h, rfl, h2, h3⟩
    have hi := (bit_sh (by omega)).1 h
    subst hi
    rw [hg] at h2
    exact ⟨[c], w', rfl, List.cons_ne_nil _ _, (hm c).1 h2, h3⟩
 | .un x p, a, s, K, w, hp, hd, hl => by
  obtain ⟨ha, hx, hd2⟩ := drop_cons (show r.drop a = x :: (flat p ++ s) from hd)
  rw [flat, List.length_cons] at hl
  have ih := first_iff p (a + 1) s (catK (Star (Mt p)) K) w hp.2 hd2 (by omega)
  have e : catN (Mt (.un x p)) K w ↔ catN (Star (Mt p)) K w := Iff.rfl
  rw [e, catN_star, ih]
  exact Iff.rfl
 | .bin x p q, a, s, K, w, hp, hd, hl => by
  obtain ⟨ha, hx, hd2⟩ := drop_cons (show r.drop a = x :: (flat p ++ flat q ++ s) from hd)
  rw [List.append_assoc] at hd2
  have hd3 := drop_app hd2
  have hto := ptP_to p (a + 1)
  rw [← hto] at hd3
  rw [flat, List.length_cons, List.length_append] at hl
  have hlq : (ptP (a + 1) p).to + (flat q).length ≤ 24 := by omega
  have i2 := first_iff q (ptP (a + 1) p).to s K w hp.2.2 hd3 hlq
  have hc1 : ∀ i, (ptP (a + 1) p).fst.getLsbD i = true → i < (ptP (a + 1) p).to := fun i h => by
   have := (fst_pos p (a + 1) i (by omega) h).rng; omega
  have hc2 : ∀ i, (ptP (ptP (a + 1) p).to q).fst.getLsbD i = true → ¬ i < (ptP (a + 1) p).to := fun i h => by
   have := (fst_pos q _ i hlq h).rng; omega
  have hF : goes r (fun i => (ptP a (.bin x p q)).fst.getLsbD i = true) (cont a (.bin x p q) K) w ↔
    goes r (fun i => (ptP (a + 1) p).fst.getLsbD i = true) (fun i w => if x.op = 5 then cont (a + 1) p K i w else cont (a + 1) p (catK (Mt q) K) i w) w ∨
    ((x.op = 5 ∨ (ptP (a + 1) p).emp = true) ∧ goes r (fun i => (ptP (ptP (a + 1) p).to q).fst.getLsbD i = true) (cont (ptP (a + 1) p).to q K) w) := by
   rw [goes_congr (fun i => fst_bin) (fun i w' _ => Iff.rfl), goes_or, goes_and]
   refine or_congr (goes_congr (fun _ => Iff.rfl) fun i w' h => ?_) (and_congr_right fun _ => goes_congr (fun _ => Iff.rfl) fun i w' h => ?_)
   ·rw [cont, if_pos (hc1 i h)]
   ·rw [cont, if_neg (hc2 i h)]
  rw [hF]
  by_cases h5 : x.op = 5
  ·have i1 := first_iff p (a + 1) (flat q ++ s) K w hp.2.1 hd2 (by omega)
   simp only [h5, if_true, true_or, true_and]
   rw [← i1, ← i2]
   constructor
   ·rintro ⟨u, v, e, hn, hm, hk⟩
    rw [Mt, if_pos h5] at hm
    rcases hm with hm | hm
    ·exact .inl ⟨u, v, e, hn, hm, hk⟩
    ·exact .inr ⟨u, v, e, hn, hm, hk⟩
   ·rintro (⟨u, v, e, hn, hm, hk⟩ | ⟨u, v, e, hn, hm, hk⟩)
    ·exact ⟨u, v, e, hn, by rw [Mt, if_pos h5]; exact .inl hm, hk⟩
    ·exact ⟨u, v, e, hn, by rw [Mt, if_pos h5]; exact .inr hm, hk⟩
  ·have i1 := first_iff p (a + 1) (flat q ++ s) (catK (Mt q) K) w hp.2.1 hd2 (by omega)
   simp only [h5, if_false, false_or]
   rw [← i1, ← i2, emp_iff sw p (a + 1) hp.2.1]
   constructor
   ·rintro ⟨u, v, rfl, hn, hm, hk⟩
    rw [Mt, if_neg h5] at hm
    obtain ⟨u1, u2, rfl, h1, h2⟩ := hm
    cases u1 with
    | nil => exact .inr ⟨h1, u2, v, rfl, hn, h2, hk⟩
    | cons c u1 => exact .inl ⟨c :: u1, u2 ++ v, by rw [List.append_assoc], List.cons_ne_nil _ _, h1, u2, v, rfl, h2, hk⟩
   ·rintro (⟨u, v, rfl, hn, hm, u2, v2, rfl, h2, hk⟩ | ⟨h1, u, v, rfl, hn, h2, hk⟩)
    ·refine ⟨u ++ u2, v2, by rw [List.append_assoc], fun e => hn (List.append_eq_nil_iff.1 e).1, ?_, hk⟩
     rw [Mt, if_neg h5]
     exact ⟨u, u2, rfl, hm, h2⟩
    ·refine ⟨u, v, rfl, hn, ?_, hk⟩
     rw [Mt, if_neg h5]
     exact ⟨[], u, rfl, h1, h2⟩
theorem cont_iff : ∀ (p : Pr) (a : Nat) (s : List Nd) (K : List Int → Prop) (i : Nat) (w : List Int), okP sw p → r.drop a = flat p ++ s → a + (flat p).length ≤ 24 → Pos a p i →
  (cont a p K i w ↔ ((ptP a p).lst.getLsbD i = true ∧ K w) ∨ goes r (fol a p i) (cont a p K) w)
 | .leaf x, a, s, K, i, w, hp, hd, hl, hi => by
  obtain ⟨h1, rfl⟩ := hi
  simp only [flat, List.length_singleton] at hl
  rw [cont, ptP, if_neg h1]
  simp only
  rw [(bit_sh (by omega)).2 rfl]
  constructor
  ·intro h; exact .inl ⟨rfl, h⟩
  ·rintro (⟨_, h⟩ | ⟨j, c, w', h, _⟩)
   ·exact h
   ·exact absurd h fol_leaf
 | .un x p, a, s, K, i, w, hp, hd, hl, hi => by
  obtain ⟨ha, hx, hd2⟩ := drop_cons (show r.drop a = x :: (flat p ++ s) from hd)
  have hl2 := hl
  rw [flat, List.length_cons] at hl
  have ih := cont_iff p (a + 1) s (catK (Star (Mt p)) K) i w hp.2 hd2 (by omega) hi
  have hf := first_iff (r := r) (sw := sw) (.un x p) a s K w hp hd hl2
  have hK : catK (Star (Mt p)) K w ↔ K w ∨ goes r (fun i => (ptP (a + 1) p).fst.getLsbD i = true) (cont (a + 1) p (catK (Star (Mt p)) K)) w := by
   rw [catK_iff, show catN (Star (Mt p)) K w ↔ catN (Mt (.un x p)) K w from Iff.rfl, hf]
   refine or_congr ⟨fun h => h.2, fun h => ⟨.nil, h⟩⟩ Iff.rfl
  rw [cont, ih, hK, goes_congr (fun j => fol_un) (fun j w' _ => Iff.rfl), goes_or, goes_and]
  rw [show cont a (.un x p) K = cont (a + 1) p (catK (Star (Mt p)) K) from rfl, show (ptP a (.un x p)).lst = (ptP (a + 1) p).lst from rfl]
  constructor
  ·rintro (⟨h1, h2 | h2⟩ | h)
   ·exact .inl ⟨h1, h2⟩
   ·exact .inr (.inl ⟨h1, h2⟩)
   ·exact .inr (.inr h)
  ·rintro (⟨h1, h2⟩ | ⟨h1, h2⟩ | h)
   ·exact .inl ⟨h1, .inl h2⟩
   ·exact .inl ⟨h1, .inr h2⟩
   ·exact .inr h
 | .bin x p q, a, s, K, i, w, hp, hd, hl, hi => by
  obtain ⟨ha, hx, hd2⟩ := drop_cons (show r.drop a = x :: (flat p ++ flat q ++ s) from hd)
  rw [List.append_assoc] at hd2
  have hd3 := drop_app hd2
  have hto := ptP_to p (a + 1)
  rw [← hto] at hd3
  rw [flat, List.length_cons, List.length_append] at hl
  have hlp : a + 1 + (flat p).length ≤ 24 := by omega
  have hlq : (ptP (a + 1) p).to + (flat q).length ≤ 24 := by omega
  have hpr : ∀ j, Pos (a + 1) p j → j < (ptP (a + 1) p).to := fun j h => by have := h.rng; omega
  have hqr : ∀ j, Pos (ptP (a + 1) p).to q j → ¬ j < (ptP (a + 1) p).to := fun j h => by have := h.rng; omega
  have hop : x.op = 4 ∨ x.op = 5 := hp.1
  rcases hi with hi | hi
  · -- in the left operand
   have hnq : ¬ Pos (ptP (a + 1) p).to q i := fun h => hqr i h (hpr i hi)
   have hlq0 : ¬ (ptP (ptP (a + 1) p).to q).lst.getLsbD i = true := fun h => hnq (lst_pos q _ i hlq h)
   have hfq0 : ∀ j, ¬ fol (ptP (a + 1) p).to q i j := fun j h => hnq (fol_pos q _ i j hlq h).1
   by_cases h5 : x.op = 5
   ·have ih := cont_iff p (a + 1) (flat q ++ s) K i w hp.2.1 hd2 hlp hi
    rw [cont, if_pos (hpr i hi), if_pos h5, ih]
    refine or_congr (and_congr_left fun _ => ?_) (goes_congr (fun j => ?_) fun j w' hj => ?_)
    ·rw [lst_bin]
     exact ⟨fun h => .inr ⟨.inl h5, h⟩, fun h => by
      rcases h with h | ⟨_, h⟩
      ·exact absurd h hlq0
      ·exact h⟩
    ·rw [fol_bin]
     exact ⟨fun h => .inr (.inl h), fun h => by
      rcases h with ⟨h, _⟩ | h | h
      ·omega
      ·exact h
      ·exact absurd h (hfq0 j)⟩
    ·rw [cont, if_pos (hpr j (fol_pos p _ i j hlp hj).2), if_pos h5]
   ·have h4 : x.op = 4 := by omega
    have ih := cont_iff p (a + 1) (flat q ++ s) (catK (Mt q) K) i w hp.2.1 hd2 hlp hi
    have hf := first_iff (r := r) (sw := sw) q (ptP (a + 1) p).to s K w hp.2.2 hd3 hlq
    have hK : catK (Mt q) K w ↔ ((ptP (ptP (a + 1) p).to q).emp = true ∧ K w) ∨ goes r (fun i => (ptP (ptP (a + 1) p).to q).fst.getLsbD i = true) (cont (ptP (a + 1) p).to q K) w := by
     rw [catK_iff, hf, emp_iff sw q _ hp.2.2]
    rw [cont, if_pos (hpr i hi), if_neg h5, ih, hK, goes_congr (fun j => fol_bin) (fun j w' _ => Iff.rfl), goes_or, goes_or, lst_bin]
    have e1 : goes r (fun j => x.op = 4 ∧ (ptP (a + 1) p).lst.getLsbD i = true ∧ (ptP (ptP (a + 1) p).to q).fst.getLsbD j = true) (cont a (.bin x p q) K) w ↔ (ptP (a + 1) p).lst.getLsbD i = true ∧ goes r (fun j => (ptP (ptP (a + 1) p).to q).fst.getLsbD j = true) (cont (ptP (a + 1) p).to q K) w := by
     rw [goes_and, goes_and]
     refine ⟨fun h => ⟨h.2.1, ?_⟩, fun h => ⟨h4, h.1, ?_⟩⟩
     ·refine (goes_congr (fun _ => Iff.rfl) fun j w' hj => ?_).1 h.2.2
      rw [cont, if_neg (hqr j (fst_pos q _ j hlq hj))]
     ·refine (goes_congr (fun _ => Iff.rfl) fun j w' hj => ?_).2 h.2
      rw [cont, if_neg (hqr j (fst_pos q _ j hlq hj))]
    have e2 : goes r (fol (a + 1) p i) (cont a (.bin x p q) K) w ↔ goes r (fol (a + 1) p i) (cont (a + 1) p (catK (Mt q) K)) w :=
     goes_congr (fun _ => Iff.rfl) fun j w' hj => by rw [cont, if_pos (hpr j (fol_pos p _ i j hlp hj).2), if_neg h5]
    have e3 : ¬ goes r (fol (ptP (a + 1) p).to q i) (cont a (.bin x p q) K) w := fun ⟨j, _, _, h, _⟩ => hfq0 j h
    rw [e1, e2]
    constructor
    ·rintro (⟨h1, ⟨h2, h3⟩ | h2⟩ | h)
     ·exact .inl ⟨.inr ⟨.inr h2, h1⟩, h3⟩
     ·exact .inr (.inl ⟨h1, h2⟩)
     ·exact .inr (.inr (.inl h))
    ·rintro (⟨h | ⟨h | h, h2⟩, h3⟩ | ⟨h1, h2⟩ | h | h)
     ·exact absurd h hlq0
     ·exact absurd h h5
     ·exact .inl ⟨h2, .inl ⟨h, h3⟩⟩
     ·exact .inl ⟨h1, .inr h2⟩
     ·exact .inr h
     ·exact absurd h e3
  · -- in the right operand
   have hnp : ¬ Pos (a + 1) p i := fun h => hqr i hi (hpr i h)
   have hlp0 : ¬ (ptP (a + 1) p).lst.getLsbD i = true := fun h => hnp (lst_pos p _ i hlp h)
   have hfp0 : ∀ j, ¬ fol (a + 1) p i j := fun j h => hnp (fol_pos p _ i j hlp h).1
   have ih := cont_iff q (ptP (a + 1) p).to s K i w hp.2.2 hd3 hlq hi
   rw [cont, if_neg (hqr i hi), ih]
   refine or_congr (and_congr_left fun _ => ?_) (goes_congr (fun j => ?_) fun j w' hj => ?_)
   ·rw [lst_bin]
    exact ⟨fun h => .inl h, fun h => by
     rcases h with h | ⟨_, h⟩
     ·exact h
     ·exact absurd h hlp0⟩
   ·rw [fol_bin]
    exact ⟨fun h => .inr (.inr h), fun h => by
     rcases h with ⟨_, h, _⟩ | h | h
     ·exact absurd h hlp0
     ·exact absurd h (hfp0 j)
     ·exact h⟩
   ·rw [cont, if_neg (hqr j (fol_pos q _ i j hlq hj).2)]
end
theorem orL_bit {l : List W32} {j : Nat} : (orL l).getLsbD j = true ↔ ∃ x ∈ l, x.getLsbD j = true := by
 have key : ∀ (l : List W32) (z : W32), (l.foldl (· ||| ·) z).getLsbD j = true ↔ z.getLsbD j = true ∨ ∃ x ∈ l, x.getLsbD j = true := by
  intro l
  induction l with
  | nil => intro z; simp
  | cons y r ih =>
   intro z
   rw [List.foldl_cons, ih, BitVec.getLsbD_or, Bool.or_eq_true]
   simp only [List.mem_cons, exists_eq_or_imp]
   exact or_assoc
 rw [orL, key]
 simp
def refSt (p : Pr) : Stp := fun s c => advS (flat p) ((List.range (flat p).length).map fun i => orL (conL 0 p i)) (ptP 0 p).lst s c
def refS0 (p : Pr) : Gs := ⟨(ptP 0 p).fst, (ptP 0 p).emp⟩
theorem adv_all (r : List Nd) (fl : List W32) (last : W32) (s : Gs) (c : Int) : ∀ n,
  ((advN r fl last s c n).2 = true ↔ ∃ i, i < n ∧ s.nx.getLsbD i = true ∧ mtc (r.getD i ⟨0, 0⟩) c = true) ∧
  (∀ j, (advN r fl last s c n).1.nx.getLsbD j = true ↔ ∃ i, i < n ∧ (s.nx.getLsbD i = true ∧ mtc (r.getD i ⟨0, 0⟩) c = true) ∧ (fl.getD i 0#32).getLsbD j = true) ∧
  ((advN r fl last s c n).1.ac = true ↔ ∃ i, i < n ∧ (s.nx.getLsbD i = true ∧ mtc (r.getD i ⟨0, 0⟩) c = true) ∧ last.getLsbD i = true)
 | 0 => by simp [advN]
 | n + 1 => by
  obtain ⟨h1, h2, h3⟩ := adv_all r fl last s c n
  have hs : ∀ Q : Nat → Prop, (∃ i, i < n + 1 ∧ Q i) ↔ (∃ i, i < n ∧ Q i) ∨ Q n := fun Q => by
   constructor
   ·rintro ⟨i, hi, h⟩
    by_cases e : i = n
    ·subst e; exact .inr h
    ·exact .inl ⟨i, by omega, h⟩
   ·rintro (⟨i, hi, h⟩ | h)
    ·exact ⟨i, by omega, h⟩
    ·exact ⟨n, by omega, h⟩
  rw [advN, advI]
  by_cases hc : (s.nx.getLsbD n && mtc (r.getD n ⟨0, 0⟩) c) = true
  ·rw [if_pos hc]
   rw [Bool.and_eq_true] at hc
   refine ⟨?_, fun j => ?_, ?_⟩
   ·rw [hs]
    simp only [true_iff]
    exact .inr hc
   ·rw [hs]
    simp only [BitVec.getLsbD_or, Bool.or_eq_true]
    rw [h2 j]
    exact or_congr Iff.rfl ⟨fun h => ⟨hc, h⟩, fun h => h.2⟩
   ·rw [hs]
    simp only [Bool.or_eq_true]
    rw [h3]
    exact or_congr Iff.rfl ⟨fun h => ⟨hc, h⟩, fun h => h.2⟩
  ·rw [if_neg hc]
   rw [Bool.and_eq_true] at hc
   refine ⟨?_, fun j => ?_, ?_⟩
   ·rw [hs, h1]; exact ⟨.inl, fun h => h.resolve_right hc⟩
   ·rw [hs, h2 j]; exact ⟨.inl, fun h => h.resolve_right fun h => hc h.1⟩
   ·rw [hs, h3]; exact ⟨.inl, fun h => h.resolve_right fun h => hc h.1⟩
section
variable {sw : Int} {p : Pr} (hp : okP sw p) (h24 : (flat p).length ≤ 24)
include hp h24
theorem ref_b24 : (∀ s c, b24 (refSt p s c).1.nx) ∧ b24 (refS0 p).nx := by
 refine ⟨fun s c j hj => ?_, fun j hj => ?_⟩
 ·rw [refSt, advS] at hj
  obtain ⟨i, hi, _, h⟩ := ((adv_all _ _ _ s c _).2.1 j).1 hj
  rw [List.getD_eq_getElem?_getD, List.getElem?_map, List.getElem?_range hi] at h
  obtain ⟨x, hx, h⟩ := orL_bit.1 h
  have := (fol_pos p 0 i j (by omega) ⟨x, hx, h⟩).2.rng
  omega
 ·have := (fst_pos p 0 j (by omega) hj).rng
  omega
theorem GP_iff : ∀ (w : List Int) (y : Gs), (∀ i, y.nx.getLsbD i = true → Pos 0 p i) →
  (GP (refSt p) y w = true ↔ (w = [] ∧ y.ac = true) ∨ goes (flat p) (fun i => y.nx.getLsbD i = true) (cont 0 p (fun v => v = [])) w)
 | [], y, hy => by
  rw [GP]
  constructor
  ·intro h; exact .inl ⟨rfl, h⟩
  ·rintro (⟨_, h⟩ | ⟨i, c, w', _, h, _⟩)
   ·exact h
   ·cases h
 | c :: w, y, hy => by
  obtain ⟨h1, h2, h3⟩ := adv_all (flat p) ((List.range (flat p).length).map fun i => orL (conL 0 p i)) (ptP 0 p).lst y c (flat p).length
  have hfl : ∀ i, i < (flat p).length → ∀ j, (((List.range (flat p).length).map fun i => orL (conL 0 p i)).getD i 0#32).getLsbD j = true ↔ fol 0 p i j := fun i hi j => by
   rw [List.getD_eq_getElem?_getD, List.getElem?_map, List.getElem?_range hi]
   exact orL_bit
  rw [← advS, show advS (flat p) ((List.range (flat p).length).map fun i => orL (conL 0 p i)) (ptP 0 p).lst y c = refSt p y c from rfl] at h1 h2 h3
  have hpos2 : ∀ j, (refSt p y c).1.nx.getLsbD j = true → Pos 0 p j := fun j hj => by
   obtain ⟨i, hi, _, h⟩ := (h2 j).1 hj
   exact (fol_pos p 0 i j (by omega) ((hfl i hi j).1 h)).2
  have ih := GP_iff w (refSt p y c).1 hpos2
  have hin : ∀ i, y.nx.getLsbD i = true → i < (flat p).length := fun i h => by have := (hy i h).rng; omega
  have hd : (flat p).drop 0 = flat p ++ [] := by simp
  rw [GP, Bool.and_eq_true, ih, h1, h3]
  constructor
  ·rintro ⟨_, ⟨rfl, i, hi, ⟨a1, a2⟩, a3⟩ | ⟨j, c2, w', b1, b2, b3, b4⟩⟩
   ·exact .inr ⟨i, c, [], a1, rfl, a2, (cont_iff (r := flat p) p 0 [] _ i [] hp hd (by omega) (hy i a1)).2 (.inl ⟨a3, rfl⟩)⟩
   ·obtain ⟨i, hi, ⟨a1, a2⟩, a3⟩ := (h2 j).1 b1
    exact .inr ⟨i, c, w, a1, rfl, a2, (cont_iff (r := flat p) p 0 [] _ i w hp hd (by omega) (hy i a1)).2 (.inr ⟨j, c2, w', (hfl i hi j).1 a3, b2, b3, b4⟩)⟩
  ·rintro (⟨h, _⟩ | ⟨i, c2, w2, a1, e, a2, a3⟩)
   ·cases h
   ·injection e with e1 e2
    subst e1
    subst e2
    refine ⟨⟨i, hin i a1, a1, a2⟩, ?_⟩
    rcases (cont_iff (r := flat p) p 0 [] _ i w hp hd (by omega) (hy i a1)).1 a3 with ⟨b1, b2⟩ | ⟨j, c3, w', b1, b2, b3, b4⟩
    ·exact .inl ⟨b2, i, hin i a1, ⟨a1, a2⟩, b1⟩
    ·exact .inr ⟨j, c3, w', (h2 j).2 ⟨i, hin i a1, ⟨a1, a2⟩, (hfl i (hin i a1) j).2 b1⟩, b2, b3, b4⟩
theorem GP_Mt {w : List Int} : GP (refSt p) (refS0 p) w = true ↔ Mt p w := by
 have hd : (flat p).drop 0 = flat p ++ [] := by simp
 rw [GP_iff hp h24 w (refS0 p) (fun i h => fst_pos p 0 i (by omega) h)]
 have hf := first_iff (r := flat p) (sw := sw) p 0 [] (fun v => v = []) w hp hd (by omega)
 rw [refS0]
 simp only
 rw [← hf, emp_iff sw p 0 hp]
 constructor
 ·rintro (⟨rfl, h⟩ | ⟨u, v, rfl, _, h, rfl⟩)
  ·exact h
  ·rw [List.append_nil]; exact h
 ·intro h
  cases w with
  | nil => exact .inl ⟨rfl, h⟩
  | cons c w => exact .inr ⟨c :: w, [], by simp, List.cons_ne_nil _ _, h, rfl⟩
theorem refT_all {m : Nat} (hm : m ≤ 16) (hm1 : 0 < m) :
  okT (gdT (refSt p) m (refS0 p)).next.length m (gdT (refSt p) m (refS0 p)) ∧ (∀ q : Nat, q < (gdT (refSt p) m (refS0 p)).next.length → ∃ l, runA (gdT (refSt p) m (refS0 p)) 0 l = (q : Int)) ∧
  (∀ w, La (gdT (refSt p) m (refS0 p)) 0 w = true ↔ ltrs m w ∧ Mt p w) := by
 obtain ⟨b1, b2⟩ := ref_b24 hp h24
 obtain ⟨h1, h2, h3⟩ := gdT_all b1 b2 hm hm1
 exact ⟨h1, h2, fun w => by rw [h3 w, GP_Mt hp h24]⟩
end
end Go.Proofs.Yticeakkgoafiaaa


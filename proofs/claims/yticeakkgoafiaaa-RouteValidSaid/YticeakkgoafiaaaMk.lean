/-
  Joined by a program from the texts Rpair Rrel Rrel2 Rpair2 Rpair3 Rmt Rmat Rq5 L4.
-/
import Derived.Test.YticeakkgoafiaaaMg
import Derived.Test.YticeakkgoafiaaaMi
/- Chapter 41: the reference's matching: one pair of places. -/
set_option maxRecDepth 100000
set_option maxHeartbeats 4000000
set_option linter.all false
namespace Go.Proofs.Yticeakkgoafiaaa
open Go.Vm
def rowsV (n : Nat) (T : Nat → Nat → Bool) : V := .sl false (tab n fun i => slT n (T i)) n
def nxV (m : Nat) (g : Nat → V) : V := .sl false (tab m g) m
@[simp] theorem bel_rowsV {k n : Nat} {T : Nat → Nat → Bool} : (rowsV n T).bel k = true := by rw [rowsV, bel_sl]; exact belAll_tab fun _ _ => bel_slT
theorem bel_nx {k m : Nat} {g : Nat → V} (hg : ∀ k j, (g j).bel k = true) : belAll k (tab m g) = true := belAll_tab fun j _ => hg k j
theorem bel_nxV {k m : Nat} {g : Nat → V} (hg : ∀ k j, (g j).bel k = true) : (nxV m g).bel k = true := by rw [nxV, bel_sl]; exact bel_nx hg
theorem drop_top {r : List Nd} {a : Nat} {x : Nd} {t : List Nd} (h : r.drop a = x :: t) : a < r.length := (drop_cons h).1
attribute [local push_cast] fmN fm0 take_N toN1 slN_nil encN slN cfg0 gfp_lenN gfd_lenN lfl_lenN slT slI rowsV nxV Nat.mul_one tab_length putV_tab getV_tab getV_tabO getV_tabP getV_tab1 get_mapI get_mapI2 List.length_map ibeq_dec
theorem pair_leaf (r : List Nd) (l : List Int) (m n a i k : Nat) (g : Nat → V) (hg : ∀ k j, (g j).bel k = true) (x : Nd) (t : List Nd) (hx : r.drop a = x :: t) (hop : x.op = 1 ∨ x.op = 2 ∨ x.op = 3)
  (hn : n = l.length + 1) (hi : i < n) (hk : k < n) (hl : l.length ≤ 900) (b : Bool) (hb : b = true ↔ (i ≤ k ∧ Mt (.leaf x) (part l i k))) :
  PC Try.prog 63 [slN r, .int .i64 a, slI l, nxV m g, .int .i64 i, .int .i64 k] (.bool b) := by
 obtain ⟨ha, hX, _⟩ := drop_cons hx
 have hlen : (part l i k).length = k - i := part_len (by omega)
 rcases hop with h | h | h
 ·have e : b = decide ((i : Int) = k) := by
   refine bool_ext hb (decide_eq_true_iff.trans ?_)
   rw [Mt, if_pos h]
   constructor
   ·intro e
    have : i = k := by omega
    subst this
    exact ⟨Nat.le_refl _, part_self⟩
   ·rintro ⟨h1, h2⟩
    rw [h2, List.length_nil] at hlen
    omega
  rw [e]
  refine PC.walk tok mixed cfg0 Try.func63 rfl Try.call63 (by simp [fmN, fm0, bel_nx hg, bel_nxV hg]) (by first | rfl | simp [fmN, fm0, bel_nx hg, bel_nxV hg]) ?_; refine vms1 Try.ntmps63 ?_
  refine vms2 hX h ?_
  refine endK.ret ?_ (by first | rfl | simp [fmN, fm0, bel_nx hg, bel_nxV hg]); simp [evRes, getT, retV, Try.f63]
 ·have e : b = decide ((k : Int) = (i : Int) + 1) := by
   refine bool_ext hb (decide_eq_true_iff.trans ?_)
   rw [Mt, if_neg (by omega), if_pos h]
   constructor
   ·intro e
    exact ⟨by omega, by omega⟩
   ·rintro ⟨h1, h2⟩
    omega
  rw [e]
  refine PC.walk tok mixed cfg0 Try.func63 rfl Try.call63 (by simp [fmN, fm0, bel_nx hg, bel_nxV hg]) (by first | rfl | simp [fmN, fm0, bel_nx hg, bel_nxV hg]) ?_; refine vms1 Try.ntmps63 ?_
  refine vms2 hX h ?_
  refine endK.ret ?_ (by first | rfl | simp [fmN, fm0, bel_nx hg, bel_nxV hg]); simp [evRes, getT, retV, Try.f63]
 ·by_cases hki : (k : Int) = (i : Int) + 1
  ·have hki2 : k = i + 1 := by omega
   subst hki2
   have hil : i < l.length := by omega
   have e : b = decide (l[i] = x.n) := by
    refine bool_ext hb (decide_eq_true_iff.trans ?_)
    rw [Mt, if_neg (by omega), if_neg (by omega), part_one hil, nN, if_pos h]
    constructor
    ·intro e
     exact ⟨by omega, by rw [e]⟩
    ·rintro ⟨_, h2⟩
     injection h2
   rw [e]
   refine PC.walk tok mixed cfg0 Try.func63 rfl Try.call63 (by simp [fmN, fm0, bel_nx hg, bel_nxV hg]) (by first | rfl | simp [fmN, fm0, bel_nx hg, bel_nxV hg]) ?_; refine vms1 Try.ntmps63 ?_
   refine vms4 hX h hki hil ?_
   refine endK.ret ?_ (by first | rfl | simp [fmN, fm0, bel_nx hg, bel_nxV hg]); simp [evRes, getT, retV, Try.f63]
  ·have e : b = false := by
    rw [← Bool.not_eq_true, hb, Mt, if_neg (by omega), if_neg (by omega)]
    rintro ⟨h1, h2⟩
    rw [h2, List.length_singleton] at hlen
    omega
   rw [e]
   refine PC.walk tok mixed cfg0 Try.func63 rfl Try.call63 (by simp [fmN, fm0, bel_nx hg, bel_nxV hg]) (by first | rfl | simp [fmN, fm0, bel_nx hg, bel_nxV hg]) ?_; refine vms1 Try.ntmps63 ?_
   refine vms3 hX h hki ?_
   refine endK.ret ?_ (by first | rfl | simp [fmN, fm0, bel_nx hg, bel_nxV hg]); simp [evRes, getT, retV, Try.f63]
theorem pair_star (r : List Nd) (l : List Int) (m n a i k : Nat) (g : Nat → V) (hg : ∀ k j, (g j).bel k = true) (x : Nd) (t : List Nd) (hx : r.drop a = x :: t) (hop : x.op = 6) (T : Nat → Nat → Bool) (ham : a + 1 < m) (hT : g (a + 1) = rowsV n T)
  (hn : n = l.length + 1) (hi : i < n) (hk : k < n) (hl : l.length ≤ 900) (hr : r.length ≤ 4000000) :
  PC Try.prog 63 [slN r, .int .i64 a, slI l, nxV m g, .int .i64 i, .int .i64 k] (.bool (decide (i = k) || T i k)) := by
 obtain ⟨ha, hX, _⟩ := drop_cons hx
 have e1 : ((a : Int) + 1).toNat = a + 1 := by omega
 by_cases hik : i = k
 ·subst hik
  rw [decide_eq_true rfl, Bool.true_or]
  refine PC.walk tok mixed cfg0 Try.func63 rfl Try.call63 (by simp [fmN, fm0, bel_nx hg, bel_nxV hg]) (by first | rfl | simp [fmN, fm0, bel_nx hg, bel_nxV hg]) ?_; refine vms1 Try.ntmps63 ?_
  refine vms2 hX hop ?_
  refine endK.ret ?_ (by first | rfl | simp [fmN, fm0, bel_nx hg, bel_nxV hg]); simp [evRes, getT, retV, Try.f63]
 ·have hne : ¬ (i : Int) = k := by omega
  rw [decide_eq_false hik, Bool.false_or]
  refine PC.walk tok mixed cfg0 Try.func63 rfl Try.call63 (by simp [fmN, fm0, bel_nx hg, bel_nxV hg]) (by first | rfl | simp [fmN, fm0, bel_nx hg, bel_nxV hg]) ?_; refine vms1 Try.ntmps63 ?_
  simp (maxSteps := 2000000) -implicitDefEqProofs +contextual (disch := first | assumption | omega | decide +kernel) only [push_cast, ↓capI, seval, Nat.reduceLeDiff, Nat.reduceEqDiff, reduceCtorEq, ↓reduceIte, hX, hop, hne, e1, hT]
  (try refine vms1 hT ?_)
  refine endK.ret ?_ (by first | rfl | simp [fmN, fm0, bel_nx hg, bel_nxV hg]); simp [evRes, getT, retV, Try.f63]
end Go.Proofs.Yticeakkgoafiaaa

/- Chapter 41: the reference's matching: the matrix of an expression that is no repetition. -/
set_option maxRecDepth 100000
set_option maxHeartbeats 4000000
set_option linter.all false
namespace Go.Proofs.Yticeakkgoafiaaa
open Go.Vm
def bufR (n j : Nat) : V := .buf (j + 1) 0 0 n 1
def rowO (n : Nat) (R : Nat → Nat → Bool) (j : Nat) : Ob := .cells 0 (tab n fun k => .bool (R j k))
@[simp] theorem bel_bufR {n k m : Nat} (h : k + 1 ≤ m) : belAll m (tab k (bufR n)) = true := belAll_tab fun i _ => by simp [bufR, bel_buf]; omega
@[simp] theorem bel_rowO {n k m : Nat} {R : Nat → Nat → Bool} : belObs m (tab k (rowO n R)) = true := belObs_tabN fun _ _ => bel_tb
@[simp] theorem bel_rowOA {n k m : Nat} {R : Nat → Nat → Bool} {B : List Ob} : belObs m (tab k (rowO n R) ++ B) = belObs m B := belObs_tab fun _ _ => bel_tb
attribute [local push_cast] fmN fm0 take_N toN1 slN_nil encN slN cfg0 gfp_lenN gfd_lenN lfl_lenN slT slI nxV Nat.mul_one tab_length putV_tab getV_tab getV_tabO getV_tabP getV_tab1 get_mapI get_mapI2 List.length_map ibeq_dec place_tabN place_tab0 place_tabK getO_tab getO_tab0 getO_tabK getO_tabN setO_tab setO_tab0 setO_tabK setO_tabN
theorem rel_plain (r : List Nd) (l : List Int) (m n a : Nat) (g : Nat → V) (hg : ∀ k j, (g j).bel k = true) (x : Nd) (t : List Nd) (hx : r.drop a = x :: t) (hop : ¬ x.op = 6) (R : Nat → Nat → Bool) (hn : n = l.length + 1) (hl : l.length ≤ 900)
  (hp : ∀ i k, i < n → k < n → PC Try.prog 63 [slN r, .int .i64 a, slI l, nxV m g, .int .i64 i, .int .i64 k] (.bool (R i k))) :
  PCJ Try.prog 47 [slN r, .int .i64 a, slI l, nxV m g] (.buf 0 n 0 n 1) (.cells n (tab n (bufR n)) :: tab n (rowO n R)) := by
 obtain ⟨ha, hX, _⟩ := drop_cons hx
 have hn2 : (l.length : Int) + 1 = n := by omega
 refine PCJ.walk tok mixed cfg0 Try.func47 rfl Try.call47 (by simp [fmN, fm0, bel_nx hg, bel_nxV hg, tab_length]) ?_; refine vms1 Try.ntmps47 ?_
 refine vms1 hn2 ?_
 refine T.lp tok mixed cfg0 (fun (i : Nat) => kp 4 (dd 5 (kp 1 (sv (.buf 0 i 0 i 1) (sv (.int .i64 i) (dd 88 (nl))))))) (fun H0 (i : Nat) => .cells i (tab i (bufR n)) :: tab i (rowO n R)) (fun (i : Nat) => i ≤ n) (fun (i : Nat) => n - i) (0) ?_ ?_ ?_
 ·exact Nat.zero_le _
 ·refine (Gn.ownNil (t := 10) (sz := 1) rfl).trans ?_
  exact Gn.canon (J := []) (by first | rfl | (simp [slT, tab_length, rep_tab]; done) | (simp [slT, tab_length, rep_tab]; rfl)) (by simp [wk, slN, slT, slI, nxV, putT, kp, dd, sv, nl]) (by simp [tab_length]) (by simp [fmN, fm0, bel_nx hg, bel_nxV hg, tab_length, kp, dd, sv, nl]) (by simp [fmN, fm0, bel_nx hg, bel_nxV hg, tab_length])
 intro i hi
 by_cases hlt : i < n
 ·simp (maxSteps := 2000000) -implicitDefEqProofs +contextual (disch := first | assumption | omega | decide +kernel) only [push_cast, ↓capI, seval, Nat.reduceLeDiff, Nat.reduceEqDiff, reduceCtorEq, ↓reduceIte, hlt, rep_tab, List.length_cons]
  refine T.lp tok mixed cfg0 (fun (k : Nat) => kp 4 (dd 5 (kp 4 (sv (.int .i64 k) (dd 86 (nl)))))) (fun H0 (k : Nat) => .cells i (tab i (bufR n)) :: (tab i (rowO n R) ++ [.cells 0 (tab n fun k' => .bool (decide (k' < k) && R i k'))])) (fun (k : Nat) => k ≤ n) (fun (k : Nat) => n - k) (0) ?_ ?_ ?_
  ·exact Nat.zero_le _
  ·rw [cell_zero]
   exact Gn.canon (J := []) (by first | rfl | (simp [slT, tab_length, rep_tab]; done) | (simp [slT, tab_length, rep_tab]; rfl)) (by simp [wk, slN, slT, slI, nxV, putT, kp, dd, sv, nl]) (by simp [tab_length]) (by simp [fmN, fm0, bel_nx hg, bel_nxV hg, tab_length, kp, dd, sv, nl]) (by simp [fmN, fm0, bel_nx hg, bel_nxV hg, tab_length])
  intro k hk
  by_cases hlk : k < n
  ·refine vms2 hlt hlk ?_
   refine callO.pc (hp i k hlt hlk) ?_
   refine vms2 hlt hlk ?_
   refine ⟨k + 1, hlk, by (try simp only); omega, ?_⟩
   refine Gn.canon (J := []) ?_ (by simp [wk, slN, slT, slI, nxV]) (by simp [tab_length]) (by simp [fmN, fm0, bel_nx hg, bel_nxV hg, tab_length]) (by simp [fmN, fm0, bel_nx hg, bel_nxV hg, tab_length])
   rw [List.append_nil, cell_step (h := R i) rfl]
  ·have hke : k = n := by omega
   subst hke
   rw [cell_end]
   refine vms1 hlk ?_
   refine ⟨i + 1, hlt, by (try simp only); omega, ?_⟩
   refine Gn.canon (J := []) ?_ (by simp [wk, slN, slT, slI, nxV]) (by simp [tab_length]) (by simp [fmN, fm0, bel_nx hg, bel_nxV hg, tab_length]) (by simp [fmN, fm0, bel_nx hg, bel_nxV hg, tab_length])
   simp [tab_succ, bufR, rowO]
 ·have hie : i = n := by omega
  subst hie
  refine vms3 hlt hX hop ?_
  refine endJ.ret ([]) (by simp [fmN, fm0, bel_nx hg, bel_nxV hg, tab_length, fzs_ok, getO, setO, fzs, fz, fzH, Nat.beq, fmN, fm0, take_N, toN1, slN_nil, encN, slN, cfg0, get_flat_part lenN, get_flat_drop lenN, len_flat lenN, slT, slI, nxV, Nat.mul_one, tab_length, putV_tab, getV_tab, getV_tabO, getV_tabP, getV_tab1, get_mapI, get_mapI2, List.length_map, ibeq_dec, place_tabN, place_tab0, place_tabK, getO_tab, getO_tab0, getO_tabK, getO_tabN, setO_tab, setO_tab0, setO_tabK, setO_tabN, tab_length]) (by simp [fmN, fm0, bel_nx hg, bel_nxV hg, tab_length, fzs_ok, imp, lenOK_iff, List.take_of_length_le, evRes, getT, getO, setO, fzs, fz, fzH, Nat.beq, retV, Res.then, ldT, ldR, mkV, getV, fmN, fm0, take_N, toN1, slN_nil, encN, slN, cfg0, get_flat_part lenN, get_flat_drop lenN, len_flat lenN, slT, slI, nxV, Nat.mul_one, tab_length, putV_tab, getV_tab, getV_tabO, getV_tabP, getV_tab1, get_mapI, get_mapI2, List.length_map, ibeq_dec, place_tabN, place_tab0, place_tabK, getO_tab, getO_tab0, getO_tabK, getO_tabN, setO_tab, setO_tab0, setO_tabK, setO_tabN, Try.f47, tab_length]) (by first | rfl | simp [fmN, fm0, bel_nx hg, bel_nxV hg, tab_length, tab_length]) (by first | rfl | simp [fmN, fm0, bel_nx hg, bel_nxV hg, tab_length, tab_length])
end Go.Proofs.Yticeakkgoafiaaa

/- Chapter 41: the reference's matching: the matrix of a repetition. -/
set_option maxRecDepth 100000
set_option maxHeartbeats 4000000
set_option linter.all false
namespace Go.Proofs.Yticeakkgoafiaaa
open Go.Vm
def Wst (R : Nat → Nat → Bool) (m i k : Nat) : Bool := R i k || R i m && R m k
def Wit (R : Nat → Nat → Bool) : Nat → Nat → Nat → Bool
 | 0 => R
 | m + 1 => Wst (Wit R m) m
def Wmid (M : Nat → Nat → Bool) (b c d j k : Nat) : Bool := if j < c ∨ (j = c ∧ k < d) then Wst M b j k else M j k
theorem mid1 {M : Nat → Nat → Bool} {b c d : Nat} : Wmid M b c d c d = M c d := by rw [Wmid, if_neg (by omega)]
theorem Wst_col {M : Nat → Nat → Bool} {b j : Nat} : Wst M b j b = M j b := by rw [Wst]; cases M j b <;> rfl
theorem Wst_row {M : Nat → Nat → Bool} {b k : Nat} : Wst M b b k = M b k := by rw [Wst]; cases M b k <;> cases M b b <;> rfl
theorem mid2 {M : Nat → Nat → Bool} {b c d : Nat} : Wmid M b c d c b = M c b := by
 rw [Wmid]
 split
 ·exact Wst_col
 ·rfl
theorem mid3 {M : Nat → Nat → Bool} {b c d : Nat} : Wmid M b c d b d = M b d := by
 rw [Wmid]
 split
 ·exact Wst_row
 ·rfl
theorem mid_zero {M : Nat → Nat → Bool} {b n : Nat} : tab n (rowO n M) = tab n (rowO n (Wmid M b 0 0)) := by
 refine tab_ext fun j _ => ?_
 unfold rowO
 refine congrArg (Ob.cells 0) (tab_ext fun k _ => ?_)
 rw [Wmid, if_neg (by omega)]
theorem mid_next {M : Nat → Nat → Bool} {b c n : Nat} : tab n (rowO n (Wmid M b c n)) = tab n (rowO n (Wmid M b (c + 1) 0)) := by
 refine tab_ext fun j _ => ?_
 unfold rowO
 refine congrArg (Ob.cells 0) (tab_ext fun k hk => ?_)
 rw [Wmid, Wmid]
 by_cases h : j < c ∨ j = c
 ·rw [if_pos (by omega), if_pos (by omega)]
 ·rw [if_neg (by omega), if_neg (by omega)]
theorem mid_end {M : Nat → Nat → Bool} {b n : Nat} : tab n (rowO n (Wmid M b n 0)) = tab n (rowO n (Wst M b)) := by
 refine tab_ext fun j hj => ?_
 unfold rowO
 refine congrArg (Ob.cells 0) (tab_ext fun k hk => ?_)
 rw [Wmid, if_pos (by omega)]
theorem mid_step {M : Nat → Nat → Bool} {b c d n : Nat} {v : Bool} (hv : v = Wst M b c d) :
  (tab n fun j => if j = c then Ob.cells 0 (tab n fun k => if k = d then V.bool v else V.bool (Wmid M b c d c k)) else rowO n (Wmid M b c d) j) = tab n (rowO n (Wmid M b c (d + 1))) := by
 refine tab_ext fun j _ => ?_
 by_cases hj : j = c
 ·rw [if_pos hj, hj]
  unfold rowO
  refine congrArg (Ob.cells 0) (tab_ext fun k _ => ?_)
  by_cases hk : k = d
  ·rw [if_pos hk, hk, hv, Wmid, if_pos (by omega)]
  ·rw [if_neg hk, Wmid, Wmid]
   by_cases h : k < d
   ·rw [if_pos (by omega), if_pos (by omega)]
   ·rw [if_neg (by omega), if_neg (by omega)]
 ·rw [if_neg hj]
  unfold rowO
  refine congrArg (Ob.cells 0) (tab_ext fun k _ => ?_)
  rw [Wmid, Wmid]
  by_cases h : j < c
  ·rw [if_pos (by omega), if_pos (by omega)]
  ·rw [if_neg (by omega), if_neg (by omega)]
attribute [local push_cast] fmN fm0 take_N toN1 slN_nil encN slN cfg0 gfp_lenN gfd_lenN lfl_lenN slT slI nxV Nat.mul_one tab_length putV_tab getV_tab getV_tabO getV_tabP getV_tab1 get_mapI get_mapI2 List.length_map ibeq_dec place_tabN place_tab0 place_tabK getO_tab getO_tab0 getO_tabK getO_tabN setO_tab setO_tab0 setO_tabK setO_tabN
theorem rel_star (r : List Nd) (l : List Int) (m n a : Nat) (g : Nat → V) (hg : ∀ k j, (g j).bel k = true) (x : Nd) (t : List Nd) (hx : r.drop a = x :: t) (hop : x.op = 6) (R : Nat → Nat → Bool) (hn : n = l.length + 1) (hl : l.length ≤ 900)
  (hp : ∀ i k, i < n → k < n → PC Try.prog 63 [slN r, .int .i64 a, slI l, nxV m g, .int .i64 i, .int .i64 k] (.bool (R i k))) :
  PCJ Try.prog 47 [slN r, .int .i64 a, slI l, nxV m g] (.buf 0 n 0 n 1) (.cells n (tab n (bufR n)) :: tab n (rowO n (Wit R n))) := by
 obtain ⟨ha, hX, _⟩ := drop_cons hx
 have hn2 : (l.length : Int) + 1 = n := by omega
 refine PCJ.walk tok mixed cfg0 Try.func47 rfl Try.call47 (by simp [fmN, fm0, bel_nx hg, bel_nxV hg, tab_length]) ?_; refine vms1 Try.ntmps47 ?_
 refine vms1 hn2 ?_
 refine T.lp tok mixed cfg0 (fun (i : Nat) => kp 4 (dd 5 (kp 1 (sv (.buf 0 i 0 i 1) (sv (.int .i64 i) (dd 88 (nl))))))) (fun H0 (i : Nat) => .cells i (tab i (bufR n)) :: tab i (rowO n R)) (fun (i : Nat) => i ≤ n) (fun (i : Nat) => n - i) (0) ?_ ?_ ?_
 ·exact Nat.zero_le _
 ·refine (Gn.ownNil (t := 10) (sz := 1) rfl).trans ?_
  exact Gn.canon (J := []) (by first | rfl | (simp [slT, tab_length, rep_tab]; done) | (simp [slT, tab_length, rep_tab]; rfl)) (by simp [wk, slN, slT, slI, nxV, putT, kp, dd, sv, nl]) (by simp [tab_length]) (by simp [fmN, fm0, bel_nx hg, bel_nxV hg, tab_length, kp, dd, sv, nl]) (by simp [fmN, fm0, bel_nx hg, bel_nxV hg, tab_length])
 intro i hi
 by_cases hlt : i < n
 ·simp (maxSteps := 2000000) -implicitDefEqProofs +contextual (disch := first | assumption | omega | decide +kernel) only [push_cast, ↓capI, seval, Nat.reduceLeDiff, Nat.reduceEqDiff, reduceCtorEq, ↓reduceIte, hlt, rep_tab, List.length_cons]
  refine T.lp tok mixed cfg0 (fun (k : Nat) => kp 4 (dd 5 (kp 4 (sv (.int .i64 k) (dd 86 (nl)))))) (fun H0 (k : Nat) => .cells i (tab i (bufR n)) :: (tab i (rowO n R) ++ [.cells 0 (tab n fun k' => .bool (decide (k' < k) && R i k'))])) (fun (k : Nat) => k ≤ n) (fun (k : Nat) => n - k) (0) ?_ ?_ ?_
  ·exact Nat.zero_le _
  ·rw [cell_zero]
   exact Gn.canon (J := []) (by first | rfl | (simp [slT, tab_length, rep_tab]; done) | (simp [slT, tab_length, rep_tab]; rfl)) (by simp [wk, slN, slT, slI, nxV, putT, kp, dd, sv, nl]) (by simp [tab_length]) (by simp [fmN, fm0, bel_nx hg, bel_nxV hg, tab_length, kp, dd, sv, nl]) (by simp [fmN, fm0, bel_nx hg, bel_nxV hg, tab_length])
  intro k hk
  by_cases hlk : k < n
  ·refine vms2 hlt hlk ?_
   refine callO.pc (hp i k hlt hlk) ?_
   refine vms2 hlt hlk ?_
   refine ⟨k + 1, hlk, by (try simp only); omega, ?_⟩
   refine Gn.canon (J := []) ?_ (by simp [wk, slN, slT, slI, nxV]) (by simp [tab_length]) (by simp [fmN, fm0, bel_nx hg, bel_nxV hg, tab_length]) (by simp [fmN, fm0, bel_nx hg, bel_nxV hg, tab_length])
   rw [List.append_nil, cell_step (h := R i) rfl]
  ·have hke : k = n := by omega
   subst hke
   rw [cell_end]
   refine vms1 hlk ?_
   refine ⟨i + 1, hlt, by (try simp only); omega, ?_⟩
   refine Gn.canon (J := []) ?_ (by simp [wk, slN, slT, slI, nxV]) (by simp [tab_length]) (by simp [fmN, fm0, bel_nx hg, bel_nxV hg, tab_length]) (by simp [fmN, fm0, bel_nx hg, bel_nxV hg, tab_length])
   simp [tab_succ, bufR, rowO]
 ·have hie : i = n := by omega
  subst hie
  clear hi
  refine vms3 hlt hX hop ?_
  refine T.lp tok mixed cfg0 (fun (b : Nat) => dd 9 (kp 2 (dd 3 (sv (.int .i64 b) (dd 85 (nl)))))) (fun H0 (b : Nat) => .cells i (tab i (bufR i)) :: tab i (rowO i (Wit R b))) (fun (b : Nat) => b ≤ i) (fun (b : Nat) => i - b) (0) ?_ ?_ ?_
  ·exact Nat.zero_le _
  ·exact Gn.canon (J := []) (by first | rfl | (simp [slT, tab_length, rep_tab]; done) | (simp [slT, tab_length, rep_tab]; rfl)) (by simp [wk, slN, slT, slI, nxV, putT, kp, dd, sv, nl]) (by simp [tab_length]) (by simp [fmN, fm0, bel_nx hg, bel_nxV hg, tab_length, kp, dd, sv, nl]) (by simp [fmN, fm0, bel_nx hg, bel_nxV hg, tab_length])
  intro b hb
  by_cases hlb : b < i
  case neg =>
   have hbe : b = i := by omega
   subst hbe
   refine vms1 hlb ?_
   refine endJ.ret ([]) (by simp [fmN, fm0, bel_nx hg, bel_nxV hg, tab_length, fzs_ok, getO, setO, fzs, fz, fzH, Nat.beq, fmN, fm0, take_N, toN1, slN_nil, encN, slN, cfg0, get_flat_part lenN, get_flat_drop lenN, len_flat lenN, slT, slI, nxV, Nat.mul_one, tab_length, putV_tab, getV_tab, getV_tabO, getV_tabP, getV_tab1, get_mapI, get_mapI2, List.length_map, ibeq_dec, place_tabN, place_tab0, place_tabK, getO_tab, getO_tab0, getO_tabK, getO_tabN, setO_tab, setO_tab0, setO_tabK, setO_tabN, tab_length]) (by simp [fmN, fm0, bel_nx hg, bel_nxV hg, tab_length, fzs_ok, imp, lenOK_iff, List.take_of_length_le, evRes, getT, getO, setO, fzs, fz, fzH, Nat.beq, retV, Res.then, ldT, ldR, mkV, getV, fmN, fm0, take_N, toN1, slN_nil, encN, slN, cfg0, get_flat_part lenN, get_flat_drop lenN, len_flat lenN, slT, slI, nxV, Nat.mul_one, tab_length, putV_tab, getV_tab, getV_tabO, getV_tabP, getV_tab1, get_mapI, get_mapI2, List.length_map, ibeq_dec, place_tabN, place_tab0, place_tabK, getO_tab, getO_tab0, getO_tabK, getO_tabN, setO_tab, setO_tab0, setO_tabK, setO_tabN, Try.f47, tab_length]) (by first | rfl | simp [fmN, fm0, bel_nx hg, bel_nxV hg, tab_length, tab_length]) (by first | rfl | simp [fmN, fm0, bel_nx hg, bel_nxV hg, tab_length, tab_length])
  refine vms1 hlb ?_
  generalize hM : Wit R b = M
  refine T.lp tok mixed cfg0 (fun (c : Nat) => dd 9 (kp 2 (dd 3 (kp 1 (sv (.int .i64 c) (dd 84 (nl))))))) (fun H0 (c : Nat) => .cells i (tab i (bufR i)) :: tab i (rowO i (Wmid M b c 0))) (fun (c : Nat) => c ≤ i) (fun (c : Nat) => i - c) (0) ?_ ?_ ?_
  ·exact Nat.zero_le _
  ·rw [mid_zero (b := b)]
   exact Gn.canon (J := []) (by first | rfl | (simp [slT, tab_length, rep_tab]; done) | (simp [slT, tab_length, rep_tab]; rfl)) (by simp [wk, slN, slT, slI, nxV, putT, kp, dd, sv, nl]) (by simp [tab_length]) (by simp [fmN, fm0, bel_nx hg, bel_nxV hg, tab_length, kp, dd, sv, nl]) (by simp [fmN, fm0, bel_nx hg, bel_nxV hg, tab_length])
  intro c hc
  by_cases hlc : c < i
  case neg =>
   have hce : c = i := by omega
   subst hce
   refine vms1 hlc ?_
   refine ⟨b + 1, hlb, by (try simp only); omega, ?_⟩
   refine Gn.canon (J := []) ?_ (by simp [wk, slN, slT, slI, nxV]) (by simp [tab_length]) (by simp [fmN, fm0, bel_nx hg, bel_nxV hg, tab_length]) (by simp [fmN, fm0, bel_nx hg, bel_nxV hg, tab_length])
   rw [List.append_nil, mid_end, ← hM]
   rfl
  refine vms1 hlc ?_
  refine T.lp tok mixed cfg0 (fun (d : Nat) => dd 9 (kp 2 (dd 3 (kp 2 (sv (.int .i64 d) (dd 83 (nl))))))) (fun H0 (d : Nat) => .cells i (tab i (bufR i)) :: tab i (rowO i (Wmid M b c d))) (fun (d : Nat) => d ≤ i) (fun (d : Nat) => i - d) (0) ?_ ?_ ?_
  ·exact Nat.zero_le _
  ·exact Gn.canon (J := []) (by first | rfl | (simp [slT, tab_length, rep_tab]; done) | (simp [slT, tab_length, rep_tab]; rfl)) (by simp [wk, slN, slT, slI, nxV, putT, kp, dd, sv, nl]) (by simp [tab_length]) (by simp [fmN, fm0, bel_nx hg, bel_nxV hg, tab_length, kp, dd, sv, nl]) (by simp [fmN, fm0, bel_nx hg, bel_nxV hg, tab_length])
  intro d hd
  by_cases hld : d < i
  case neg =>
   have hde : d = i := by omega
   subst hde
   rw [mid_next]
   refine vms1 hld ?_
   refine ⟨c + 1, hlc, by (try simp only); omega, ?_⟩
   refine Gn.canon (J := []) ?_ (by simp [wk, slN, slT, slI, nxV]) (by simp [tab_length]) (by simp [fmN, fm0, bel_nx hg, bel_nxV hg, tab_length]) (by simp [fmN, fm0, bel_nx hg, bel_nxV hg, tab_length])
   rw [List.append_nil]
  have w1 := @mid1 M b c d
  have w2 := @mid2 M b c d
  have w3 := @mid3 M b c d
  have wv : Wst M b c d = (M c d || M c b && M b d) := rfl
  cases h1 : M c d
  case true =>
   rw [h1] at w1 wv
   simp (maxSteps := 2000000) -implicitDefEqProofs +contextual (disch := first | assumption | omega | decide +kernel) only [push_cast, ↓capI, seval, Nat.reduceLeDiff, Nat.reduceEqDiff, reduceCtorEq, ↓reduceIte, hld, hlc, hlb, bufR, rowO, w1, w2, w3]
   refine ⟨d + 1, hld, by (try simp only); omega, ?_⟩
   refine Gn.canon (J := []) ?_ (by simp [wk, slN, slT, slI, nxV]) (by simp [tab_length]) (by simp [fmN, fm0, bel_nx hg, bel_nxV hg, tab_length]) (by simp [fmN, fm0, bel_nx hg, bel_nxV hg, tab_length])
   rw [List.append_nil]
   exact congrArg (Ob.cells i (tab i (bufR i)) :: ·) (mid_step (by rw [wv]; rfl))
  cases h2 : M c b
  case false =>
   rw [h1] at w1 wv
   rw [h2] at w2 wv
   simp (maxSteps := 2000000) -implicitDefEqProofs +contextual (disch := first | assumption | omega | decide +kernel) only [push_cast, ↓capI, seval, Nat.reduceLeDiff, Nat.reduceEqDiff, reduceCtorEq, ↓reduceIte, hld, hlc, hlb, bufR, rowO, w1, w2, w3]
   refine ⟨d + 1, hld, by (try simp only); omega, ?_⟩
   refine Gn.canon (J := []) ?_ (by simp [wk, slN, slT, slI, nxV]) (by simp [tab_length]) (by simp [fmN, fm0, bel_nx hg, bel_nxV hg, tab_length]) (by simp [fmN, fm0, bel_nx hg, bel_nxV hg, tab_length])
   rw [List.append_nil]
   exact congrArg (Ob.cells i (tab i (bufR i)) :: ·) (mid_step (by rw [wv]; rfl))
  rw [h1] at w1 wv
  rw [h2] at w2 wv
  simp (maxSteps := 2000000) -implicitDefEqProofs +contextual (disch := first | assumption | omega | decide +kernel) only [push_cast, ↓capI, seval, Nat.reduceLeDiff, Nat.reduceEqDiff, reduceCtorEq, ↓reduceIte, hld, hlc, hlb, bufR, rowO, w1, w2, w3]
  refine ⟨d + 1, hld, by (try simp only); omega, ?_⟩
  refine Gn.canon (J := []) ?_ (by simp [wk, slN, slT, slI, nxV]) (by simp [tab_length]) (by simp [fmN, fm0, bel_nx hg, bel_nxV hg, tab_length]) (by simp [fmN, fm0, bel_nx hg, bel_nxV hg, tab_length])
  rw [List.append_nil]
  exact congrArg (Ob.cells i (tab i (bufR i)) :: ·) (mid_step (by rw [wv]; rfl))
end Go.Proofs.Yticeakkgoafiaaa

/- Chapter 41: the reference's matching: one pair of places: alternatives and concatenations. -/
set_option maxRecDepth 100000
set_option maxHeartbeats 4000000
set_option linter.all false
namespace Go.Proofs.Yticeakkgoafiaaa
open Go.Vm
attribute [local push_cast] fmN fm0 take_N toN1 slN_nil encN slN cfg0 gfp_lenN gfd_lenN lfl_lenN slT slI rowsV nxV Nat.mul_one tab_length putV_tab getV_tab getV_tabO getV_tabP getV_tab1 get_mapI get_mapI2 List.length_map ibeq_dec
theorem pair_alt (r : List Nd) (l : List Int) (m n a i k : Nat) (g : Nat → V) (hg : ∀ k j, (g j).bel k = true) (x : Nd) (p q : Pr) (t : List Nd) (hp : okP 1000000000 p) (hx : r.drop a = flat (.bin x p q) ++ t) (hop : x.op = 5) (T U : Nat → Nat → Bool) (ham : a + 1 + (flat p).length < m) (hT : g (a + 1) = rowsV n T)
  (hU : g (a + 1 + (flat p).length) = rowsV n U) (hi : i < n) (hk : k < n) (hr : r.length ≤ 4000000) :
  PC Try.prog 63 [slN r, .int .i64 a, slI l, nxV m g, .int .i64 i, .int .i64 k] (.bool (T i k || U i k)) := by
 obtain ⟨ha, hX, h2⟩ := drop_cons (x := x) (r := flat p ++ (flat q ++ t)) (by rw [hx, flat, List.cons_append, List.append_assoc])
 have i3 := end40 p r (a + 1) _ hp h2 ha hr
 rw [show ((a + 1 : Nat) : Int) = a + 1 from rfl] at i3
 have hlr := drop_len ha h2
 have e1 : ((a : Int) + 1).toNat = a + 1 := by omega
 have e2 : ((a : Int) + 1 + (flat p).length).toNat = a + 1 + (flat p).length := by omega
 cases hb : T i k
 ·rw [Bool.false_or]
  refine PC.walk tok mixed cfg0 Try.func63 rfl Try.call63 (by simp [fmN, fm0, bel_nx hg, bel_nxV hg]) (by first | rfl | simp [fmN, fm0, bel_nx hg, bel_nxV hg]) ?_; refine vms1 Try.ntmps63 ?_
  simp (maxSteps := 2000000) -implicitDefEqProofs +contextual (disch := first | assumption | omega | decide +kernel) only [push_cast, ↓capI, seval, Nat.reduceLeDiff, Nat.reduceEqDiff, reduceCtorEq, ↓reduceIte, hX, hop, e1, hT, hb]
  (try refine vms2 hT hb ?_)
  first | refine callO.pc i3 ?_ | refine callG.pc1 i3 ?_ | trace_state
  simp (maxSteps := 2000000) -implicitDefEqProofs +contextual (disch := first | assumption | omega | decide +kernel) only [push_cast, ↓capI, seval, Nat.reduceLeDiff, Nat.reduceEqDiff, reduceCtorEq, ↓reduceIte, e2, hU]
  (try refine vms1 hU ?_)
  refine endK.ret ?_ (by first | rfl | simp [fmN, fm0, bel_nx hg, bel_nxV hg]); simp [evRes, getT, retV, Try.f63]
 ·rw [Bool.true_or]
  refine PC.walk tok mixed cfg0 Try.func63 rfl Try.call63 (by simp [fmN, fm0, bel_nx hg, bel_nxV hg]) (by first | rfl | simp [fmN, fm0, bel_nx hg, bel_nxV hg]) ?_; refine vms1 Try.ntmps63 ?_
  simp (maxSteps := 2000000) -implicitDefEqProofs +contextual (disch := first | assumption | omega | decide +kernel) only [push_cast, ↓capI, seval, Nat.reduceLeDiff, Nat.reduceEqDiff, reduceCtorEq, ↓reduceIte, hX, hop, e1, hT, hb]
  (try refine vms2 hT hb ?_)
  refine endK.ret ?_ (by first | rfl | simp [fmN, fm0, bel_nx hg, bel_nxV hg]); simp [evRes, getT, retV, Try.f63]
end Go.Proofs.Yticeakkgoafiaaa

/- Chapter 41: the reference's matching: one pair of places: concatenations. -/
set_option maxRecDepth 100000
set_option maxHeartbeats 4000000
set_option linter.all false
namespace Go.Proofs.Yticeakkgoafiaaa
open Go.Vm
attribute [local push_cast] fmN fm0 take_N toN1 slN_nil encN slN cfg0 gfp_lenN gfd_lenN lfl_lenN slT slI rowsV nxV Nat.mul_one tab_length putV_tab getV_tab getV_tabO getV_tabP getV_tab1 get_mapI get_mapI2 List.length_map ibeq_dec
theorem pair_cat (r : List Nd) (l : List Int) (m n a i k : Nat) (g : Nat → V) (hg : ∀ k j, (g j).bel k = true) (x : Nd) (p q : Pr) (t : List Nd) (hp : okP 1000000000 p) (hx : r.drop a = flat (.bin x p q) ++ t) (hop : x.op = 4) (M1 M2 : Nat → Nat → Bool) (ham : a + 1 + (flat p).length < m) (hT : g (a + 1) = rowsV n M1)
  (hU : g (a + 1 + (flat p).length) = rowsV n M2) (hi : i < n) (hk : k < n) (hn : n ≤ 1000) (hr : r.length ≤ 4000000) (b : Bool) (hb : b = true ↔ ∃ j, i ≤ j ∧ j ≤ k ∧ M1 i j = true ∧ M2 j k = true) :
  PC Try.prog 63 [slN r, .int .i64 a, slI l, nxV m g, .int .i64 i, .int .i64 k] (.bool b) := by
 obtain ⟨ha, hX, h2⟩ := drop_cons (x := x) (r := flat p ++ (flat q ++ t)) (by rw [hx, flat, List.cons_append, List.append_assoc])
 have i3 := end40 p r (a + 1) _ hp h2 ha hr
 rw [show ((a + 1 : Nat) : Int) = a + 1 from rfl] at i3
 have hlr := drop_len ha h2
 have e1 : ((a : Int) + 1).toNat = a + 1 := by omega
 have e2 : ((a : Int) + 1 + (flat p).length).toNat = a + 1 + (flat p).length := by omega
 refine PC.walk tok mixed cfg0 Try.func63 rfl Try.call63 (by simp [fmN, fm0, bel_nx hg, bel_nxV hg]) (by first | rfl | simp [fmN, fm0, bel_nx hg, bel_nxV hg]) ?_; refine vms1 Try.ntmps63 ?_
 refine vms2 hX hop ?_
 refine T.lp tok mixed cfg0 (fun (j : Nat) => kp 2 (dd 1 (kp 3 (dd 7 (sv (.int .i64 j) (dd 112 (nl))))))) (fun H0 (j : Nat) => []) (fun (j : Nat) => i ≤ j ∧ ∀ j', i ≤ j' → j' < j → j' ≤ k → ¬ (M1 i j' = true ∧ M2 j' k = true)) (fun (j : Nat) => k + 1 - j) (i) ?_ ?_ ?_
 ·exact ⟨Nat.le_refl _, fun j' h1 h2 => absurd h2 (by omega)⟩
 ·exact Gn.canon (J := []) (by first | rfl | (simp [slT, tab_length, rep_tab]; done) | (simp [slT, tab_length, rep_tab]; rfl)) (by simp [wk, slN, slT, slI, rowsV, nxV, putT, kp, dd, sv, nl]) (by simp [tab_length]) (by simp [fmN, fm0, bel_nx hg, bel_nxV hg, kp, dd, sv, nl]) (by simp [fmN, fm0, bel_nx hg, bel_nxV hg])
 rintro j ⟨hij, hno⟩
 by_cases hjk : j ≤ k
 case neg =>
  have e : b = false := by
   rw [← Bool.not_eq_true, hb]
   rintro ⟨j', h1, h2, h3⟩
   exact hno j' h1 (by omega) h2 h3
  rw [e]
  refine vms1 hjk ?_
  refine endK.ret ?_ (by first | rfl | simp [fmN, fm0, bel_nx hg, bel_nxV hg]); simp [evRes, getT, retV, Try.f63]
 have hjn : j < n := by omega
 cases h1 : M1 i j
 ·simp (maxSteps := 2000000) -implicitDefEqProofs +contextual (disch := first | assumption | omega | decide +kernel) only [push_cast, ↓capI, seval, Nat.reduceLeDiff, Nat.reduceEqDiff, reduceCtorEq, ↓reduceIte, hjk, e1, hT, h1]
  (try refine vms2 hT h1 ?_)
  refine ⟨j + 1, ⟨by omega, fun j' g1 g2 g3 => by rcases Nat.lt_succ_iff_lt_or_eq.1 g2 with h | h; exact hno j' g1 h g3; rw [h, h1]; simp⟩, by (try simp only); omega, ?_⟩; exact Gn.canon (by first | rfl | (simp [slT, tab_length, rep_tab]; rfl)) (by simp [wk, slN, slT, slI, rowsV, nxV]) (by simp [tab_length]) (by simp [fmN, fm0, bel_nx hg, bel_nxV hg]) (by simp [fmN, fm0, bel_nx hg, bel_nxV hg])
 cases hu : M2 j k
 ·simp (maxSteps := 2000000) -implicitDefEqProofs +contextual (disch := first | assumption | omega | decide +kernel) only [push_cast, ↓capI, seval, Nat.reduceLeDiff, Nat.reduceEqDiff, reduceCtorEq, ↓reduceIte, hjk, e1, hT, h1]
  (try refine vms2 hT h1 ?_)
  first | refine callO.pc i3 ?_ | refine callG.pc1 i3 ?_ | trace_state
  simp (maxSteps := 2000000) -implicitDefEqProofs +contextual (disch := first | assumption | omega | decide +kernel) only [push_cast, ↓capI, seval, Nat.reduceLeDiff, Nat.reduceEqDiff, reduceCtorEq, ↓reduceIte, e2, hU, hu]
  (try refine vms2 hU hu ?_)
  refine ⟨j + 1, ⟨by omega, fun j' g1 g2 g3 => by rcases Nat.lt_succ_iff_lt_or_eq.1 g2 with h | h; exact hno j' g1 h g3; rw [h, hu]; simp⟩, by (try simp only); omega, ?_⟩; exact Gn.canon (by first | rfl | (simp [slT, tab_length, rep_tab]; rfl)) (by simp [wk, slN, slT, slI, rowsV, nxV]) (by simp [tab_length]) (by simp [fmN, fm0, bel_nx hg, bel_nxV hg]) (by simp [fmN, fm0, bel_nx hg, bel_nxV hg])
 ·have e : b = true := hb.2 ⟨j, hij, hjk, h1, hu⟩
  rw [e]
  simp (maxSteps := 2000000) -implicitDefEqProofs +contextual (disch := first | assumption | omega | decide +kernel) only [push_cast, ↓capI, seval, Nat.reduceLeDiff, Nat.reduceEqDiff, reduceCtorEq, ↓reduceIte, hjk, e1, hT, h1]
  (try refine vms2 hT h1 ?_)
  first | refine callO.pc i3 ?_ | refine callG.pc1 i3 ?_ | trace_state
  simp (maxSteps := 2000000) -implicitDefEqProofs +contextual (disch := first | assumption | omega | decide +kernel) only [push_cast, ↓capI, seval, Nat.reduceLeDiff, Nat.reduceEqDiff, reduceCtorEq, ↓reduceIte, e2, hU, hu]
  (try refine vms2 hU hu ?_)
  refine endK.ret ?_ (by first | rfl | simp [fmN, fm0, bel_nx hg, bel_nxV hg]); simp [evRes, getT, retV, Try.f63]
end Go.Proofs.Yticeakkgoafiaaa

/- Chapter 41: the matrices of the reference in plain terms. -/
set_option maxRecDepth 100000
set_option maxHeartbeats 4000000
set_option linter.all false
namespace Go.Proofs.Yticeakkgoafiaaa
open Go.Vm
open Classical in
noncomputable def Tq (p : Pr) (l : List Int) (i k : Nat) : Bool := decide (i ≤ k ∧ Mt p (part l i k))
open Classical in
theorem Tb_iff {p : Pr} {l : List Int} {i k : Nat} : Tq p l i k = true ↔ i ≤ k ∧ Mt p (part l i k) := by unfold Tq; exact decide_eq_true_iff
open Classical in
noncomputable def TT (r : List Nd) (l : List Int) (j i k : Nat) : Bool := decide (∃ p t, okP 1000000000 p ∧ r.drop j = flat p ++ t ∧ i ≤ k ∧ Mt p (part l i k))
open Classical in
theorem TT_eq {r : List Nd} {l : List Int} {j : Nat} {p : Pr} {t : List Nd} (hp : okP 1000000000 p) (h : r.drop j = flat p ++ t) : TT r l j = Tq p l := by
 funext i k
 refine bool_ext (P := i ≤ k ∧ Mt p (part l i k)) ?_ Tb_iff
 unfold TT
 rw [decide_eq_true_iff]
 constructor
 ·rintro ⟨q, u, hq, h2, h3⟩
  obtain ⟨e, _⟩ := flat_inj 1000000000 q p u t hq hp (by rw [← h2, h])
  rw [← e]
  exact h3
 ·intro h3
  exact ⟨p, t, hp, h, h3⟩
theorem sub_ex : ∀ (p : Pr), okP 1000000000 p → ∀ j, j < (flat p).length → ∃ q t, okP 1000000000 q ∧ (flat p).drop j = flat q ++ t
 | p, hp, 0, _ => ⟨p, [], hp, by rw [List.drop_zero, List.append_nil]⟩
 | .leaf x, _, j + 1, h => by rw [flat, List.length_singleton] at h; omega
 | .un x p, hp, j + 1, h => by
  rw [flat, List.length_cons] at h
  obtain ⟨q, t, hq, e⟩ := sub_ex p hp.2 j (by omega)
  exact ⟨q, t, hq, by rw [flat, List.drop_succ_cons, e]⟩
 | .bin x p q, hp, j + 1, h => by
  rw [flat, List.length_cons, List.length_append] at h
  rw [flat, List.drop_succ_cons]
  show ∃ q' t, okP 1000000000 q' ∧ (flat p ++ flat q).drop j = flat q' ++ t
  by_cases hj : j < (flat p).length
  ·obtain ⟨y, t, hy, e⟩ := sub_ex p hp.2.1 j hj
   exact ⟨y, t ++ flat q, hy, by rw [List.drop_append_of_le_length (by omega), e, List.append_assoc]⟩
  ·obtain ⟨y, t, hy, e⟩ := sub_ex q hp.2.2 (j - (flat p).length) (by omega)
   refine ⟨y, t, hy, ?_⟩
   rw [List.drop_append, List.drop_of_length_le (by omega), List.nil_append, e]
theorem Wit_mono {R : Nat → Nat → Bool} {i k : Nat} : ∀ {m m' : Nat}, m ≤ m' → Wit R m i k = true → Wit R m' i k = true
 | m, 0, h, e => by
  have : m = 0 := by omega
  rw [this] at e
  exact e
 | m, m' + 1, h, e => by
  by_cases h2 : m = m' + 1
  ·rw [← h2]; exact e
  ·have := Wit_mono (m := m) (m' := m') (by omega) e
   rw [Wit, Wst, this]
   rfl
theorem Wit_star {p : Pr} {l : List Int} {n : Nat} (hn : n = l.length + 1) {i k : Nat} (hi : i < n) (hk : k < n) :
  Wit (fun i k => decide (i = k) || Tq p l i k) n i k = true ↔ i ≤ k ∧ Star (Mt p) (part l i k) := by
 have R0 : ∀ i k, Wit (fun i k => decide (i = k) || Tq p l i k) 0 i k = true ↔ (i = k ∨ (i ≤ k ∧ Mt p (part l i k))) := by
  intro i k
  rw [Wit, Bool.or_eq_true, decide_eq_true_iff, Tb_iff]
 generalize hR : (fun i k => decide (i = k) || Tq p l i k) = R at R0 ⊢
 constructor
 ·have key : ∀ m, m ≤ n → ∀ i k, i < n → k < n → Wit R m i k = true → i ≤ k ∧ Star (Mt p) (part l i k) := by
   intro m
   induction m with
   | zero =>
    intro _ i k hi hk h
    rcases (R0 i k).1 h with rfl | ⟨h1, h2⟩
    ·exact ⟨Nat.le_refl _, by rw [part_self]; exact .nil⟩
    ·exact ⟨h1, .one h2⟩
   | succ m ih =>
    intro hm i k hi hk h
    rw [Wit, Wst, Bool.or_eq_true, Bool.and_eq_true] at h
    rcases h with h | ⟨h1, h2⟩
    ·exact ih (by omega) i k hi hk h
    ·obtain ⟨a1, a2⟩ := ih (by omega) i m hi (by omega) h1
     obtain ⟨b1, b2⟩ := ih (by omega) m k (by omega) hk h2
     exact ⟨by omega, by rw [← part_app a1 b1 (by omega)]; exact a2.cat b2⟩
  exact key n (Nat.le_refl _) i k hi hk
 ·rintro ⟨hik, hs⟩
  have key : ∀ k, k < n → ∀ i, i ≤ k → Star (Mt p) (part l i k) → ∀ m, k ≤ m → Wit R m i k = true := by
   intro k
   induction k using Nat.strongRecOn with
   | ind k ih =>
    intro hk i hik hs m hm
    rcases hs.last with h | ⟨u, v, e, hu, hv, hv0⟩
    ·have hl := congrArg List.length h
     rw [part_len (by omega), List.length_nil] at hl
     exact Wit_mono (Nat.zero_le _) ((R0 i k).2 (.inl (by omega)))
    ·obtain ⟨j, h3, h4, _, e1, e2⟩ := part_cut hik (by omega) e
     have hjk : j < k := by
      apply Decidable.byContradiction
      intro hc
      have : j = k := by omega
      rw [this, part_self] at e2
      exact hv0 e2.symm
     have w1 := ih j hjk (by omega) i h3 (by rw [e1]; exact hu) j (Nat.le_refl _)
     have w2 := Wit_mono (Nat.zero_le j) ((R0 j k).2 (.inr ⟨h4, by rw [e2]; exact hv⟩))
     refine Wit_mono (m := j + 1) (by omega) ?_
     rw [Wit, Wst, w1, w2, Bool.or_eq_true]
     exact .inr rfl
  exact key k hk i hik hs n (by omega)
theorem rows_ext {n : Nat} {R R' : Nat → Nat → Bool} (h : ∀ i k, i < n → k < n → R i k = R' i k) : tab n (rowO n R) = tab n (rowO n R') := by
 refine tab_ext fun i hi => ?_
 unfold rowO
 exact congrArg (Ob.cells 0) (tab_ext fun k hk => by rw [h i k hi hk])
theorem rel33 (r : List Nd) (l : List Int) (n a : Nat) (g : Nat → V) (hg : ∀ k j, (g j).bel k = true) (p : Pr) (t : List Nd) (hp : okP 1000000000 p) (hx : r.drop a = flat p ++ t) (hgT : ∀ j, a < j → j < r.length → g j = rowsV n (TT r l j))
  (hn : n = l.length + 1) (hl : l.length ≤ 900) (hr : r.length ≤ 4000000) :
  PCJ Try.prog 47 [slN r, .int .i64 a, slI l, nxV r.length g] (.buf 0 n 0 n 1) (.cells n (tab n (bufR n)) :: tab n (rowO n (Tq p l))) := by
 have hlen := fun ha => drop_len (a := a) (l := r) ha hx
 cases p with
 | leaf x =>
  exact rel_plain r l r.length n a g hg x t hx (by have := hp.1; omega) (Tq (.leaf x) l) hn hl fun i k hi hk => pair_leaf r l r.length n a i k g hg x t hx hp.1 hn hi hk hl _ Tb_iff
 | un x q =>
  obtain ⟨ha, hX, h2⟩ := drop_cons (x := x) (r := flat q ++ t) (by rw [hx, flat, List.cons_append])
  have hl2 := drop_len ha h2
  have hq := flat_pos q
  have hT : g (a + 1) = rowsV n (Tq q l) := by rw [hgT (a + 1) (by omega) (by omega), TT_eq hp.2 h2]
  have h := rel_star r l r.length n a g hg x (flat q ++ t) (by rw [hx, flat, List.cons_append]) hp.1 (fun i k => decide (i = k) || Tq q l i k) hn hl fun i k hi hk => pair_star r l r.length n a i k g hg x (flat q ++ t) (by rw [hx, flat, List.cons_append]) hp.1 (Tq q l) (by omega) hT hn hi hk hl hr
  rw [rows_ext (R' := Tq (.un x q) l) fun i k hi hk => bool_ext (Wit_star hn hi hk) Tb_iff] at h
  exact h
 | bin x q s =>
  obtain ⟨ha, hX, h2⟩ := drop_cons (x := x) (r := flat q ++ (flat s ++ t)) (by rw [hx, flat, List.cons_append, List.append_assoc])
  have hl2 := drop_len ha h2
  have h3 := drop_app h2
  have hq := flat_pos q
  have hs := flat_pos s
  have hl3 := drop_len (by omega) h3
  have hT : g (a + 1) = rowsV n (Tq q l) := by rw [hgT (a + 1) (by omega) (by omega), TT_eq hp.2.1 h2]
  have hU : g (a + 1 + (flat q).length) = rowsV n (Tq s l) := by rw [hgT _ (by omega) (by omega), TT_eq hp.2.2 h3]
  refine rel_plain r l r.length n a g hg x (flat q ++ (flat s ++ t)) (by rw [hx, flat, List.cons_append, List.append_assoc]) (by have := hp.1; omega) (Tq (.bin x q s) l) hn hl fun i k hi hk => ?_
  by_cases h5 : x.op = 5
  ·have h := pair_alt r l r.length n a i k g hg x q s t hp.2.1 hx h5 (Tq q l) (Tq s l) (by omega) hT hU hi hk hr
   have e : (Tq q l i k || Tq s l i k) = Tq (.bin x q s) l i k := by
    refine bool_ext Iff.rfl ?_
    rw [Bool.or_eq_true, Tb_iff, Tb_iff, Tb_iff, Mt, if_pos h5]
    constructor
    ·rintro ⟨h1, h | h⟩
     ·exact .inl ⟨h1, h⟩
     ·exact .inr ⟨h1, h⟩
    ·rintro (⟨h1, h⟩ | ⟨h1, h⟩)
     ·exact ⟨h1, .inl h⟩
     ·exact ⟨h1, .inr h⟩
   rw [e] at h
   exact h
  ·refine pair_cat r l r.length n a i k g hg x q s t hp.2.1 hx (by have := hp.1; omega) (Tq q l) (Tq s l) (by omega) hT hU hi hk (by omega) hr _ (Tb_iff.trans ?_)
   rw [Mt, if_neg h5]
   simp only [Tb_iff]
   constructor
   ·rintro ⟨h1, u, v, e, h4, h5⟩
    obtain ⟨j, h6, h7, _, e1, e2⟩ := part_cut h1 (by omega) e
    exact ⟨j, h6, h7, ⟨h6, by rw [e1]; exact h4⟩, h7, by rw [e2]; exact h5⟩
   ·rintro ⟨j, h6, h7, ⟨_, h4⟩, _, h5⟩
    exact ⟨by omega, _, _, (part_app h6 h7 (by omega)).symm, h4, h5⟩
end Go.Proofs.Yticeakkgoafiaaa

/- Chapter 41: Matches, by the reference. -/
set_option maxRecDepth 100000
set_option maxHeartbeats 4000000
set_option linter.all false
namespace Go.Proofs.Yticeakkgoafiaaa
open Go.Vm
theorem shs_tab {k n : Nat} {f : Nat → V} : shs k (tab n f) = tab n fun i => (f i).sh k := by rw [shs_map, tab_map]
theorem shOs_map {k : Nat} : ∀ xs : List Ob, shOs k xs = xs.map (Ob.sh k)
 | [] => rfl
 | x :: xs => by rw [shOs, shOs_map xs]; rfl
theorem shOs_tab {k n : Nat} {f : Nat → Ob} : shOs k (tab n f) = tab n fun i => (f i).sh k := by rw [shOs_map, tab_map]
theorem sh_cells {k v : Nat} {l : List V} : (Ob.cells v l).sh k = .cells v (shs k l) := by rw [Ob.sh]
theorem sh_rowO {k n : Nat} {R : Nat → Nat → Bool} {i : Nat} : (rowO n R i).sh k = rowO n R i := by rw [rowO, Ob.sh, shs_tb]
theorem frzRows {m n ver : Nat} {tm L : List V} {R : Nat → Nat → Bool} (ht : belAll 2 tm = true) (hL : belAll 2 L = true) : ∀ j, j ≤ n →
  Gn m ⟨tm, .cells 0 L :: .cells ver (tab n fun i => .buf (2 + i) 0 0 n 1) :: tab n (rowO n R)⟩
   ⟨tm, .cells 0 L :: .cells ver (tab n fun i => if i < j then slT n (R i) else .buf (2 + i) 0 0 n 1) :: tab n fun i => if i < j then .dead else rowO n R i⟩
 | 0, _ => by
  have e1 : (tab n fun i => if i < 0 then slT n (R i) else V.buf (2 + i) 0 0 n 1) = tab n fun i => V.buf (2 + i) 0 0 n 1 := tab_ext fun i _ => if_neg (Nat.not_lt_zero i)
  have e2 : (tab n fun i => if i < 0 then Ob.dead else rowO n R i) = tab n (rowO n R) := tab_ext fun i _ => if_neg (Nat.not_lt_zero i)
  rw [e1, e2]
  exact Gn.refl _ _
 | j + 1, hj => by
  refine (frzRows ht hL j (by omega)).trans ?_
  have hg : getO (.cells 0 L :: .cells ver (tab n fun i => if i < j then slT n (R i) else .buf (2 + i) 0 0 n 1) :: tab n fun i => if i < j then .dead else rowO n R i) (2 + j) = .cells 0 (tab n fun k => .bool (R j k)) := by
   rw [show 2 + j = j + 1 + 1 by omega, getO, getO, getO_tabN (by omega), if_neg (Nat.lt_irrefl j)]
   rfl
  refine (Gn.freeze (id := 2 + j) hg).trans ?_
  have e0 : fzs (2 + j) 0 (tab n fun k => .bool (R j k)) tm = tm := fzs_lt _ (belAll_le (by omega) _ ht)
  have e1 : fzs (2 + j) 0 (tab n fun k => .bool (R j k)) L = L := fzs_lt _ (belAll_le (by omega) _ hL)
  have e2 : fzs (2 + j) 0 (tab n fun k => .bool (R j k)) (tab n fun i => if i < j then slT n (R i) else .buf (2 + i) 0 0 n 1) = tab n fun i => if i < j + 1 then slT n (R i) else .buf (2 + i) 0 0 n 1 := by
   rw [fzs_tab]
   refine tab_ext fun i hi => ?_
   by_cases h : i < j
   ·rw [if_pos h, if_pos (by omega), fz_lt _ bel_slT]
   ·rw [if_neg h]
    by_cases h2 : i = j
    ·subst h2
     rw [if_pos (by omega)]
     simp only [fz, Nat.beq_refl, List.drop_zero, Nat.mul_one, take_tb]
     rfl
    ·have hb : Nat.beq (2 + i) (2 + j) = false := by
      cases hb : Nat.beq (2 + i) (2 + j) with
      | false => rfl
      | true => have := Nat.eq_of_beq_eq_true hb; omega
     rw [if_neg (by omega)]
     simp only [fz, hb]
  have e3 : fzH (2 + j) 0 (tab n fun k => .bool (R j k)) (tab n fun i => if i < j then Ob.dead else rowO n R i) = tab n fun i => if i < j then Ob.dead else rowO n R i := by
   refine fzH_lt (belObs_tabN fun i _ => ?_)
   split
   ·exact belO_dead
   ·exact bel_tb
  rw [e0, fzH, e1, fzH, e2, e3, show 2 + j = j + 1 + 1 by omega, setO, setO, setO_tabN]
  have e4 : (tab n fun k => if k = j then Ob.dead else if k < j then Ob.dead else rowO n R k) = tab n fun i => if i < j + 1 then Ob.dead else rowO n R i := by
   refine tab_ext fun i _ => ?_
   by_cases h : i = j
   ·rw [if_pos h, if_pos (by omega)]
   ·rw [if_neg h]
    by_cases h2 : i < j
    ·rw [if_pos h2, if_pos (by omega)]
    ·rw [if_neg h2, if_neg (by omega)]
  rw [e4]
  exact Gn.refl _ _
theorem frzMat {m n ver : Nat} {tm tm2 L L2 : List V} {R : Nat → Nat → Bool} (hw : wk tm tm2) (ht : belAll 1 tm2 = true) (hL : belAll 2 L = true) (hL2 : fzs 1 ver (tab n fun i => slT n (R i)) L = L2) (hb : belAll 1 L2 = true) (hm : m ≤ 1) :
  Gn m ⟨tm, .cells 0 L :: .cells ver (tab n fun i => .buf (2 + i) 0 0 n 1) :: tab n (rowO n R)⟩ ⟨tm2, [.cells 0 L2]⟩ := by
 refine (Gn.weak hw).trans ((frzRows (belAll_le (by omega) _ ht) hL n (Nat.le_refl n)).trans ?_)
 have e1 : (tab n fun i => if i < n then slT n (R i) else V.buf (2 + i) 0 0 n 1) = tab n fun i => slT n (R i) := tab_ext fun i hi => if_pos hi
 have e2 : (tab n fun i => if i < n then Ob.dead else rowO n R i) = tab n fun _ => Ob.dead := tab_ext fun i hi => if_pos hi
 rw [e1, e2]
 refine (Gn.freeze (id := 1) (ver := ver) (l := tab n fun i => slT n (R i)) rfl).trans ?_
 have e0 : fzs 1 ver (tab n fun i => slT n (R i)) tm2 = tm2 := fzs_lt _ ht
 have e3 : fzH 1 ver (tab n fun i => slT n (R i)) (tab n fun _ => Ob.dead) = tab n fun _ => Ob.dead := fzH_lt (belObs_tabN fun _ _ => belO_dead)
 rw [e0, fzH, hL2, fzH, e3, setO, setO]
 exact Gn.canon (J := .dead :: tab n fun _ => .dead) rfl (by
  have : ∀ xs : List V, wk xs xs := by
   intro xs
   induction xs with
   | nil => exact trivial
   | cons x xs ih => exact ⟨.inr rfl, ih⟩
  exact this _) (by simpa using hm) ht (by simp only [List.length_singleton, belObs_cons, belObs_nil, belO_cells, hb, Bool.and_true])
def allM (r : List Nd) (n : Nat) (T : Nat → Nat → Nat → Bool) (a j : Nat) : V := if a ≤ j then rowsV n (T j) else .sl true [] 0
@[simp] theorem bel_allV {r : List Nd} {n k a j : Nat} {T : Nat → Nat → Nat → Bool} : (allM r n T a j).bel k = true := by
 unfold allM
 split
 ·exact bel_rowsV
 ·rfl
@[simp] theorem bel_allM {r : List Nd} {n k a m : Nat} {T : Nat → Nat → Nat → Bool} : belAll k (tab m (allM r n T a)) = true := belAll_tab fun _ _ => bel_allV
theorem pur_buf {n k : Nat} : purs (tab k (bufR n)) = true := by
 have : ∀ xs : List V, (∀ x ∈ xs, x.pur = true) → purs xs = true := by
  intro xs
  induction xs with
  | nil => intro _; rfl
  | cons x xs ih => intro h; rw [purs, h x (by simp), ih fun y hy => h y (by simp [hy])]; rfl
 refine this _ fun x hx => ?_
 obtain ⟨i, _, rfl⟩ := tab_mem.1 hx
 rfl
theorem pur_rows {n k : Nat} {R : Nat → Nat → Bool} : pursO (tab k (rowO n R)) = true := by
 have : ∀ xs : List Ob, (∀ x ∈ xs, x.pur = true) → pursO xs = true := by
  intro xs
  induction xs with
  | nil => intro _; rfl
  | cons x xs ih => intro h; rw [pursO, h x (by simp), ih fun y hy => h y (by simp [hy])]; rfl
 refine this _ fun x hx => ?_
 obtain ⟨i, _, rfl⟩ := tab_mem.1 hx
 exact pur_tb
attribute [local push_cast] fmN fm0 take_N toN1 slN_nil encN slN cfg0 gfp_lenN gfd_lenN lfl_lenN slT slI rowsV Nat.mul_one tab_length putV_tab getV_tab getV_tabO getV_tabP getV_tab1 get_mapI get_mapI2 List.length_map ibeq_dec
theorem pc33 (r : List Nd) (l : List Int) (hr : r.length ≤ 4000000) (hl : l.length ≤ 900) : PC Try.prog 33 [slN r, slI l] (.bool (mtL r l)) := by
 have h30 := pc46 r hr
 by_cases hc : checkP 1000000000 r = 0
 case neg =>
  rw [mtL_no hc]
  rw [decide_eq_false hc] at h30
  refine PC.walk tok mixed cfg0 Try.func33 rfl Try.call33 (by simp [fmN, fm0]) (by first | rfl | simp [fmN, fm0]) ?_; refine vms1 Try.ntmps33 ?_
  refine callO.pc h30 ?_
  refine vms0 ?_
  refine endK.ret ?_ (by first | rfl | simp [fmN, fm0]); simp [evRes, getT, retV, Try.f33]
 rw [decide_eq_true hc] at h30
 obtain ⟨h24, p, hp, hf⟩ := checkP_tree hc
 have hpos := flat_pos p
 rw [← hf] at hpos
 have e : mtL r l = Tq p l 0 l.length := by
  rw [hf] at hc ⊢
  refine bool_ext (mtL_iff hp hc) (Tb_iff.trans ?_)
  rw [part_all]
  exact ⟨fun h => h.2, fun h => ⟨Nat.zero_le _, h⟩⟩
 have e0 : TT r l 0 = Tq p l := TT_eq (t := []) hp (by rw [List.drop_zero, List.append_nil, hf])
 obtain ⟨n, hn⟩ : ∃ n, n = l.length + 1 := ⟨_, rfl⟩
 refine PC.walk tok mixed cfg0 Try.func33 rfl Try.call33 (by simp [fmN, fm0]) (by first | rfl | simp [fmN, fm0]) ?_; refine vms1 Try.ntmps33 ?_
 refine callO.pc h30 ?_
 simp (maxSteps := 2000000) -implicitDefEqProofs +contextual (disch := first | assumption | omega | decide +kernel) only [push_cast, ↓capI, seval, Nat.reduceLeDiff, Nat.reduceEqDiff, reduceCtorEq, ↓reduceIte, rep_tab]
 refine T.lp tok mixed cfg0 (fun (a : Nat) => kp 2 (dd 3 (kp 1 (sv (.int .i64 ((a : Int) - 1)) (dd 30 (nl)))))) (fun H0 (a : Nat) => [.cells 0 (tab r.length (allM r n (TT r l) a))]) (fun (a : Nat) => a ≤ r.length) (fun (a : Nat) => a) (r.length) ?_ ?_ ?_
 ·exact Nat.le_refl _
 ·have e2 : tab r.length (allM r n (TT r l) r.length) = tab r.length fun _ => .sl true [] 0 := tab_ext fun j hj => if_neg (by omega)
  rw [e2]
  exact Gn.canon (J := []) (by first | rfl | (simp [slT, tab_length, rep_tab]; done) | (simp [slT, tab_length, rep_tab]; rfl)) (by simp [wk, slN, slT, slI, putT, kp, dd, sv, nl]) (by simp [tab_length]) (by simp [fmN, fm0, kp, dd, sv, nl]) (by simp [fmN, fm0])
 intro a ha
 cases a with
 | zero =>
  rw [e, ← e0]
  have a0 : allM r n (TT r l) 0 0 = rowsV n (TT r l 0) := if_pos (Nat.zero_le _)
  have hn0 : 0 < n := by omega
  have hln : l.length < n := by omega
  simp (maxSteps := 2000000) -implicitDefEqProofs +contextual (disch := first | assumption | omega | decide +kernel) only [push_cast, ↓capI, seval, Nat.reduceLeDiff, Nat.reduceEqDiff, reduceCtorEq, ↓reduceIte, a0]
  (try simp (maxSteps := 2000000) -implicitDefEqProofs +contextual (disch := first | assumption | omega | decide +kernel) only [push_cast, ↓capI, seval, Nat.reduceLeDiff, Nat.reduceEqDiff, reduceCtorEq, ↓reduceIte, a0])
  refine endK.ret ?_ (by first | rfl | simp [fmN, fm0]); simp [evRes, getT, retV, Try.f33]
 | succ b =>
  obtain ⟨q, t, hq, hx⟩ := sub_ex p hp b (by rw [← hf]; omega)
  rw [← hf] at hx
  have h33 := rel33 r l n b (allM r n (TT r l) (b + 1)) (fun k j => bel_allV) q t hq hx (fun j h1 _ => if_pos h1) hn hl hr
  rw [← TT_eq hq hx] at h33
  have hbr : brws [.cells 0 (tab r.length (allM r n (TT r l) (b + 1)))] [slN r, .int .i64 b, slI l, .buf 0 0 0 r.length 1] = [slN r, .int .i64 b, slI l, nxV r.length (allM r n (TT r l) (b + 1))] := by
   simp only [brws, brw, getO, slN, slI, Nat.beq, List.drop_zero, Nat.mul_one, take_tb, nxV]
  have hL : belAll 2 (tab r.length fun k => if k = b then V.buf 1 n 0 n 1 else allM r n (TT r l) (b + 1) k) = true := belAll_tab fun j _ => by
   split
   ·rfl
   ·exact bel_allV
  have hL2 : fzs 1 n (tab n fun i => slT n (TT r l b i)) (tab r.length fun k => if k = b then V.buf 1 n 0 n 1 else allM r n (TT r l) (b + 1) k) = tab r.length (allM r n (TT r l) b) := by
   rw [fzs_tab]
   refine tab_ext fun j _ => ?_
   by_cases h : j = b
   ·rw [if_pos h, h, allM, if_pos (Nat.le_refl _)]
    simp only [fz, Nat.beq_refl, List.drop_zero, Nat.mul_one, take_tb]
    rfl
   ·rw [if_neg h, fz_lt _ bel_allV, allM, allM]
    by_cases h2 : b ≤ j
    ·rw [if_pos (by omega), if_pos h2]
    ·rw [if_neg (by omega), if_neg h2]
  simp (maxSteps := 2000000) -implicitDefEqProofs +contextual (disch := first | assumption | omega | decide +kernel) only [push_cast, ↓capI, seval, Nat.reduceLeDiff, Nat.reduceEqDiff, reduceCtorEq, ↓reduceIte, Int.add_sub_cancel]
  refine callO.lent (by rw [List.nil_append, List.append_nil]; exact hbr ▸ h33) (by rw [List.nil_append, List.append_nil]; exact (congrArg (belAll 0) hbr).trans (by simp [fmN, fm0, nxV])) rfl (by simp [pursO, Ob.pur, pur_buf, pur_rows]) ?_
  simp (maxSteps := 2000000) -implicitDefEqProofs +contextual (disch := first | assumption | omega | decide +kernel) only [push_cast, ↓capI, seval, Nat.reduceLeDiff, Nat.reduceEqDiff, reduceCtorEq, ↓reduceIte, V.sh, shs, shOs, sh_cells, shs_tab, shOs_tab, rowO, bufR]
  refine ⟨b, by omega, Nat.lt_succ_self b, ?_⟩
  have eb : ∀ i, 1 + (i + 1) = 2 + i := fun i => by omega
  simp only [eb]
  refine frzMat (R := TT r l b) ?_ ?_ hL hL2 bel_allM (Nat.le_refl _)
  ·simp [wk, slN, slT, slI]
  ·simp [fmN, fm0]
end Go.Proofs.Yticeakkgoafiaaa

/- Chapter 43: Valid, by the reference. -/
set_option maxRecDepth 100000
set_option maxHeartbeats 8000000
set_option linter.all false
namespace Go.Proofs.Yticeakkgoafiaaa
open Go.Vm
attribute [local push_cast] cfg0 Top.encT Top.slI Top.slP Top.slL Top.encP Top.encPE Top.eqP encH slN slH slI encT slR slB zTb ones_ints ones_bools ones_H getV_map getV_mapO Top.gfp_lenP Top.gfd_lenP Top.lfl_lenP gfp_lenH gfd_lenH lfl_lenH List.length_map Nat.mul_one
theorem pc14 (t : Top.Tp) (x y : Int) (r : List Nd) (l : List Hop) (hf : t.fit) (hr : r.length ≤ 4000000) (hl : l.length ≤ 900) : ValR 14 t x y r l := by
 have hp := hf.ports
 have hh := hf.hosts
 have h17 := pc17 l (by omega)
 have hsl : (sws l).length = l.length := List.length_map _
 have h33 := pc33 r (sws l) hr (by omega)
 have hlen := len_flat lenH l
 rcases arg28 t x y r hf hr with ⟨e, he, h0, h28⟩ | ⟨p, ho, h28⟩
 ·refine .inl ⟨e, he, h0, ?_⟩
  rw [argV] at h28 ⊢
  simp only [List.cons_append, List.nil_append]
  refine PC.walk tok mixed cfg0 Try.func14 rfl Try.call14 (by simp) (by first | rfl | simp) ?_; refine vms1 Try.ntmps14 ?_
  refine callO.pc h28 ?_
  refine vms1 h0 ?_
  refine endK.retA ?_; simp [evRes, getT, retV, Try.f14]
 refine .inr ⟨p, ho, ?_⟩
 have hrng := ho.rng
 rw [badR] at hrng
 have hv := Top.chk_valid ho.top
 have hpeer := fun q (h : (Top.peer t q).2 = 0) => peer_rng ho.top (p := q) h
 generalize autR p t.ports.length = a at h28
 clear ho
 obtain ⟨x, rfl⟩ : ∃ k : Nat, x = (k : Int) := ⟨x.toNat, by omega⟩
 obtain ⟨y, rfl⟩ : ∃ k : Nat, y = (k : Int) := ⟨y.toNat, by omega⟩
 have hx : x < t.hosts.length := by omega
 have hy : y < t.hosts.length := by omega
 have ex : hostP t x = t.hosts[x] := by rw [hostP, Int.toNat_natCast, List.getD_eq_getElem?_getD, List.getElem?_eq_getElem hx]; rfl
 have ey : hostP t y = t.hosts[y] := by rw [hostP, Int.toNat_natCast, List.getD_eq_getElem?_getD, List.getElem?_eq_getElem hy]; rfl
 rw [ex, ey]
 generalize hsx : t.hosts[x] = src
 generalize hdx : t.hosts[y] = dst
 rw [argV] at h28 ⊢
 simp only [List.cons_append, List.nil_append]
 obtain ⟨an, ac⟩ := a
 obtain ⟨ss, si⟩ := src
 obtain ⟨ds, di⟩ := dst
 generalize mtL r (sws l) = M at h33
 generalize hvv : vld t (ds, di) M (ss, si) l = v
 by_cases hl0 : l.length = 0
 ·have : l = [] := List.length_eq_zero_iff.1 hl0
  subst this
  have hv0 : v = false := by rw [← hvv]; rfl
  rw [hv0]
  refine PC.walk tok mixed cfg0 Try.func14 rfl Try.call14 (by simp) (by first | rfl | simp) ?_; refine vms1 Try.ntmps14 ?_
  refine callO.pc h28 ?_
  simp (maxSteps := 2000000) -implicitDefEqProofs +contextual (disch := first | assumption | omega | decide +kernel) only [push_cast, ↓capI, seval, Nat.reduceLeDiff, Nat.reduceEqDiff, reduceCtorEq, ↓reduceIte, List.length_nil]
  refine endK.retA ?_; simp [evRes, getT, retV, Try.f14]
 refine PC.walk tok mixed cfg0 Try.func14 rfl Try.call14 (by simp) (by first | rfl | simp) ?_; refine vms1 Try.ntmps14 ?_
 refine callO.pc h28 ?_
 refine vms3 hl0 hx hsx ?_
 refine T.lp tok mixed cfg0 (fun ((s : Nat × Int × Int)) => dd 2 (kp 4 (dd 7 (kp 1 (sv (.int .i64 (s.1 : Int)) (dd 85 (nl))))))) (fun H0 ((s : Nat × Int × Int)) => [.cells 0 (Top.encT t), .cells 0 (encT ⟨an, ac⟩), .cells 0 [.int .i64 s.2.1, .int .i64 s.2.2]]) (fun ((s : Nat × Int × Int)) => s.1 < l.length ∧ vld t (ds, di) M s.2 (l.drop s.1) = v) (fun ((s : Nat × Int × Int)) => l.length - s.1) ((0, ss, si)) ?_ ?_ ?_
 ·exact ⟨by simp only; omega, hvv⟩
 ·exact Gn.canon (J := []) (by first | rfl | (simp [List.append_nil, Top.encT, encT, slR, slB, slI, Top.encP]; done) | (simp [List.append_nil, Top.encT, encT, slR, slB, slI, Top.encP]; rfl)) (by simp [wk, Top.slP, slH, putT, kp, dd, sv, nl]) (by simp [List.length_append]) (by simp [kp, dd, sv, nl]) (by simp)
 intro s hs
 obtain ⟨j, a1, a2⟩ := s
 obtain ⟨hj, hvj⟩ := hs
 simp only at hj hvj
 rw [List.drop_eq_getElem_cons hj] at hvj
 have hlst : j + 1 = l.length → l.drop (j + 1) = [] := fun h => List.drop_eq_nil_of_le (by omega)
 have hmore : ¬ j + 1 = l.length → ∃ g r', l.drop (j + 1) = g :: r' := fun h => ⟨_, _, List.drop_eq_getElem_cons (by omega)⟩
 generalize hrest : l.drop (j + 1) = rest at hvj hlst hmore
 generalize hh0 : l[j] = h at hvj
 obtain ⟨hs1, hi1, ho1⟩ := h
 have hjl : (j : Int) < l.length := by omega
 by_cases h1 : hs1 = a1
 case neg =>
  rw [vld_sw h1] at hvj
  rw [← hvj]
  refine vms3 hj hh0 h1 ?_
  refine endK.retA ?_; simp [evRes, getT, retV, Try.f14]
 by_cases h2 : hi1 = a2
 case neg =>
  rw [vld_in h2] at hvj
  rw [← hvj]
  subst h1
  refine vms3 hj hh0 h2 ?_
  refine endK.retA ?_; simp [evRes, getT, retV, Try.f14]
 subst h1
 subst h2
 by_cases hje : j + 1 = l.length
 ·have hje2 : (l.length : Int) - 1 = (j : Int) := by omega
  have hr0 := hlst hje
  subst hr0
  rw [vld_one rfl rfl] at hvj
  by_cases hd : (hs1, ho1) = (ds, di)
  ·rw [decide_eq_true hd, Bool.true_and] at hvj
   simp only [Prod.mk.injEq] at hd
   obtain ⟨rfl, rfl⟩ := hd
   subst hvj
   refine vms5 hj hh0 hje2 hy hdx ?_
   refine callG.pc1 h17 ?_
   refine vms0 ?_
   refine callG.pc1 h33 ?_
   refine vms0 ?_
   refine endK.retA ?_; simp [evRes, getT, retV, Try.f14]
  ·rw [decide_eq_false hd, Bool.false_and] at hvj
   rw [← hvj]
   have hcmp : ((hs1 == ds) && (ho1 == di)) = false := by
    rw [Bool.and_eq_false_iff, beq_eq_false_iff_ne, beq_eq_false_iff_ne]
    rw [Prod.mk.injEq] at hd
    omega
   refine vms6 hj hh0 hje2 hy hdx hcmp ?_
   refine endK.retA ?_; simp [evRes, getT, retV, Try.f14]
 have hje2 : ¬ (j : Int) = (l.length : Int) - 1 := by omega
 obtain ⟨g, r', hgr⟩ := hmore hje
 subst hgr
 have h31 := Top.pc31 t (hs1, ho1) hf
 by_cases hpe : (Top.peer t (hs1, ho1)).2 = 0
 ·rw [vld_go rfl rfl hpe, ← hrest] at hvj
  simp only at hvj
  generalize Top.peer t (hs1, ho1) = pe at h31 hpe hvj
  obtain ⟨⟨ps, pp⟩, er⟩ := pe
  simp only at hpe hvj
  refine vms3 hj hh0 hje2 ?_
  refine callO.pc h31 ?_
  refine vms1 hpe ?_
  refine ⟨(j + 1, ps, pp), ⟨by simp only; omega, hvj⟩, by (try simp only); omega, ?_⟩; exact Gn.canon (by first | rfl | (simp [List.append_nil, Top.encT, encT, slR, slB, slI, Top.encP]; rfl)) (by simp [wk, Top.slP, slH]) (by simp [List.length_append]) (by simp) (by simp)
 ·rw [vld_no hpe] at hvj
  rw [← hvj]
  generalize Top.peer t (hs1, ho1) = pe at h31 hpe
  obtain ⟨⟨ps, pp⟩, er⟩ := pe
  simp only at hpe
  refine vms3 hj hh0 hje2 ?_
  refine callO.pc h31 ?_
  refine vms1 hpe ?_
  refine endK.retA ?_; simp [evRes, getT, retV, Try.f14]
end Go.Proofs.Yticeakkgoafiaaa

/- Chapter 43: Valid and Switches as defined. -/
set_option maxRecDepth 100000
set_option maxHeartbeats 4000000
set_option linter.all false
namespace Go.Proofs.Yticeakkgoafiaaa
open Go.Vm Go.ChangeShapes Go.WideShapes Go.ChangeAt Go.RowKit
theorem val_both {f g : Nat} {t : Top.Tp} {x y : Int} {r : List Nd} {l : List Hop} (h : ValR f t x y r l) (h' : ValR g t x y r l) : ∃ b : Bool, PC Try.prog f (argV t x y r ++ [slH l]) (.bool b) ∧ PC Try.prog g (argV t x y r ++ [slH l]) (.bool b) := by
 rcases h with ⟨e, he, h0, h⟩ | ⟨p, ho, h⟩
 ·rcases h' with ⟨e', he', _, h'⟩ | ⟨p', ho', _⟩
  ·exact ⟨_, h, h'⟩
  ·exact (okR_no he ho').elim
 ·rcases h' with ⟨e', he', _, _⟩ | ⟨p', ho', h'⟩
  ·exact (okR_no he' ho).elim
  ·exact ⟨_, h, h'⟩
attribute [local push_cast] cfg0 encQ slN Top.encT Top.slI Top.slP Top.slL
theorem pc4 (t : Top.Tp) (q : Qy) (l : List Hop) : PC Try.prog 4 [.agg (Top.encT t), .agg (encQ q), slH l] (.bool true) := by
 have h8 := pc8 t q
 cases hs : smallQ t q with
 | false =>
  rw [hs] at h8
  obtain ⟨x, y, r⟩ := q
  rw [slH]
  refine PC.walk tok mixed cfg0 Try.func4 rfl Try.call4 (by simp) (by first | rfl | simp) ?_; refine vms1 Try.ntmps4 ?_
  refine callO.pc h8 ?_
  refine vms0 ?_
  refine callO.pc pc9 ?_
  refine vms0 ?_
  refine endK.retA ?_; simp [evRes, getT, retV, Try.f4]
 | true =>
  rw [hs] at h8
  by_cases hl : (30 : Int) < l.length
  ·obtain ⟨x, y, r⟩ := q
   rw [slH]
   refine PC.walk tok mixed cfg0 Try.func4 rfl Try.call4 (by simp) (by first | rfl | simp) ?_; refine vms1 Try.ntmps4 ?_
   refine callO.pc h8 ?_
   refine vms1 hl ?_
   refine callO.pc pc9 ?_
   refine vms0 ?_
   refine endK.retA ?_; simp [evRes, getT, retV, Try.f4]
  obtain ⟨hf, hr⟩ := small_of hs
  obtain ⟨b, h13, h14⟩ := val_both (pc13 t q.x q.y q.r l hf (by omega) (by omega)) (pc14 t q.x q.y q.r l hf (by omega) (by omega))
  rw [argV] at h13 h14
  simp only [List.cons_append, List.nil_append] at h13 h14
  have h16 := pc16 l (by omega)
  have h17 := pc17 l (by omega)
  have hsl : (sws l).length = l.length := List.length_map _
  have h15 := Top.pc15 (sws l) (sws l) (by omega)
  rw [decide_eq_true rfl] at h15
  obtain ⟨x, y, r⟩ := q
  simp only at h13 h14
  rw [slH] at h13 h14 h16 h17 ⊢
  refine PC.walk tok mixed cfg0 Try.func4 rfl Try.call4 (by simp) (by first | rfl | simp) ?_; refine vms1 Try.ntmps4 ?_
  refine callO.pc h8 ?_
  refine vms1 hl ?_
  refine callG.pc1 h13 ?_
  refine vms0 ?_
  refine callG.pc1 h14 ?_
  refine vms0 ?_
  refine callG.pc1 h16 ?_
  simp (maxSteps := 2000000) -implicitDefEqProofs +contextual (disch := first | assumption | omega | decide +kernel) only [push_cast, ↓capI, seval, Nat.reduceLeDiff, Nat.reduceEqDiff, reduceCtorEq, ↓reduceIte, slI]
  refine callG.pc1 h17 ?_
  simp (maxSteps := 2000000) -implicitDefEqProofs +contextual (disch := first | assumption | omega | decide +kernel) only [push_cast, ↓capI, seval, Nat.reduceLeDiff, Nat.reduceEqDiff, reduceCtorEq, ↓reduceIte, slI]
  refine callG.pc1 h15 ?_
  simp (maxSteps := 2000000) -implicitDefEqProofs +contextual (disch := first | assumption | omega | decide +kernel) only [push_cast, ↓capI, seval, Nat.reduceLeDiff, Nat.reduceEqDiff, reduceCtorEq, ↓reduceIte, slI]
  refine callG.pc1 pc9 ?_
  refine vms0 ?_
  refine endK.retA ?_; simp [evRes, getT, retV, Try.f4]
theorem law4 (xs : List V) (h : TypA tt 8 [26, 29, 32] xs) : PC Try.prog 4 xs (.bool true) := by
 obtain ⟨v1, vs, cs, rfl, rfl, h1, h⟩ := typA_cons h
 obtain ⟨v2, vs, cs2, rfl, rfl, h2, h⟩ := typA_cons h
 obtain ⟨v3, vs, cs3, rfl, rfl, h3, h⟩ := typA_cons h
 obtain rfl := typA_nil h
 obtain ⟨a, ha⟩ := typ_T (m := 3) h1
 obtain ⟨x, hx⟩ := typ_Q (m := 4) h2
 obtain ⟨l, hl⟩ := typ_slH (m := 5) h3
 refine PC.lax ?_
 rw [laxs, laxs, laxs, laxs, ha, hx, hl]
 exact pc4 a x l
end Go.Proofs.Yticeakkgoafiaaa


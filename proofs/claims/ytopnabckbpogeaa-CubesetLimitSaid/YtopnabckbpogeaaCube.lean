/-
  Chapter 7: plain laws of cubes, bit by bit.
-/
import Derived.Test.YtopnabckbpogeaaParse
set_option maxRecDepth 100000
set_option maxHeartbeats 4000000
set_option linter.all false
namespace Go.Proofs.Ytopnabckbpogeaa
open Go.Vm

theorem zero_iff {x : W64} : x = 0#64 ↔ ∀ j, j < 64 → x.getLsbD j = false := by
  constructor
  · intro h j _; rw [h, BitVec.getLsbD_zero]
  · intro h; exact bit_ext fun j hj => by rw [h j hj, BitVec.getLsbD_zero]
theorem bit3 {a b c : Bool} : ((a ^^ b) && c) = false ↔ (c = true → a = b) := by cases a <;> cases b <;> cases c <;> decide
theorem mem_iff {c : Cu} {n : W64} : mem c n = true ↔ ∀ j, j < 64 → c.m.getLsbD j = true → c.v.getLsbD j = n.getLsbD j := by
  rw [mem, decide_eq_true_eq, zero_iff]
  refine forall_congr' fun j => forall_congr' fun hj => ?_
  simp only [BitVec.getLsbD_and, BitVec.getLsbD_or, BitVec.getLsbD_not, BitVec.getLsbD_zero, BitVec.getLsbD_xor, decide_true, Bool.true_and]
  exact bit3
theorem meet_iff {a b : Cu} : (meet a b).2 = true ↔ ∀ j, j < 64 → a.m.getLsbD j = true → b.m.getLsbD j = true → a.v.getLsbD j = b.v.getLsbD j := by
  have e : (meet a b).2 = true ↔ (a.v ^^^ b.v) &&& a.m &&& b.m = 0#64 := by unfold meet; split <;> simp_all
  rw [e, zero_iff]
  refine forall_congr' fun j => forall_congr' fun hj => ?_
  simp only [BitVec.getLsbD_and, BitVec.getLsbD_or, BitVec.getLsbD_not, BitVec.getLsbD_zero, BitVec.getLsbD_xor, decide_true, Bool.true_and]
  generalize a.v.getLsbD j = p; generalize b.v.getLsbD j = q; generalize a.m.getLsbD j = r; generalize b.m.getLsbD j = s
  cases p <;> cases q <;> cases r <;> cases s <;> decide
theorem sub_iff {a b : Cu} : sub a b = true ↔ ∀ j, j < 64 → b.m.getLsbD j = true → a.m.getLsbD j = true ∧ a.v.getLsbD j = b.v.getLsbD j := by
  rw [sub, Bool.and_eq_true, decide_eq_true_eq, decide_eq_true_eq, zero_iff, zero_iff]
  constructor
  · rintro ⟨h1, h2⟩ j hj hb
    have e1 := h1 j hj
    have e2 := h2 j hj
    simp only [BitVec.getLsbD_and, BitVec.getLsbD_or, BitVec.getLsbD_not, BitVec.getLsbD_zero, BitVec.getLsbD_xor, decide_true, Bool.true_and, hj, hb] at e1 e2
    revert e1 e2
    generalize a.v.getLsbD j = p; generalize b.v.getLsbD j = q; generalize a.m.getLsbD j = r
    cases p <;> cases q <;> cases r <;> decide
  · intro h
    constructor
    · intro j hj
      have := h j hj
      simp only [BitVec.getLsbD_and, BitVec.getLsbD_or, BitVec.getLsbD_not, BitVec.getLsbD_zero, BitVec.getLsbD_xor, decide_true, Bool.true_and, hj]
      revert this
      generalize a.v.getLsbD j = p; generalize b.v.getLsbD j = q; generalize a.m.getLsbD j = r; generalize b.m.getLsbD j = s
      cases p <;> cases q <;> cases r <;> cases s <;> decide
    · intro j hj
      have := h j hj
      simp only [BitVec.getLsbD_and, BitVec.getLsbD_or, BitVec.getLsbD_not, BitVec.getLsbD_zero, BitVec.getLsbD_xor, decide_true, Bool.true_and, hj]
      revert this
      generalize a.v.getLsbD j = p; generalize b.v.getLsbD j = q; generalize a.m.getLsbD j = r; generalize b.m.getLsbD j = s
      cases p <;> cases q <;> cases r <;> cases s <;> decide
/-- a cube without a value outside its mask -/
def can (c : Cu) : Prop := ∀ j, j < 64 → c.v.getLsbD j = true → c.m.getLsbD j = true
theorem can_iff {c : Cu} : c.v &&& ~~~ c.m = 0#64 ↔ can c := by
  rw [zero_iff]
  refine forall_congr' fun j => forall_congr' fun hj => ?_
  simp only [BitVec.getLsbD_and, BitVec.getLsbD_or, BitVec.getLsbD_not, BitVec.getLsbD_zero, BitVec.getLsbD_xor, decide_true, Bool.true_and, hj]
  generalize c.v.getLsbD j = p; generalize c.m.getLsbD j = r
  cases p <;> cases r <;> decide
def inW (c : Cu) (w : Nat) : Prop := ∀ j, j < 64 → c.m.getLsbD j = true → j < w
theorem inW_iff {c : Cu} {w : Nat} (hw : w ≤ 64) : c.m &&& ~~~ low w = 0#64 ↔ inW c w := by
  rw [zero_iff]
  refine forall_congr' fun j => forall_congr' fun hj => ?_
  simp only [BitVec.getLsbD_and, BitVec.getLsbD_or, BitVec.getLsbD_not, BitVec.getLsbD_zero, BitVec.getLsbD_xor, decide_true, Bool.true_and, hj, low_bit hw hj]
  generalize c.m.getLsbD j = p
  by_cases h : j < w <;> cases p <;> simp [h]
theorem chk_iff {c : Cu} {k : Nat} (h1 : 1 ≤ k) (h2 : k ≤ 64) : chkC c k = 0 ↔ can c ∧ inW c k := by
  have hok : okW (k : Int) = true := by simp only [okW, Bool.and_eq_true, decide_eq_true_eq]; omega
  rw [chkC, if_pos hok, Int.toNat_natCast, ← can_iff, ← inW_iff h2]
  by_cases ha : c.m &&& ~~~ low k = 0#64 <;> by_cases hb : c.v &&& ~~~ c.m = 0#64 <;> simp [ha, hb]
theorem sub_refl {a : Cu} : sub a a = true := sub_iff.2 fun _ _ h => ⟨h, rfl⟩
theorem sub_trans {a b c : Cu} (h1 : sub a b = true) (h2 : sub b c = true) : sub a c = true :=
  sub_iff.2 fun j hj h => by
    have e := sub_iff.1 h2 j hj h
    have e2 := sub_iff.1 h1 j hj e.1
    exact ⟨e2.1, e2.2.trans e.2⟩
def least (c : Cu) : W64 := c.v &&& c.m
theorem mem_least {c : Cu} : mem c (least c) = true := mem_iff.2 fun j hj h => by simp only [least, BitVec.getLsbD_and, BitVec.getLsbD_or, BitVec.getLsbD_not, BitVec.getLsbD_zero, BitVec.getLsbD_xor, decide_true, Bool.true_and, h, Bool.and_true]
theorem sub_mem {a b : Cu} {n : W64} (h : sub a b = true) (hn : mem a n = true) : mem b n = true :=
  mem_iff.2 fun j hj hb => by
    have e := sub_iff.1 h j hj hb
    exact e.2.symm.trans (mem_iff.1 hn j hj e.1)
theorem not_meet {a b : Cu} {n : W64} (h : (meet a b).2 = false) (h1 : mem a n = true) : mem b n = false := by
  cases hb : mem b n with
  | false => rfl
  | true =>
    have : (meet a b).2 = true := meet_iff.2 fun j hj ha hb' => (mem_iff.1 h1 j hj ha).trans (mem_iff.1 hb j hj hb').symm
    rw [this] at h
    cases h
theorem meet_comm2 {a b : Cu} : (meet b a).2 = (meet a b).2 := by
  rw [Bool.eq_iff_iff, meet_iff, meet_iff]
  exact ⟨fun h j hj h1 h2 => (h j hj h2 h1).symm, fun h j hj h1 h2 => (h j hj h2 h1).symm⟩
theorem meet_none {a b : Cu} (h : (meet a b).2 = false) : (meet a b).1 = ⟨0#64, 0#64⟩ := by
  unfold meet at h ⊢
  split <;> simp_all
theorem meet_some {a b : Cu} (h : (meet a b).2 = true) : (meet a b).1 = ⟨a.v &&& a.m ||| b.v &&& b.m, a.m ||| b.m⟩ := by
  unfold meet at h ⊢
  split <;> simp_all
theorem meet_sub1 {a b : Cu} (h : (meet a b).2 = true) : sub (meet a b).1 a = true := by
  rw [meet_some h]
  refine sub_iff.2 fun j hj ha => ?_
  have := meet_iff.1 h j hj ha
  simp only [BitVec.getLsbD_and, BitVec.getLsbD_or, BitVec.getLsbD_not, BitVec.getLsbD_zero, BitVec.getLsbD_xor, decide_true, Bool.true_and, ha, Bool.true_or, Bool.and_true, true_and]
  revert this
  generalize a.v.getLsbD j = p; generalize b.v.getLsbD j = q; generalize b.m.getLsbD j = s
  cases p <;> cases q <;> cases s <;> decide
theorem meet_sub2 {a b : Cu} (h : (meet a b).2 = true) : sub (meet a b).1 b = true := by
  rw [meet_some h]
  refine sub_iff.2 fun j hj ha => ?_
  have := fun h1 => meet_iff.1 h j hj h1 ha
  simp only [BitVec.getLsbD_and, BitVec.getLsbD_or, BitVec.getLsbD_not, BitVec.getLsbD_zero, BitVec.getLsbD_xor, decide_true, Bool.true_and, ha, Bool.or_true, Bool.and_true, true_and]
  revert this
  generalize a.v.getLsbD j = p; generalize b.v.getLsbD j = q; generalize a.m.getLsbD j = s
  cases p <;> cases q <;> cases s <;> decide
theorem meet_can {a b : Cu} : can (meet a b).1 := by
  unfold meet
  split
  · intro j hj
    simp only [BitVec.getLsbD_and, BitVec.getLsbD_or, BitVec.getLsbD_not, BitVec.getLsbD_zero, BitVec.getLsbD_xor, decide_true, Bool.true_and]
    generalize a.v.getLsbD j = p; generalize b.v.getLsbD j = q; generalize a.m.getLsbD j = s; generalize b.m.getLsbD j = r
    cases p <;> cases q <;> cases s <;> cases r <;> decide
  · intro j hj h
    simp only [BitVec.getLsbD_zero] at h
    cases h
theorem can_and {c : Cu} (h : can c) : c.v &&& c.m = c.v := and_not_zero.1 (can_iff.2 h)
theorem meet_mem {a b : Cu} {n : W64} (h : (meet a b).2 = true) : mem (meet a b).1 n = (mem a n && mem b n) := by
  rw [Bool.eq_iff_iff, Bool.and_eq_true]
  constructor
  · intro hm
    exact ⟨sub_mem (meet_sub1 h) hm, sub_mem (meet_sub2 h) hm⟩
  · rintro ⟨h1, h2⟩
    rw [meet_some h]
    refine mem_iff.2 fun j hj hm => ?_
    have e1 := mem_iff.1 h1 j hj
    have e2 := mem_iff.1 h2 j hj
    have e3 := meet_iff.1 h j hj
    simp only [BitVec.getLsbD_and, BitVec.getLsbD_or, BitVec.getLsbD_not, BitVec.getLsbD_zero, BitVec.getLsbD_xor, decide_true, Bool.true_and] at hm ⊢
    revert e1 e2 e3 hm
    generalize a.v.getLsbD j = p; generalize b.v.getLsbD j = q; generalize a.m.getLsbD j = s; generalize b.m.getLsbD j = r; generalize n.getLsbD j = t
    cases p <;> cases q <;> cases s <;> cases r <;> cases t <;> decide

-- parsing and formatting
theorem parseL_facts : ∀ {s : List UInt8} {c0 c : Cu}, parseL s c0 = some c → s.length ≤ 64 →
    fmtL c s.length = s ∧ (∀ i, i < 64 → s.length ≤ i → c.v.getLsbD i = c0.v.getLsbD (i - s.length) ∧ c.m.getLsbD i = c0.m.getLsbD (i - s.length)) ∧ (∀ i, i < s.length → c.v.getLsbD i = true → c.m.getLsbD i = true)
  | [], c0, c, h, _ => by
    rw [parseL] at h
    obtain rfl := Option.some.inj h
    exact ⟨rfl, fun i _ _ => ⟨rfl, rfl⟩, fun i hi => absurd hi (Nat.not_lt_zero _)⟩
  | b :: r, c0, c, h, hl => by
    rw [parseL] at h
    simp only [List.length_cons] at hl
    cases hs : step c0 b with
    | none => rw [hs] at h; cases h
    | some d =>
      rw [hs] at h
      obtain ⟨hf, hi, hj⟩ := parseL_facts (c0 := d) h (by omega)
      have h0 := hi r.length (by omega) (Nat.le_refl _)
      rw [Nat.sub_self] at h0
      have hd : ∀ i, i < 63 → d.v.getLsbD (i + 1) = c0.v.getLsbD i ∧ d.m.getLsbD (i + 1) = c0.m.getLsbD i := by
        intro i hi
        unfold step at hs
        split at hs
        · obtain rfl := Option.some.inj hs
          simp [BitVec.getLsbD_shiftLeft, BitVec.getLsbD_or, BitVec.getLsbD_one, show i + 1 < 64 by omega]; exact ⟨rfl, rfl⟩
        · split at hs
          · obtain rfl := Option.some.inj hs
            simp [BitVec.getLsbD_shiftLeft, BitVec.getLsbD_or, BitVec.getLsbD_one, show i + 1 < 64 by omega]; exact ⟨rfl, rfl⟩
          · split at hs
            · obtain rfl := Option.some.inj hs
              simp [BitVec.getLsbD_shiftLeft, BitVec.getLsbD_or, BitVec.getLsbD_one, show i + 1 < 64 by omega]; exact ⟨rfl, rfl⟩
            · cases hs
      have hb : (d.v.getLsbD 0 = true → d.m.getLsbD 0 = true) ∧ (if d.m.getLsbD 0 = false then (120 : UInt8) else if d.v.getLsbD 0 = false then 48 else 49) = b := by
        unfold step at hs
        split at hs
        · obtain rfl := Option.some.inj hs
          rename_i e
          simp [BitVec.getLsbD_shiftLeft, BitVec.getLsbD_or, BitVec.getLsbD_one, e]
        · split at hs
          · obtain rfl := Option.some.inj hs
            rename_i e
            simp [BitVec.getLsbD_shiftLeft, BitVec.getLsbD_or, BitVec.getLsbD_one, e]
          · split at hs
            · obtain rfl := Option.some.inj hs
              rename_i e
              simp [BitVec.getLsbD_shiftLeft, BitVec.getLsbD_or, BitVec.getLsbD_one, e]
            · cases hs
      refine ⟨?_, ?_, ?_⟩
      · rw [List.length_cons, fmtL, hf, chr, h0.1, h0.2, hb.2]
      · intro i h64 hle
        simp only [List.length_cons] at hle ⊢
        have e := hi i h64 (by omega)
        have e2 := hd (i - r.length - 1) (by omega)
        rw [show i - r.length - 1 + 1 = i - r.length by omega] at e2
        rw [e.1, e.2, e2.1, e2.2, Nat.sub_sub]
        exact ⟨rfl, rfl⟩
      · intro i hlt
        simp only [List.length_cons] at hlt
        by_cases he : i = r.length
        · subst he; rw [h0.1, h0.2]; exact hb.1
        · exact hj i (by omega)
theorem parse_fmt {s : List UInt8} (h : (parse s).2 = 0) : fmtC (parse s).1.1 (parse s).1.2 = (s, 0) ∧ chkC (parse s).1.1 (parse s).1.2 = 0 := by
  unfold parse at h ⊢
  split
  · rename_i h0; rw [if_pos h0] at h; cases h
  · rename_i h0
    rw [if_neg h0] at h
    split
    · rename_i h1; rw [if_pos h1] at h; cases h
    · rename_i h1
      rw [if_neg h1] at h
      cases hp : parseL s zC with
      | none => rw [hp] at h; cases h
      | some c =>
        have hl : s.length ≤ 64 := by omega
        have hl1 : 1 ≤ s.length := by have := List.length_pos_iff.2 h0; omega
        obtain ⟨hf, hi, hj⟩ := parseL_facts hp hl
        have hz : ∀ i, (zC.v.getLsbD i = false ∧ zC.m.getLsbD i = false) := fun i => ⟨BitVec.getLsbD_zero, BitVec.getLsbD_zero⟩
        have hc : chkC c (s.length : Int) = 0 := by
          refine (chk_iff hl1 hl).2 ⟨fun j hjj hv => ?_, fun j hjj hm => ?_⟩
          · by_cases hlt : j < s.length
            · exact hj j hlt hv
            · rw [(hi j hjj (by omega)).1, (hz _).1] at hv; cases hv
          · by_cases hlt : j < s.length
            · exact hlt
            · rw [(hi j hjj (by omega)).2, (hz _).2] at hm; cases hm
        refine ⟨?_, hc⟩
        simp only [fmtC, hc, Int.toNat_natCast, hf, if_true]
theorem shr_step {x : W64} {k : Nat} (hk : k < 64) : x >>> k = (x >>> (k + 1)) <<< 1 ||| (if x.getLsbD k = true then 1#64 else 0#64) := by
  refine bit_ext fun j hj => ?_
  cases j with
  | zero =>
    simp only [BitVec.getLsbD_or, BitVec.getLsbD_ushiftRight, BitVec.getLsbD_shiftLeft, Nat.add_zero]
    cases h : x.getLsbD k <;> simp [h]
  | succ j =>
    have e : (if x.getLsbD k = true then 1#64 else 0#64 : W64).getLsbD (j + 1) = false := by
      split <;> simp [BitVec.getLsbD_one]
    simp only [BitVec.getLsbD_or, BitVec.getLsbD_ushiftRight, BitVec.getLsbD_shiftLeft, e, Bool.or_false, hj, decide_true, Bool.true_and, Nat.add_sub_cancel]
    simp
    rw [show k + (j + 1) = k + 1 + j by omega]
theorem parse_of_fmt {c : Cu} (hc : can c) : ∀ {k : Nat}, k ≤ 64 → parseL (fmtL c k) ⟨c.v >>> k, c.m >>> k⟩ = some c
  | 0, _ => by rw [fmtL, parseL]; simp
  | k + 1, hk => by
    rw [fmtL, parseL]
    have e : step ⟨c.v >>> (k + 1), c.m >>> (k + 1)⟩ (chr c k) = some ⟨c.v >>> k, c.m >>> k⟩ := by
      rw [shr_step (x := c.v) (k := k) (by omega), shr_step (x := c.m) (k := k) (by omega)]
      have hck := hc k (by omega)
      unfold chr step
      cases hm : c.m.getLsbD k
      · have hv : c.v.getLsbD k = false := by
          cases hv : c.v.getLsbD k with
          | false => rfl
          | true => rw [hck hv] at hm; cases hm
        simp [hv]
      · cases hv : c.v.getLsbD k <;> simp
    rw [e]
    exact parse_of_fmt hc (by omega)
theorem fmt_parse {c : Cu} {w : Int} (h : chkC c w = 0) : parse (fmtL c w.toNat) = ((c, w), 0) := by
  obtain ⟨hw, _, _⟩ := chk_ok h
  obtain ⟨k, rfl, hk1, hk2⟩ := okW_nat hw
  obtain ⟨hc, hi⟩ := (chk_iff hk1 hk2).1 h
  rw [Int.toNat_natCast]
  have hl := fmtL_len c k
  unfold parse
  rw [if_neg (by intro e; rw [e] at hl; simp at hl; omega), if_neg (by omega)]
  have hz : zC = ⟨c.v >>> k, c.m >>> k⟩ := by
    have hm : c.m >>> k = 0#64 := zero_iff.2 fun j hj => by
      rw [BitVec.getLsbD_ushiftRight]
      by_cases hb : c.m.getLsbD (k + j) = true
      · have : k + j < 64 := BitVec.lt_of_getLsbD hb
        have := hi _ this hb
        omega
      · simpa using hb
    have hv : c.v >>> k = 0#64 := zero_iff.2 fun j hj => by
      rw [BitVec.getLsbD_ushiftRight]
      by_cases hb : c.v.getLsbD (k + j) = true
      · have h64 : k + j < 64 := BitVec.lt_of_getLsbD hb
        have := hi _ h64 (hc _ h64 hb)
        omega
      · simpa using hb
    rw [hm, hv]
    rfl
  rw [hz, parse_of_fmt hc hk2, hl]
end Go.Proofs.Ytopnabckbpogeaa

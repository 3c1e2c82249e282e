/-
  A library of the claim's own, part 2 of 6: a reckoner over abstract values and objects for the model's code, and that it is sound. No statement of a program stands here.
-/
import Derived.Test.YticeakkgoafiaaaVm1
import Derived.Laws.BytesString
import Derived.MapKept
import Derived.ChangeKeysEq
set_option linter.all false
namespace Go.Vm
variable [GlobTab]
section
variable {O : Nat → Prop} {β : List Pl} {w : World} {H : List Ob} {K : V → List Ob → Prop} {P : Program} {tt : Nat → TI}
theorem VR.ptr_add {own : Nat → Prop} {id ver off : Nat} {v : Value} (h : VR own w β (.ptr id ver off) v) (k : Nat) : ∃ a, v = .pointer (some a) ∧ VR own w β (.ptr id ver (off + k)) (.pointer (some (a.add k))) := by
 simp only [VR] at h ⊢
 obtain ⟨⟨a, rfl⟩, h⟩ := h
 refine ⟨a, rfl, ⟨_, rfl⟩, ?_⟩
 cases hl : β[id]? with
 | none => rw [hl] at h; exact h.elim
 | some l =>
  rw [hl] at h
  cases l <;> simp only [PtrR] at h ⊢
  ·exact h
  ·refine ⟨h.1, fun e => ?_⟩
   have := h.2 e
   simp only [Value.pointer.injEq, Option.some.injEq] at this
   rw [this, addr_add, Nat.add_assoc]
theorem VR.fp_add {own : Nat → Prop} {cells : List V} {v : Value} (h : VR own w β (.fp cells) v) (k : Nat) : ∃ a, v = .pointer (some a) ∧ VR own w β (.fp (cells.drop k)) (.pointer (some (a.add k))) := by
 simp only [VR] at h ⊢
 obtain ⟨b, off, l, rfl, h1, h2, h3, h4⟩ := h
 refine ⟨_, rfl, b, off + k, l.drop k, by rw [addr_add], h1, h2, ?_, h4.drop k⟩
 intro i v hv
 rw [List.getElem?_drop] at hv
 rw [Nat.add_assoc]
 exact h3 _ v hv
theorem tpos_k {t : TI} (h : tpos t = true) : t.k ≠ .other := by intro e; simp [tpos, e] at h
theorem tpos_size {t : TI} (h : tpos t = true) : 0 < t.size := by
 unfold tpos at h
 cases hk : t.k <;> simp_all
theorem fldA_sound (tok : TOK P tt) (hh : HR O β w H) {t f : Nat} {x : V} {v : Value} (hv : VR (Own O β) w β x v) (h : (fldAR tt (tt t) x f H).then K) : Good O β w ((Instr.fieldAt t v f).run P w) K := by
 unfold fldAR at h
 split at h
 ·rename_i fs hk
  obtain ⟨d, hd, ha, hdk⟩ := (tok t (by rw [hk]; simp)).desc
  rw [hk] at hdk
  obtain ⟨fields, rfl, hfs⟩ := hdk
  split at h
  ·rename_i o ft hf
   split at h
   ·rename_i hp
    have hfield : ∃ fl : Field, fields[f]? = some fl ∧ fl.offset = o ∧ fl.type = ft := by
     rw [← hfs, List.getElem?_map] at hf
     simp only [Array.getElem?_toList, Option.map_eq_some_iff, Prod.mk.injEq] at hf
     obtain ⟨fl, h1, h2, h3⟩ := hf
     exact ⟨fl, h1, h2, h3⟩
    obtain ⟨fl, hfl, rfl, rfl⟩ := hfield
    have hrun : ∀ a : Addr, (Instr.fieldAt t (.pointer (some a)) f).run P w = .ok (.pointer (some (a.add fl.offset))) w := by
     intro a
     have hsz := tok.sizeOf (tpos_k hp) w
     have := tpos_size hp
     simp [Instr.fieldAt, run_underlying hd, hfl, Instr.sureAddr, fieldPlace, hsz, show (tt fl.type).size ≠ 0 by omega]
    split at h
    ·obtain ⟨a, rfl, hr⟩ := VR.ptr_add hv fl.offset
     exact Good.same (hrun a) hh h hr
    ·obtain ⟨a, rfl, hr⟩ := VR.fp_add hv fl.offset
     exact Good.same (hrun a) hh h hr
    ·exact h.elim
   ·exact h.elim
  ·exact h.elim
 ·exact h.elim
theorem idxA_sound (tok : TOK P tt) (hh : HR O β w H) {t : Nat} {x : V} {v : Value} {k : IntKind} {i : Int}
  (ht : ∀ e, (tt t).k = .slice e → (tt e).k ≠ .other) (ht2 : ∀ n e, (tt t).k = .arr n e → (tt e).k ≠ .other)
  (hv : VR (Own O β) w β x v) (h : (idxAR tt (tt t) x i true H).then K) : Good O β w ((Instr.indexAt t v (.int k i)).run P w) K := by
 unfold idxAR at h
 split at h
 ·rename_i e isnil cells len hk
  obtain ⟨d, hd, ha, hdk⟩ := (tok t (by rw [hk]; simp)).desc
  rw [hk] at hdk; simp only at hdk; subst hdk
  simp only [Res.then, imp] at h
  obtain ⟨⟨h0, h1⟩, hK⟩ := h
  have hsz := tok.sizeOf (ht e hk) w
  simp only [VR] at hv
  rcases hv with ⟨_, rfl, rfl, _⟩ | ⟨_, b, off, cap, l, rfl, h2, h3, h4, h5, h6⟩
  ·omega
  ·refine Good.same (v := .pointer (some ⟨b, off + i.toNat * (tt e).size, none⟩)) ?_ hh hK ?_
   ·simp [Instr.indexAt, asIntOf, run_underlying hd, h0, h1, hsz, addr_add]
   ·have := (VR.fp_add (own := Own O β) (w := w) (β := β) (cells := cells) (v := .pointer (some ⟨b, off, none⟩)) (by simp only [VR]; exact ⟨b, off, l, rfl, h3, h4, h5, h6⟩) (i.toNat * (tt e).size))
    obtain ⟨a, ha, hr⟩ := this
    cases ha
    rw [addr_add] at hr; exact hr
 ·rename_i e id ver off len sz hk
  split at h
  ·rename_i hsz'
   obtain ⟨d, hd, ha, hdk⟩ := (tok t (by rw [hk]; simp)).desc
   rw [hk] at hdk; simp only at hdk; subst hdk
   simp only [Res.then, imp] at h
   obtain ⟨⟨h0, h1⟩, hK⟩ := h
   have hsz := tok.sizeOf (ht e hk) w
   simp only [VR] at hv
   obtain ⟨⟨a, c, rfl, _, ha⟩, hb⟩ := hv
   have ha' := ha (by omega)
   obtain ⟨a, rfl⟩ := Option.isSome_iff_exists.1 ha'
   refine Good.same (v := .pointer (some (a.add (i.toNat * (tt e).size)))) ?_ hh hK ?_
   ·simp [Instr.indexAt, asIntOf, run_underlying hd, h0, h1, hsz]
   ·simp only [VR]
    refine ⟨⟨_, rfl⟩, ?_⟩
    cases hl : β[id]? with
    | none => rw [hl] at hb; exact hb.elim
    | some l =>
     rw [hl] at hb
     cases l <;> simp only [BufR, PtrR] at hb ⊢
     ·rename_i ver'
      rcases Nat.lt_or_eq_of_le hb.1 with h3 | h3
      ·exact h3
      ·have := hb.2 h3; simp at this
     ·refine ⟨hb.1, fun e' => ?_⟩
      obtain ⟨a', cap, h3, h4, _, h5, h6⟩ := hb.2 e'
      simp only [Value.slice.injEq, Option.some.injEq] at h3
      obtain ⟨rfl, _, rfl⟩ := h3
      rw [h5 (by omega), addr_add, Nat.add_assoc]
  ·exact h.elim
 ·rename_i n e id ver off hk
  obtain ⟨d, hd, ha, hdk⟩ := (tok t (by rw [hk]; simp)).desc
  rw [hk] at hdk; simp only at hdk; subst hdk
  simp only [Res.then, imp] at h
  obtain ⟨⟨h0, h1⟩, hK⟩ := h
  have hsz := tok.sizeOf (ht2 n e hk) w
  obtain ⟨a, rfl, hr⟩ := VR.ptr_add hv (i.toNat * (tt e).size)
  refine Good.same ?_ hh hK hr
  simp [Instr.indexAt, asIntOf, run_underlying hd, h0, h1, hsz, Instr.sureAddr]
 ·rename_i n e cells hk
  obtain ⟨d, hd, ha, hdk⟩ := (tok t (by rw [hk]; simp)).desc
  rw [hk] at hdk; simp only at hdk; subst hdk
  simp only [Res.then, imp] at h
  obtain ⟨⟨h0, h1⟩, hK⟩ := h
  have hsz := tok.sizeOf (ht2 n e hk) w
  obtain ⟨a, rfl, hr⟩ := VR.fp_add hv (i.toNat * (tt e).size)
  refine Good.same ?_ hh hK hr
  simp [Instr.indexAt, asIntOf, run_underlying hd, h0, h1, hsz, Instr.sureAddr]
 ·exact h.elim
theorem part_sound (tok : TOK P tt) {t : Nat} (ht : ldT (tt t) = true) {own : Nat → Prop} {cs : List V} {l : List Value} {off : Nat} (hv : VRs own w β cs l) (hlen : off + (tt t).size ≤ cs.length) :
  ∃ v, (part t l.toArray off).run P w = .ok v w ∧ VR own w β (mkV (tt t) (getV cs off (tt t).size)) v := by
 have hk := ldT_k ht
 have hll := hv.length
 cases ha : (tt t).agg with
 | true =>
  refine ⟨.agg ((l.drop off).take (tt t).size).toArray, ?_, ?_⟩
  ·simp [part, Sem.run_bind, tok.isAgg hk, ha, tok.sizeOf hk, List.extract_eq_take_drop, Nat.add_sub_cancel_left]
  ·simp only [mkV, ha, VR]
   exact ⟨_, rfl, (hv.drop off).take _⟩
 | false =>
  have h1 := ldT_one ht ha
  rw [h1] at hlen ⊢
  have hx : cs[off]? = some cs[off] := List.getElem?_eq_getElem (by omega)
  obtain ⟨v, hv1, hv2⟩ := hv.get hx
  refine ⟨v, by simp [part, Sem.run_bind, tok.isAgg hk, ha, hv1], ?_⟩
  have : getV cs off 1 = [cs[off]] := by
   simp [getV, List.take_one, List.head?_drop, hx]
  simpa only [mkV, ha, this] using hv2
theorem idx_sound (tok : TOK P tt) (hh : HR O β w H) {t : Nat} {x : V} {v : Value} {k : IntKind} {i : Int}
  (ht2 : ∀ n e, (tt t).k = .arr n e → ldT (tt e) = true)
  (hv : VR (Own O β) w β x v) (h : (idxR tt (tt t) x i true H).then K) : Good O β w ((Instr.index t v (.int k i)).run P w) K := by
 unfold idxR at h
 split at h
 ·rename_i s hk
  obtain ⟨d, hd, ha, hdk⟩ := (tok t (by rw [hk]; simp)).desc
  rw [hk] at hdk; simp only at hdk; subst hdk
  simp only [Res.then, imp] at h
  obtain ⟨⟨h0, h1⟩, hK⟩ := h
  simp only [VR] at hv; subst hv
  refine Good.int hh hK ?_
  have hlt : i.toNat < s.length := by omega
  have hget : (ByteArray.mk s.toArray)[i.toNat]? = some (s.getD i.toNat 0) := by
   rw [getElem?_pos _ _ (by simpa [ByteArray.size] using hlt)]
   simp [List.getD, List.getElem?_eq_getElem hlt]
   rfl
  simp [Instr.index, asIntOf, run_underlying hd, h0, hget]
 ·rename_i n e cs hk
  obtain ⟨d, hd, ha, hdk⟩ := (tok t (by rw [hk]; simp)).desc
  rw [hk] at hdk; simp only at hdk; subst hdk
  simp only [Res.then, imp] at h
  obtain ⟨⟨⟨h0, h1⟩, hlen⟩, hK⟩ := h
  replace hlen := (lenOK_true hlen).1
  simp only [VR] at hv
  obtain ⟨l, rfl, hl⟩ := hv
  have hld := ht2 n e hk
  have hsz := tok.sizeOf (ldT_k hld) w
  obtain ⟨u, hu, hr⟩ := part_sound tok hld hl hlen
  exact Good.same (v := u) (by simp [Instr.index, asIntOf, run_underlying hd, h0, h1, hsz, hu]) hh hK hr
 ·exact h.elim
theorem fld_sound (tok : TOK P tt) (hh : HR O β w H) {t f : Nat} {x : V} {v : Value} (ht2 : ∀ fs o ft, (tt t).k = .struct fs → fs[f]? = some (o, ft) → ldT (tt ft) = true)
  (hv : VR (Own O β) w β x v) (h : (fldR tt (tt t) x f true H).then K) : Good O β w ((Instr.field t v f).run P w) K := by
 unfold fldR at h
 split at h
 ·rename_i fs hk
  obtain ⟨d, hd, ha, hdk⟩ := (tok t (by rw [hk]; simp)).desc
  rw [hk] at hdk
  obtain ⟨fields, rfl, hfs⟩ := hdk
  split at h
  ·rename_i o ft cs hf
   have hfield : ∃ fl : Field, fields[f]? = some fl ∧ fl.offset = o ∧ fl.type = ft := by
    have hf' := hf
    rw [← hfs, List.getElem?_map] at hf'
    simp only [Array.getElem?_toList, Option.map_eq_some_iff, Prod.mk.injEq] at hf'
    obtain ⟨fl, h1, h2, h3⟩ := hf'
    exact ⟨fl, h1, h2, h3⟩
   obtain ⟨fl, hfl, rfl, rfl⟩ := hfield
   simp only [Res.then] at h
   obtain ⟨hlen, hK⟩ := h
   replace hlen := (lenOK_true hlen).1
   simp only [VR] at hv
   obtain ⟨l, rfl, hl⟩ := hv
   obtain ⟨u, hu, hr⟩ := part_sound tok (ht2 fs _ _ hk hf) hl hlen
   exact Good.same (v := u) (by simp [Instr.field, run_underlying hd, hfl, asAgg, hu]) hh hK hr
  ·exact h.elim
 ·exact h.elim
theorem len_sound (tok : TOK P tt) (hh : HR O β w H) {t ty : Nat} {x : V} {v : Value} {args : Array Nat} (hargs : args[0]? = some t) (hv : VR (Own O β) w β x v) (h : (lenR (tt t) x H).then K) :
  Good O β w ((Builtin.len_ args ty #[v]).run P w) K := by
 unfold lenR at h
 split at h
 ·rename_i s hk
  obtain ⟨d, hd, ha, hdk⟩ := (tok t (by rw [hk]; simp)).desc
  rw [hk] at hdk; simp only at hdk; subst hdk
  simp only [VR] at hv; subst hv
  exact Good.int hh h (by simp [Builtin.len_, hargs, run_underlying hd, goInt, size_mk])
 ·rename_i e _ cells n hk
  obtain ⟨d, hd, ha, hdk⟩ := (tok t (by rw [hk]; simp)).desc
  rw [hk] at hdk; simp only at hdk; subst hdk
  simp only [VR] at hv
  rcases hv with ⟨_, rfl, rfl, _⟩ | ⟨_, b, off, cap, l, rfl, _⟩ <;> exact Good.int hh h (by simp [Builtin.len_, hargs, run_underlying hd, goInt])
 ·rename_i e id ver off n sz hk
  obtain ⟨d, hd, ha, hdk⟩ := (tok t (by rw [hk]; simp)).desc
  rw [hk] at hdk; simp only at hdk; subst hdk
  simp only [VR] at hv
  obtain ⟨⟨a, c, rfl, _, _⟩, _⟩ := hv
  exact Good.int hh h (by simp [Builtin.len_, hargs, run_underlying hd, goInt])
 ·rename_i n e x hk
  obtain ⟨d, hd, ha, hdk⟩ := (tok t (by rw [hk]; simp)).desc
  rw [hk] at hdk; simp only at hdk; subst hdk
  exact Good.int hh h (by simp [Builtin.len_, hargs, run_underlying hd, goInt])
 ·exact h.elim
end
end Go.Vm
namespace Go.Vm
variable [GlobTab]
section
variable {O : Nat → Prop} {β : List Pl} {w : World} {H : List Ob} {K : V → List Ob → Prop} {P : Program} {tt : Nat → TI}
def bnd (o : Option (IntKind × Int)) (d : Int) : Int := match o with | some x => x.2 | none => d
def bval (o : Option (IntKind × Int)) : Option Value := match o with | some x => some (.int x.1 x.2) | none => none
theorem bnd_some (x : IntKind × Int) (d : Int) : bnd (some x) d = x.2 := rfl
theorem bnd_none (d : Int) : bnd none d = d := rfl
theorem bound_run {k : IntKind} {i : Int} {y : Nat} {c : BoundsCode} (ha : 0 ≤ i) (hb : i ≤ y) : (Instr.sliceBound (.int k i) y c).run P w = .ok i.toNat w := by
 simp [Instr.sliceBound, asIntOf, ha, hb]
theorem bounds_run {isS : Bool} {len cap : Nat} {lo hi mx : Option (IntKind × Int)} (h0 : 0 ≤ bnd lo 0) (h1 : bnd lo 0 ≤ bnd hi len)
  (h2 : bnd hi len ≤ bnd mx cap) (h3 : bnd mx cap ≤ (cap : Int)) (hm : mx.isSome = true → hi.isSome = true) :
  (Instr.sliceBounds isS len cap (bval lo) (bval hi) (bval mx)).run P w = .ok ((bnd lo 0).toNat, (bnd hi len).toNat, (bnd mx cap).toNat) w := by
 unfold Instr.sliceBounds
 cases mx with
 | none =>
  cases hi with
  | none =>
   cases lo with
   | none => simp [bnd, bval]
   | some lo =>
    simp only [bnd] at h0 h1 h2 h3
    simp only [bnd, bval, Sem.run_bind, Sem.run_pure, Result.andThen_ok, Option.isSome_none, Bool.false_eq_true, if_false]
    rw [bound_run h0 h1]
    simp
  | some hi =>
   cases lo with
   | none =>
    simp only [bnd] at h0 h1 h2 h3
    simp only [bnd, bval, Sem.run_bind, Sem.run_pure, Result.andThen_ok]
    rw [bound_run h1 h2]
    simp
   | some lo =>
    simp only [bnd] at h0 h1 h2 h3
    simp only [bnd, bval, Sem.run_bind, Sem.run_pure, Result.andThen_ok, Option.isSome_none, Bool.false_eq_true, if_false]
    rw [bound_run (by omega) h2]
    simp only [Result.andThen_ok]
    rw [bound_run h0 (by omega)]
    simp
 | some mx =>
  cases hi with
  | none => simp at hm
  | some hi =>
   cases lo with
   | none =>
    simp only [bnd] at h0 h1 h2 h3
    simp only [bnd, bval, Sem.run_bind, Sem.run_pure, Result.andThen_ok]
    rw [bound_run (by omega) h3]
    simp only [Result.andThen_ok]
    rw [bound_run (by omega) (by omega)]
    simp
   | some lo =>
    simp only [bnd] at h0 h1 h2 h3
    simp only [bnd, bval, Sem.run_bind, Sem.run_pure, Option.isSome_some, if_true]
    rw [bound_run (by omega) h3]
    simp only [Result.andThen_ok]
    rw [bound_run (by omega) (by omega)]
    simp only [Result.andThen_ok]
    rw [bound_run h0 (by omega)]
    simp
theorem extract_mk (l : List UInt8) (a b : Nat) : (ByteArray.mk l.toArray).extract a b = ByteArray.mk ((l.drop a).take (b - a)).toArray := by
 apply ByteArray.ext
 simp [ByteArray.data_extract, List.extract_eq_take_drop]
def bint (o : Option (IntKind × Int)) : Option Int := match o with | some x => some x.2 | none => none
theorem bint_getD (o : Option (IntKind × Int)) (d : Int) : (bint o).getD d = bnd o d := by cases o <;> rfl
theorem sl_str (tok : TOK P tt) (hh : HR O β w H) {t : Nat} {s : List UInt8} {lo hi : Option (IntKind × Int)} (hk : (tt t).k = .str)
  (h0 : 0 ≤ bnd lo 0) (h1 : bnd lo 0 ≤ bnd hi s.length) (h2 : bnd hi s.length ≤ (s.length : Int))
  (hK : K (.str ((s.drop (bnd lo 0).toNat).take ((bnd hi s.length).toNat - (bnd lo 0).toNat))) H) :
  Good O β w ((Instr.sliceAt t (.string ⟨s.toArray⟩) (bval lo) (bval hi) none).run P w) K := by
 obtain ⟨d, hd, ha, hdk⟩ := (tok t (by rw [hk]; simp)).desc
 rw [hk] at hdk; simp only at hdk; subst hdk
 refine Good.str hh hK ?_
 have := bounds_run (P := P) (w := w) (isS := false) (len := s.length) (cap := s.length) (lo := lo) (hi := hi) (mx := none) h0 h1 (by simpa [bnd] using h2) (by simp [bnd]) (by simp)
 simp only [bval] at this
 simp only [Instr.sliceAt, Instr.slice, Sem.run_bind, run_underlying hd, Result.andThen_ok, size_mk, Option.isSome_none, Bool.false_eq_true, if_false]
 simp only [bval, this, Result.andThen_ok, extract_mk, Sem.run_pure]
theorem sl_run (tok : TOK P tt) {t e : Nat} (hk : (tt t).k = .slice e) (he : (tt e).k ≠ .other) {a : Option Addr} {len cap : Nat} {lo hi mx : Option (IntKind × Int)} (h0 : 0 ≤ bnd lo 0) (h1 : bnd lo 0 ≤ bnd hi len)
  (h2 : bnd hi len ≤ bnd mx cap) (h3 : bnd mx cap ≤ (cap : Int)) (hm : mx.isSome = true → hi.isSome = true) :
  (Instr.sliceAt t (.slice a len cap) (bval lo) (bval hi) (bval mx)).run P w =
   .ok (.slice (if (bnd mx cap).toNat = (bnd lo 0).toNat then a else a.map (·.add ((bnd lo 0).toNat * (tt e).size))) ((bnd hi len).toNat - (bnd lo 0).toNat) ((bnd mx cap).toNat - (bnd lo 0).toNat)) w := by
 obtain ⟨d, hd, ha, hdk⟩ := (tok t (by rw [hk]; simp)).desc
 rw [hk] at hdk; simp only at hdk; subst hdk
 have := bounds_run (P := P) (w := w) (isS := true) h0 h1 h2 h3 hm
 simp only [Instr.sliceAt, Instr.slice, Sem.run_bind, run_underlying hd, Result.andThen_ok, this, tok.sizeOf he, Sem.run_pure]
theorem sl_arr_run (tok : TOK P tt) {t n e : Nat} (hk : (tt t).k = .arr n e) (he : (tt e).k ≠ .other) {a : Addr} {lo hi mx : Option (IntKind × Int)} (h0 : 0 ≤ bnd lo 0) (h1 : bnd lo 0 ≤ bnd hi n)
  (h2 : bnd hi n ≤ bnd mx n) (h3 : bnd mx n ≤ (n : Int)) (hm : mx.isSome = true → hi.isSome = true) :
  (Instr.sliceAt t (.pointer (some a)) (bval lo) (bval hi) (bval mx)).run P w =
   .ok (.slice (some (if (bnd mx n).toNat = (bnd lo 0).toNat then a else a.add ((bnd lo 0).toNat * (tt e).size))) ((bnd hi n).toNat - (bnd lo 0).toNat) ((bnd mx n).toNat - (bnd lo 0).toNat)) w := by
 obtain ⟨d, hd, ha, hdk⟩ := (tok t (by rw [hk]; simp)).desc
 rw [hk] at hdk; simp only at hdk; subst hdk
 have := bounds_run (P := P) (w := w) (isS := false) h0 h1 h2 h3 hm
 simp only [Instr.sliceAt, Instr.sureAddr, Sem.run_bind, run_underlying hd, Result.andThen_ok, this, tok.sizeOf he, Sem.run_pure]
theorem sl_sound (tok : TOK P tt) (hh : HR O β w H) {t : Nat} {x : V} {v : Value} {lo hi mx : Option (IntKind × Int)}
  (ht : ∀ e, (tt t).k = .slice e → (tt e).k ≠ .other) (ht2 : ∀ n e, (tt t).k = .arr n e → (tt e).k ≠ .other) (hm : mx.isSome = true → hi.isSome = true)
  (hv : VR (Own O β) w β x v) (h : (slR tt (tt t) x (bint lo) (bint hi) (bint mx) true H).then K) :
  Good O β w ((Instr.sliceAt t v (bval lo) (bval hi) (bval mx)).run P w) K := by
 unfold slR at h
 split at h
 ·rename_i s hk
  simp only [VR] at hv; subst hv
  cases mx with
  | some _ => simp [bint, Res.then] at h
  | none =>
   simp only [bint_getD] at h
   simp only [bint, Res.then, imp] at h
   obtain ⟨⟨h0, h1, h2⟩, hK⟩ := h
   exact sl_str tok hh hk h0 h1 h2 hK
 ·rename_i e isnil cells len hk
  simp only [bint_getD] at h
  simp only [Res.then, imp] at h
  obtain ⟨⟨h0, h1, h2, h3⟩, hK⟩ := h
  simp only [VR] at hv
  rcases hv with ⟨a0, rfl, rfl, hn0⟩ | ⟨hn, b, off, cap, l, rfl, g2, g3, g4, g5, g6⟩
  ·have hmx : bnd mx (0 : Nat) = 0 := by
    cases mx with
    | none => rfl
    | some m => rw [bnd_some] at h2 h3 ⊢; omega
   have hr := sl_run (P := P) (w := w) (a := a0) (cap := 0) tok hk (ht e hk) h0 h1 (by omega) (by omega) hm
   refine Good.same (v := .slice a0 0 0) ?_ hh hK ?_
   ·rw [hr, if_pos (by omega), show (bnd hi (0 : Nat)).toNat - (bnd lo 0).toNat = 0 by omega, show (bnd mx (0 : Nat)).toNat - (bnd lo 0).toNat = 0 by omega]
   ·simp only [VR]
    exact .inl ⟨a0, rfl, by omega, hn0⟩
  ·have hmx : bnd hi len ≤ bnd mx cap ∧ bnd mx cap ≤ cap := by
    cases mx with
    | none => rw [bnd_none] at h2 h3 ⊢; omega
    | some m => rw [bnd_some] at h2 h3 ⊢; omega
   have hr := sl_run (P := P) (w := w) (a := some ⟨b, off, none⟩) (cap := cap) tok hk (ht e hk) h0 h1 hmx.1 hmx.2 hm
   refine Good.same hr hh hK ?_
   subst hn
   simp only [VR]
   refine .inr ⟨trivial, ?_⟩
   by_cases hml : (bnd mx cap).toNat = (bnd lo 0).toNat
   ·rw [if_pos hml]
    refine ⟨b, off, _, [], rfl, by omega, g3, g4, fun i v hv => by simp at hv, ?_⟩
    rw [show (bnd hi len).toNat - (bnd lo 0).toNat = 0 by omega]
    simp [VRs]
   ·rw [if_neg hml]
    refine ⟨b, off + (bnd lo 0).toNat * (tt e).size, (bnd mx cap).toNat - (bnd lo 0).toNat, (l.drop ((bnd lo 0).toNat * (tt e).size)).take (((bnd hi len).toNat - (bnd lo 0).toNat) * (tt e).size), ?_, by omega, g3, g4, ?_, (g6.drop _).take _⟩
    ·simp only [Option.map_some, addr_add]
    ·intro i v hv
     rw [List.getElem?_take] at hv
     split at hv
     ·rw [List.getElem?_drop] at hv
      rw [Nat.add_assoc]; exact g5 _ v hv
     ·simp at hv
 ·rename_i e id ver off len sz hk
  simp only [bint_getD] at h
  split at h
  ·rename_i hsz
   obtain rfl : sz = (tt e).size := by simpa using hsz
   simp only [Res.then, imp] at h
   obtain ⟨⟨h0, h1, h2, h3⟩, hK⟩ := h
   simp only [VR] at hv
   obtain ⟨⟨a, cap, rfl, hcap, ha⟩, hb⟩ := hv
   have hmx : bnd hi len ≤ bnd mx cap ∧ bnd mx cap ≤ cap := by
    cases mx with
    | none => rw [bnd_none] at h2 h3 ⊢; omega
    | some m => rw [bnd_some] at h2 h3 ⊢; omega
   have hr := sl_run (P := P) (w := w) (a := a) (cap := cap) tok hk (ht e hk) h0 h1 hmx.1 hmx.2 hm
   refine Good.same hr hh hK ?_
   simp only [VR]
   refine ⟨⟨_, _, rfl, by omega, fun hne => ?_⟩, ?_⟩
   ·have h7 := ha (by omega)
    obtain ⟨a, rfl⟩ := Option.isSome_iff_exists.1 h7
    split <;> rfl
   ·cases hl : β[id]? with
    | none => rw [hl] at hb; exact hb.elim
    | some l =>
     rw [hl] at hb
     cases l <;> simp only [BufR] at hb ⊢
     ·refine ⟨hb.1, fun e' => ?_⟩
      obtain ⟨h3', rfl, rfl⟩ := hb.2 e'
      simp only [Value.slice.injEq, true_and] at h3'
      obtain ⟨rfl, rfl⟩ := h3'
      have e0 : ∀ (c : Prop) [Decidable c] (f : Addr → Addr), (if c then (none : Option Addr) else Option.map f none) = none := fun c _ f => by split <;> rfl
      have z0 : (bnd lo 0).toNat = 0 := by omega
      rw [e0, z0, show (bnd hi (0 : Nat)).toNat - 0 = 0 by omega, show (bnd mx (0 : Nat)).toNat - 0 = 0 by omega]
      simp
     ·refine ⟨hb.1, fun e' => ?_⟩
      obtain ⟨a', cap', h3', h4, ⟨o4, ho4⟩, h5, h6⟩ := hb.2 e'
      simp only [Value.slice.injEq, true_and] at h3'
      obtain ⟨rfl, rfl⟩ := h3'
      by_cases hml : (bnd mx cap).toNat = (bnd lo 0).toNat
      ·refine ⟨a', (bnd mx cap).toNat - (bnd lo 0).toNat, by rw [if_pos hml], by omega, ⟨o4, ho4⟩, fun hc => by omega, ?_⟩
       have h8 : (bnd lo 0).toNat * (tt e).size ≤ cap * (tt e).size := Nat.mul_le_mul_right _ (by omega)
       rw [show (bnd mx cap).toNat - (bnd lo 0).toNat = 0 by omega, Nat.zero_mul]
       omega
      ·refine ⟨a'.add ((bnd lo 0).toNat * (tt e).size), (bnd mx cap).toNat - (bnd lo 0).toNat, by rw [if_neg hml]; rfl, by omega, ⟨o4 + (bnd lo 0).toNat * (tt e).size, by rw [ho4, addr_add]⟩, fun hc => ?_, ?_⟩
       ·rw [h5 (by omega), addr_add, Nat.add_assoc]
       ·have h8 : ((bnd lo 0).toNat + ((bnd mx cap).toNat - (bnd lo 0).toNat)) * (tt e).size ≤ cap * (tt e).size := Nat.mul_le_mul_right _ (by omega)
        rw [Nat.add_mul] at h8
        omega
  ·exact h.elim
 ·rename_i n e id ver off hk
  simp only [bint_getD] at h
  split at h
  ·rename_i ver' l hg
   simp only [Res.then, imp] at h
   obtain ⟨⟨⟨rfl, h0, h1, h2, h3⟩, hlen⟩, hK⟩ := h
   replace hlen := (lenOK_true hlen).1
   obtain ⟨b, base, cs, ty, e1, rfl, e3, e4, _, _⟩ := live_cells hh hg hv hlen
   have hmx : bnd hi n ≤ bnd mx n ∧ bnd mx n ≤ n := by
    cases mx with
    | none => rw [bnd_none] at h2 h3 ⊢; omega
    | some m => rw [bnd_some] at h2 h3 ⊢; omega
   have hr := sl_arr_run (P := P) (w := w) (a := ⟨b, base + off, none⟩) tok hk (ht2 n e hk) h0 h1 hmx.1 hmx.2 hm
   refine Good.same hr hh hK ?_
   simp only [VR]
   refine ⟨⟨_, _, rfl, by omega, fun _ => rfl⟩, ?_⟩
   rw [e1]
   simp only [BufR, Nat.le_refl, true_and, forall_const]
   refine ⟨_, _, rfl, by omega, ?_, fun hc => ?_, ?_⟩
   ·split
    ·exact ⟨_, rfl⟩
    ·exact ⟨_, addr_add _ _ _⟩
   ·rw [if_neg (by omega), addr_add, Nat.add_assoc]
   ·have h8 : ((bnd lo 0).toNat + ((bnd mx n).toNat - (bnd lo 0).toNat)) * (tt e).size ≤ n * (tt e).size := Nat.mul_le_mul_right _ (by omega)
    rw [Nat.add_mul] at h8
    omega
  ·exact h.elim
 ·exact h.elim
end
end Go.Vm
namespace Go.Vm
variable [GlobTab]
section
variable {O : Nat → Prop} {β : List Pl} {w : World} {H : List Ob} {K : V → List Ob → Prop} {P : Program} {tt : Nat → TI}
theorem box_sound (hh : HR O β w H) {e nid : Nat} (hf : Free H nid) {x : V} {v : Value} (hc : x.cok = true) (hv : VR (Own O β) w β x v) (hK : K (.ptr nid 0 0) (place H nid (.cells 0 x.cells))) :
  Good O β w ((Instr.box e v).run P w) K := by
 obtain ⟨h1, h2⟩ := hh.alloc (ty := e) hf (hv.cells' hc)
 exact ⟨_, _, rfl, _, _, _, hK, h1, VR.new_ptr hh hf, h2⟩
theorem alloc_sound (tok : TOK P tt) (hh : HR O β w H) {e nid : Nat} (hf : Free H nid) (he : (tt e).k ≠ .other) (hc : (tt e).zero.cok = true)
  (hK : K (.ptr nid 0 0) (place H nid (.cells 0 (tt e).zero.cells))) : Good O β w ((Instr.alloc e true (.tuple #[])).run P w) K := by
 obtain ⟨z, hz, hzr, _, _⟩ := tok.zero he
 have hr := hzr (Own O β) w β
 obtain ⟨h1, h2⟩ := hh.alloc (ty := e) hf (hr.cells' hc)
 refine ⟨_, _, ?_, _, _, _, hK, h1, VR.new_ptr hh hf, h2⟩
 simp [Instr.alloc, hz, newVar, newRow]
theorem fold_set (us : List Value) : ∀ (cs : Array Value) (off k : Nat), off + k + us.length ≤ cs.size →
  (us.zipIdx k).foldl (fun cs (x : Value × Nat) => cs.setIfInBounds (off + x.2) x.1) cs = (cs.toList.take (off + k) ++ us ++ cs.toList.drop (off + k + us.length)).toArray := by
 induction us with
 | nil => intro cs off k h; simp
 | cons u us ih =>
  intro cs off k h
  simp only [List.length_cons] at h
  simp only [List.zipIdx_cons, List.foldl_cons]
  rw [ih _ _ _ (by simp; omega)]
  have e := list_seg_step cs.toList (off + k) u us (by simp; omega)
  congr 1
  simpa [Array.toList_setIfInBounds, Nat.add_assoc] using e
theorem fill_sound {own : Nat → Prop} {pl : Nat → Option (Nat × Nat)} : ∀ {ps : List (Nat × V)} {qs : List (Nat × Value)} {cs r : List V} {l : Array Value},
  fillP pl cs ps = some r → (∀ p ∈ ps, p.2.cok = true) → ps.map (·.1) = qs.map (·.1) → VRs own w β (ps.map (·.2)) (qs.map (·.2)) → VRs own w β cs l.toList →
  ∃ r', Instr.fill pl l qs = some r' ∧ VRs own w β r r'.toList := by
 intro ps
 induction ps with
 | nil =>
  intro qs cs r l h _ hq _ hc
  cases qs with
  | nil => simp only [fillP, Option.some.injEq] at h; subst h; exact ⟨l, rfl, hc⟩
  | cons _ _ => simp at hq
 | cons p ps ih =>
  intro qs cs r l h hok hq hv hc
  cases qs with
  | nil => simp at hq
  | cons q qs =>
   obtain ⟨i, x⟩ := p
   obtain ⟨j, v⟩ := q
   simp only [List.map_cons, List.cons.injEq] at hq
   obtain ⟨rfl, hq⟩ := hq
   simp only [List.map_cons, VRs] at hv
   simp only [fillP] at h
   split at h
   ·simp at h
   ·rename_i off size hpl
    split at h
    ·rename_i hs hb
     replace hs := Nat.eq_of_beq_eq_true hs
     simp only [Nat.ble_eq] at hb
     have hxc := hv.1.cells' (hok (i, x) (by simp))
     have hxl := hxc.length
     simp at hxl
     have hcl := hc.length
     simp at hcl
     have hfit : off + x.cells.length ≤ cs.length := by omega
     have := ih (l := v.cells.zipIdx.foldl (fun cs (x : Value × Nat) => cs.setIfInBounds (off + x.2) x.1) l) h (fun p hp => hok p (by simp [hp])) hq hv.2 ?_
     ·obtain ⟨r', h1, h2⟩ := this
      refine ⟨r', ?_, h2⟩
      simp only [Instr.fill, hpl]
      rw [if_neg (by simp; omega)]
      exact h1
     ·rw [← Array.foldl_toList, Array.toList_zipIdx, fold_set _ _ _ _ (by simp; omega)]
      have := splice_VRs (base := 0) (l := cs) (ys := x.cells) (A := l.toList) (us := v.cells.toList) (off := off) (own := own) (w := w) (β := β) (by rw [List.drop_zero, List.take_of_length_le (by simp; omega)]; exact hc) hxc (by simp; omega) hfit
      rw [List.drop_zero, List.take_of_length_le (by rw [putV_length _ hfit]; simp; omega)] at this
      simpa using this
    ·simp at h
theorem places_run (tok : TOK P tt) (fields : List Field) (h : ∀ f ∈ fields, (tt f.type).k ≠ .other) :
  (fields.mapM fun f => Prod.mk f.offset <$> sizeOf f.type : Sem (List (Nat × Nat))).run P w = .ok (fields.map fun f => (f.offset, (tt f.type).size)) w := by
 induction fields with
 | nil => simp
 | cons f fs ih =>
  have h1 := tok.sizeOf (h f (by simp)) w
  have h2 := ih (fun g hg => h g (by simp [hg]))
  simp [List.mapM_cons, h1, h2]
def partsT (tt : Nat → TI) (t : TI) : Bool :=
 match t.k with
 | .struct fs => fs.all fun f => match (tt f.2).k with | .other => false | _ => true
 | .arr _ e => match (tt e).k with | .other => false | _ => true
 | _ => false
theorem build_sound (tok : TOK P tt) (hh : HR O β w H) {t : Nat} {ps : List (Nat × V)} {qs : List (Nat × Value)} {r : List V} (ht : partsT tt (tt t) = true) (hz : (tt t).zero.cok = true)
  (hr : fillP (placeOf tt (tt t)) (tt t).zero.cells ps = some r) (hok : ∀ p ∈ ps, p.2.cok = true) (hq : ps.map (·.1) = qs.map (·.1))
  (hv : VRs (Own O β) w β (ps.map (·.2)) (qs.map (·.2))) (hK : K (.agg r) H) : Good O β w ((Instr.build t qs.toArray).run P w) K := by
 have hk : (tt t).k ≠ .other := by intro e; simp [partsT, e] at ht
 obtain ⟨z, hz1, hz2, _, _⟩ := tok.zero hk
 obtain ⟨d, hd, ha, hdk⟩ := (tok t hk).desc
 have hzr := (hz2 (Own O β) w β).cells' hz
 have fin : ∀ pl, (∀ i, pl i = placeOf tt (tt t) i) → ∃ r', Instr.fill pl z.cells qs = some r' ∧ VRs (Own O β) w β r r'.toList := fun pl hpl => by
  obtain rfl : pl = placeOf tt (tt t) := funext hpl
  exact fill_sound hr hok hq hv hzr
 unfold partsT at ht
 split at ht
 ·rename_i fs hks
  rw [hks] at hdk
  obtain ⟨fields, rfl, hfs⟩ := hdk
  have hkn : ∀ f ∈ fields.toList, (tt f.type).k ≠ .other := by
   intro f hf e
   have := List.all_eq_true.1 ht (f.offset, f.type) (by rw [← hfs]; exact List.mem_map_of_mem (f := fun f : Field => (f.offset, f.type)) hf)
   simp [e] at this
  have hp := places_run (w := w) tok fields.toList hkn
  obtain ⟨r', h1, h2⟩ := fin (fun i => (fields.toList.map fun f => (f.offset, (tt f.type).size))[i]?) (fun i => by
   simp only [placeOf, hks, ← hfs, List.getElem?_map]
   cases fields.toList[i]? <;> rfl)
  refine Good.same (v := .agg r') ?_ hh hK (by simp only [VR]; exact ⟨r'.toList, by simp, h2⟩)
  have h1' : Instr.fill (fun x => (fields.toList.map fun f => (f.offset, (tt f.type).size)).toArray[x]?) z.cells qs = some r' := by
   simpa using h1
  simp only [Instr.build, Sem.run_bind, hz1, Result.andThen_ok, run_underlying hd, bind_pure_comp]
  rw [Array.mapM_eq_mapM_toList]
  simp [hp]
  have : (Instr.fill (fun x => (fields[x]?).map fun f => (f.offset, (tt f.type).size)) z.cells qs) = some r' := by
   rw [← h1]; congr 1; funext x; simp
  simp [this]
 ·rename_i n e hks
  rw [hks] at hdk
  simp only at hdk
  subst hdk
  have hke : (tt e).k ≠ .other := by intro e'; simp [e'] at ht
  obtain ⟨r', h1, h2⟩ := fin (fun i => some (i * (tt e).size, (tt e).size)) (fun i => by simp only [placeOf, hks])
  refine Good.same (v := .agg r') ?_ hh hK (by simp only [VR]; exact ⟨r'.toList, by simp, h2⟩)
  simp [Instr.build, hz1, run_underlying hd, tok.sizeOf hke, h1]
 ·simp at ht
theorem rep_VRs {own : Nat → Prop} {zs : List V} {us : List Value} (h : VRs own w β zs us) : ∀ n, VRs own w β (List.replicate n zs).flatten (List.replicate n us).flatten
 | 0 => by simp [VRs]
 | n + 1 => by
  simp only [List.replicate_succ, List.flatten_cons]
  exact h.append (rep_VRs h n)
theorem mod_map {α : Type} [Inhabited α] (z : Array α) (n : Nat) (hz : 0 < z.size) : ((Array.range (n * z.size)).map (z[· % z.size]!)).toList = (List.replicate n z.toList).flatten := by
 induction n with
 | zero => simp [Array.range_zero']
 | succ n ih =>
  apply List.ext_getElem?
  intro i
  simp only [Array.toList_map, Array.toList_range] at ih ⊢
  rw [List.replicate_succ', List.flatten_append, ← ih]
  simp only [List.flatten_cons, List.flatten_nil, List.append_nil]
  rw [List.getElem?_append]
  simp only [List.length_map, List.length_range]
  split
  ·rename_i h
   simp only [List.getElem?_map]
   rw [List.getElem?_range h, List.getElem?_range (by rw [Nat.add_mul]; omega)]
  ·rename_i h
   by_cases h2 : i < (n + 1) * z.size
   ·simp only [List.getElem?_map]
    rw [List.getElem?_range h2]
    rw [Nat.add_mul] at h2
    have e : i % z.size = i - n * z.size := by
     have : i = n * z.size + (i - n * z.size) := by omega
     rw [this, Nat.mul_add_mod_self_right, Nat.mod_eq_of_lt (by omega)]
     omega
    simp only [Option.map_some, e]
    rw [getElem!_pos z (i - n * z.size) (by omega)]
    simp [show i - n * z.size < z.size by omega]
   ·rw [Nat.add_mul] at h2
    rw [List.getElem?_eq_none (by simp [Nat.add_mul]; omega), List.getElem?_eq_none (by simp; omega)]
theorem repC_eq (n : Nat) (z : List V) : repC n z = (List.replicate n z).flatten := by
 unfold repC
 split
 ·rename_i x
  induction n with
  | zero => rfl
  | succ n ih => simp only [List.replicate_succ, List.flatten_cons, ih]; rfl
 ·rfl
theorem make_sound (tok : TOK P tt) (hh : HR O β w H) {t e nid : Nat} (hf : Free H nid) (hk : (tt t).k = .slice e) (he : (tt e).k ≠ .other) (hz : (tt e).zero.cok = true) {kl kc : IntKind} {n m : Int}
  (h : (makeR (tt e) n m nid H).then K) : Good O β w ((Instr.makeSlice t (.int kl n) (.int kc m)).run P w) K := by
 obtain ⟨d, hd, ha, hdk⟩ := (tok t (by rw [hk]; simp)).desc
 rw [hk] at hdk; simp only at hdk; subst hdk
 obtain ⟨i, z, h1, h2, h3, h4, h5, h6, h7⟩ := (tok e he).info
 simp only [makeR, Res.then, capMax] at h
 obtain ⟨⟨rfl, n0, nmax, nb, ns⟩, hK⟩ := h
 have hb : (i.bytes : Int) * n ≤ 281474976710656 := by
  rw [h3]
  have : ((tt e).bytes : Int) * n ≤ 1024 * 68719476736 := Int.mul_le_mul (by omega) (by omega) n0 (by omega)
  omega
 have hr := run_make (P := P) w t e i z hd h1 h4 kl kc n n n0 (Int.le_refl _) hb (by omega)
 have hzr := (h5 (Own O β) w β).cells' hz
 have hcells : (madeCells z.cells (n.toNat * i.size)).toList = (List.replicate n.toNat z.cells.toList).flatten := by
  unfold madeCells
  rw [h2, ← h6]
  exact mod_map _ _ (by omega)
 obtain ⟨g1, g2⟩ := hh.alloc (ty := e) (cs := madeCells z.cells (n.toNat * i.size)) (l := repC n.toNat (tt e).zero.cells) hf (by rw [hcells, repC_eq]; exact rep_VRs hzr _)
 refine ⟨_, _, hr, _, _, _, hK, g1, ?_, g2⟩
 exact VR.new_buf hh hf (Nat.le_refl _) (by rw [size_madeCells, h2]; omega)
theorem buildSlice_run (tok : TOK P tt) {t e n : Nat} {qs : List (Nat × Value)} {own : Nat → Prop} {ps : List (Nat × V)} {r : List V} (hk : (tt t).k = .slice e) (he : (tt e).k ≠ .other) (hz : (tt e).zero.cok = true)
  (hs : 0 < (tt e).size) (hn : n * (tt e).size ≤ 16777216)
  (hr : fillP (fun i => some (i * (tt e).size, (tt e).size)) (repC n (tt e).zero.cells) ps = some r) (hok : ∀ p ∈ ps, p.2.cok = true) (hq : ps.map (·.1) = qs.map (·.1))
  (hv : VRs own w β (ps.map (·.2)) (qs.map (·.2))) :
  ∃ cs, (Instr.buildSlice t n qs.toArray).run P w = .ok (.slice (some ⟨w.heap.size, 0, none⟩) n n) (w.alloc (.cells cs e)) ∧ VRs own w β r cs.toList := by
 obtain ⟨d, hd, ha, hdk⟩ := (tok t (by rw [hk]; simp)).desc
 rw [hk] at hdk; simp only at hdk; subst hdk
 obtain ⟨z, hz1, hz2, hz3, _⟩ := tok.zero he
 have hzr := (hz2 own w β).cells' hz
 have hm := mod_map z.cells n (by omega)
 rw [hz3] at hm
 obtain ⟨r', h1, h2⟩ := fill_sound (l := (Array.range (n * (tt e).size)).map (z.cells[· % z.cells.size]!)) hr hok hq hv (by rw [hz3, hm, repC_eq]; exact rep_VRs hzr _)
 refine ⟨r', ?_, h2⟩
 have hn' : ¬ (16777216 < n * (tt e).size) := by omega
 by_cases h0 : n * (tt e).size = 0
 ·have hn0 : n = 0 := by
   rcases Nat.mul_eq_zero.1 h0 with h | h
   ·exact h
   ·omega
  subst hn0
  simp only [Nat.zero_mul, Array.range_zero', Array.map_empty] at h1
  simp [Instr.buildSlice, run_underlying hd, tok.sizeOf he, Array.range_zero', h1, newRow]
 ·simp [Instr.buildSlice, run_underlying hd, tok.sizeOf he, hn', h0, hz1, h1, newRow]
theorem VRs.cellsAt {cs : Array Value} {ty : TypeId} : CellsAt (w.alloc (.cells cs ty)) w.heap.size 0 cs.toList := by
 intro i v hv
 rw [Nat.zero_add, World.cell?_alloc_new]
 simpa using hv
theorem Ext.alloc (hh : HR O β w H) (o : Obj) : Ext β w β (w.alloc o) ∧ HR O β (w.alloc o) H := by
 have he : Ext β w β (w.alloc o) := ⟨by simp, fun b hb _ => heap_alloc_old w o b hb, rfl, rfl, rfl, fun _ h => .inl h, fun i l hi => by rw [hi]; exact l.le_refl⟩
 refine ⟨he, hh.len, ?_, hh.inj, fun b hb => Nat.lt_of_lt_of_le (hh.lt b hb) he.size, hh.apart, fun b hb => Nat.lt_of_lt_of_le (hh.old b hb) he.size, hh.glob.ext he⟩
 intro i loc ob hi ho
 have h0 := hh.ob i loc ob hi ho
 cases ob with
 | unborn => exact h0
 | dead => exact h0
 | cells ver l =>
  simp only [ObR] at h0 ⊢
  refine h0.imp id ?_
  rintro ⟨b, base, cs, ty, h1, h2, h3, h4⟩
  exact ⟨b, base, cs, ty, h1, by rw [heap_alloc_old w o b (hh.lt b ⟨i, loc, hi, by rw [h1]; rfl⟩)]; exact h2, h3, VRs.ext he _ _ h4⟩
 | map es =>
  simp only [ObR] at h0 ⊢
  obtain ⟨b, en, clock, h1, h2, h3, h4⟩ := h0
  exact ⟨b, en, clock, h1, by rw [heap_alloc_old w o b (hh.lt b ⟨i, loc, hi, by rw [h1]; rfl⟩)]; exact h2, VRs.ext he _ _ h3, VRs.ext he _ _ h4⟩
end
end Go.Vm
namespace Go.Vm
variable [GlobTab]
section
variable {O : Nat → Prop} {β : List Pl} {w : World} {H : List Ob} {K : V → List Ob → Prop} {P : Program} {tt : Nat → TI}
theorem firstCells_at {b off len cap n sz : Nat} {l : List Value} {w0 : World} (hl : l.length = n * sz) (h : ∀ i v, l[i]? = some v → w0.cell? ⟨b, off + i, none⟩ = some v) :
  (Builtin.firstCells sz n (.slice (some ⟨b, off, none⟩) len cap)).run P w0 = .ok l.toArray w0 :=
 run_firstCells_some (P := P) w0 sz n ⟨b, off, none⟩ len cap l hl (fun j v hj => by rw [addr_add]; exact h j v hj)
theorem src_run (hh : HR O β w H) {x : V} {v : Value} {sz n : Nat} {src : List V} (hv : VR (Own O β) w β x v) (hs : srcC x sz H = some (src, n)) (hp : srcP x sz H) :
  (∀ w0, (Builtin.lenOf v).run P w0 = .ok n w0) ∧ ∃ news : List Value, VRs (Own O β) w β src news ∧ src.length = n * sz ∧
   ∀ m, m ≤ n → ∀ w0 : World, w0.heap = w.heap → (Builtin.firstCells sz m v).run P w0 = .ok (news.take (m * sz)).toArray w0 := by
 have hcell : ∀ (w0 : World), w0.heap = w.heap → ∀ a, w0.cell? a = w.cell? a := fun w0 e a => by simp [World.cell?, e]
 unfold srcC at hs
 split at hs
 ·rename_i isnil cells n'
  simp only [Option.some.injEq, Prod.mk.injEq] at hs
  obtain ⟨rfl, rfl⟩ := hs
  simp only [srcP] at hp
  simp only [VR] at hv
  rcases hv with ⟨a0, rfl, rfl, _⟩ | ⟨_, b, off, cap, l, rfl, h2, h3, h4, h5, h6⟩
  ·refine ⟨fun w0 => by simp [Builtin.lenOf], [], by simp [VRs], by simp, fun m hm0 w0 _ => by
    obtain rfl : m = 0 := by omega
    cases a0 <;> simp [Builtin.firstCells, loadCells, loadCellsFrom]⟩
  ·refine ⟨fun w0 => by simp [Builtin.lenOf], l.take (n' * sz), h6.take _, by simp; omega, fun m hm w0 e => ?_⟩
   have hlen := h6.length
   have hmn : m * sz ≤ n' * sz := Nat.mul_le_mul_right _ hm
   rw [firstCells_at (l := (l.take (n' * sz)).take (m * sz)) (by simp; omega)]
   intro i v hi
   rw [List.take_take, List.getElem?_take] at hi
   split at hi
   ·rw [hcell w0 e]; exact h5 i v hi
   ·simp at hi
 ·rename_i id ver off n' sz'
  split at hs
  ·rename_i ver' l hg
   simp only [Option.some.injEq, Prod.mk.injEq] at hs
   obtain ⟨rfl, rfl⟩ := hs
   simp only [srcP, hg] at hp
   obtain ⟨rfl, rfl, hp⟩ := hp
   simp only [VR] at hv
   obtain ⟨⟨a, c, rfl, hc, ha⟩, hb⟩ := hv
   rcases hh.cells hg with ⟨e1, rfl⟩ | ⟨b, base, cs, ty, e1, e3, e4, e5⟩
   ·rw [e1] at hb
    simp only [BufR, Nat.le_refl, true_and, forall_const] at hb
    obtain ⟨hb, rfl, rfl⟩ := hb
    simp only [Value.slice.injEq, true_and] at hb
    obtain ⟨rfl, rfl⟩ := hb
    exact ⟨fun w0 => by simp [Builtin.lenOf], [], by simp [VRs], by simp, fun m _ w0 _ => by simp [Builtin.firstCells]⟩
   ·rw [e1] at hb
    simp only [BufR, Nat.le_refl, true_and, forall_const] at hb
    obtain ⟨a', cap, hb, h4, _, h5, h6⟩ := hb
    simp only [Value.slice.injEq, true_and] at hb
    obtain ⟨rfl, rfl⟩ := hb
    have hnl := (e5.drop off).take (n' * sz')
    rw [List.drop_take, List.take_take, List.drop_drop, show min (n' * sz') (l.length - off) = n' * sz' by omega] at hnl
    refine ⟨fun w0 => by simp [Builtin.lenOf], _, hnl, by simp; omega, fun m hm w0 e => ?_⟩
    have hmn : m * sz' ≤ n' * sz' := Nat.mul_le_mul_right _ hm
    by_cases hz : c = 0
    ·have : n' = 0 := by omega
     subst this
     have : m = 0 := by omega
     subst this
     simp [Builtin.firstCells, loadCells, loadCellsFrom]
    ·rw [h5 hz]
     rw [firstCells_at (l := (((cs.toList.drop (base + off)).take (n' * sz')).take (m * sz'))) (by simp; omega)]
     intro i v hi
     rw [List.take_take, List.getElem?_take] at hi
     split at hi
     ·rw [hcell w0 e, cell_of_heap e3]
      rw [List.getElem?_drop, Array.getElem?_toList] at hi; exact hi
     ·simp at hi
  ·simp at hs
 ·rename_i s
  simp only [Option.some.injEq, Prod.mk.injEq] at hs
  obtain ⟨rfl, rfl⟩ := hs
  simp only [srcP] at hp
  subst hp
  simp only [VR] at hv; subst hv
  refine ⟨fun w0 => by simp [Builtin.lenOf, size_mk], s.map fun b => .int .u8 b.toNat, ?_, by simp, fun m hm w0 e => ?_⟩
  ·refine VRs.of_get (by simp) ?_
   intro i x v hx hv
   simp only [List.getElem?_map, Option.map_eq_some_iff] at hx hv
   obtain ⟨c, h1, rfl⟩ := hx
   obtain ⟨c', h2, rfl⟩ := hv
   rw [h1] at h2; cases h2
   exact VR.mkInt
  ·simp only [Builtin.firstCells, Sem.run_pure]
   congr 1
   rw [extract_mk]
   simp [List.map_take]
 ·simp at hs
theorem growslice_ok {need old bytes : Nat} (h : old < need) (h1 : need ≤ capMax) (h2 : bytes ≤ 1024) : ¬ (Builtin.nextslicecap need old * bytes > 281474976710656) := by
 have h3 : Builtin.nextslicecap need old ≤ 2 * need := nextslicecap_le h
 have h4 : Builtin.nextslicecap need old * bytes ≤ (2 * capMax) * 1024 := Nat.mul_le_mul (by omega) h2
 simp only [capMax] at h4
 omega
theorem append_grow_run (tok : TOK P tt) {st xt e ty : Nat} {base : Option Addr} {sLen sCap n : Nat} {v : Value} {old news : List Value} (hk : (tt st).k = .slice e) (he : (tt e).k ≠ .other)
  (hx : (∃ e', (tt xt).k = .slice e') ∨ (tt xt).k = .str) (hcap : sLen + n ≤ capMax) (hby : (tt e).bytes ≤ 1024)
  (hlen : ∀ w0, (Builtin.lenOf v).run P w0 = .ok n w0)
  (hsrc : ∀ w0 : World, w0.heap = w.heap → (Builtin.firstCells (tt e).size n v).run P w0 = .ok news.toArray w0)
  (hold : ∀ w0 : World, w0.heap = w.heap → (Builtin.firstCells (tt e).size sLen (.slice base sLen sCap)).run P w0 = .ok old.toArray w0) (hg : sCap < sLen + n) :
  ∃ (c : Nat) (zs : List Value), sLen + n ≤ c ∧ zs.length = (c - (sLen + n)) * (tt e).size ∧ (Builtin.append_ #[st, xt] ty #[.slice base sLen sCap, v]).run P w =
   .ok (.slice (some ⟨w.heap.size, 0, none⟩) (sLen + n) c) ((w.drew).alloc (.cells (old ++ news ++ zs).toArray e)) := by
 obtain ⟨d, hd, ha, hdk⟩ := (tok st (by rw [hk]; simp)).desc
 rw [hk] at hdk; simp only at hdk; subst hdk
 obtain ⟨i, z, h1, h2, h3, h4, h5, h6, h7⟩ := (tok e he).info
 obtain ⟨d2, hd2, hint⟩ : ∃ d2, P.underlying xt = some d2 ∧ ((∃ e', d2 = .slice e') ∨ d2 = .string) := by
  rcases hx with ⟨e', hx⟩ | hx
  ·obtain ⟨d2, hd2, _, hdk2⟩ := (tok xt (by rw [hx]; simp)).desc
   rw [hx] at hdk2; exact ⟨d2, hd2, .inl ⟨e', hdk2⟩⟩
  ·obtain ⟨d2, hd2, _, hdk2⟩ := (tok xt (by rw [hx]; simp)).desc
   rw [hx] at hdk2; exact ⟨d2, hd2, .inr hdk2⟩
 have hn : ¬ (sLen + n ≤ sCap) := by omega
 have hbig : ¬ (9223372036854775807 < ((sLen : Int) + (n : Int))) := by simp only [capMax] at hcap; omega
 have hfit := growslice_ok hg hcap hby
 rw [← h3] at hfit
 refine ⟨grownCap w (sLen + n) sCap e, (Builtin.zeroCells z.cells (grownCap w (sLen + n) sCap e - (sLen + n))).toList, grownCap_ge w _ _ _, by simp [size_zeroCells, h6], ?_⟩
 have e1 := hsrc w.drew rfl
 have e2 := hold w.drew rfl
 rw [← h2] at e1 e2
 have hfit' : ¬ (281474976710656 < Builtin.nextslicecap (sLen + n) sCap * i.bytes) := hfit
 rcases hint with ⟨e', rfl⟩ | rfl <;> simp [Builtin.append_, run_underlying hd, run_underlying hd2, sizeOf, typeInfo, zeroValue, h1, h4, hlen, hn, hbig, hfit', Question.forced, e1, e2, newRow, grownCap]
 all_goals
  congr 2
  apply Array.ext'
  simp
theorem append_room_run (tok : TOK P tt) {st xt e ty : Nat} {base : Option Addr} {sLen sCap n : Nat} {v : Value} {news : List Value} (hk : (tt st).k = .slice e) (he : (tt e).k ≠ .other)
  (hx : (∃ e', (tt xt).k = .slice e') ∨ (tt xt).k = .str)
  (hlen : ∀ w0, (Builtin.lenOf v).run P w0 = .ok n w0) (hsrc : ∀ w0 : World, w0.heap = w.heap → (Builtin.firstCells (tt e).size n v).run P w0 = .ok news.toArray w0) (hg : sLen + n ≤ sCap) :
  (Builtin.append_ #[st, xt] ty #[.slice base sLen sCap, v]).run P w =
   (match base with | some a => (storeCells (a.add (sLen * (tt e).size)) news).run P w | none => .ok () w).andThen fun _ w' => .ok (.slice base (sLen + n) sCap) w' := by
 obtain ⟨d, hd, ha, hdk⟩ := (tok st (by rw [hk]; simp)).desc
 rw [hk] at hdk; simp only at hdk; subst hdk
 obtain ⟨i, z, h1, h2, h3, h4, h5, h6, h7⟩ := (tok e he).info
 obtain ⟨d2, hd2, hint⟩ : ∃ d2, P.underlying xt = some d2 ∧ ((∃ e', d2 = .slice e') ∨ d2 = .string) := by
  rcases hx with ⟨e', hx⟩ | hx
  ·obtain ⟨d2, hd2, _, hdk2⟩ := (tok xt (by rw [hx]; simp)).desc
   rw [hx] at hdk2; exact ⟨d2, hd2, .inl ⟨e', hdk2⟩⟩
  ·obtain ⟨d2, hd2, _, hdk2⟩ := (tok xt (by rw [hx]; simp)).desc
   rw [hx] at hdk2; exact ⟨d2, hd2, .inr hdk2⟩
 have e1 := hsrc w rfl
 rcases hint with ⟨e', rfl⟩ | rfl <;> cases base <;> simp [Builtin.append_, run_underlying hd, run_underlying hd2, sizeOf, typeInfo, h1, hlen, hg, e1, h2]
theorem app_sound (tok : TOK P tt) (hh : HR O β w H) {st xt e ty nid : Nat} (hf : Free H nid) (hk : (tt st).k = .slice e) (he : (tt e).k ≠ .other)
  (hx : (∃ e', (tt xt).k = .slice e') ∨ (tt xt).k = .str) {d x : V} {u v : Value} (hd : VR (Own O β) w β d u) (hv : VR (Own O β) w β x v) (h : (appR (tt e) d x nid H).then K) :
  Good O β w ((Builtin.append_ #[st, xt] ty #[u, v]).run P w) K := by
 unfold appR at h
 split at h
 ·exact h.elim
 ·rename_i src n hs
  split at h
  · -- append to nil
   simp only [Res.then] at h
   obtain ⟨⟨hp, hn, hby, hsz, hone⟩, hK⟩ := h
   obtain ⟨hlen, news, hnews, hsl, hrun⟩ := src_run hh hv hs hp
   have hrun' : ∀ w0 : World, w0.heap = w.heap → (Builtin.firstCells (tt e).size n v).run P w0 = .ok news.toArray w0 := fun w0 e0 => by
    have := hrun n (Nat.le_refl _) w0 e0
    rwa [List.take_of_length_le (by rw [hnews.length, hsl]; exact Nat.le_refl _)] at this
   simp only [VR] at hd
   rcases hd with ⟨a0, rfl, _, hn0⟩ | ⟨hb, _⟩
   ·obtain rfl : a0 = none := hn0 trivial
    by_cases h0 : n = 0
    ·subst h0
     have hsrc0 : src = [] := List.eq_nil_of_length_eq_zero (by rw [hsl]; omega)
     subst hsrc0
     have hr := append_room_run (P := P) (w := w) (ty := ty) tok (st := st) (xt := xt) (base := none) (sLen := 0) (sCap := 0) (news := news) hk he hx hlen hrun' (Nat.le_refl _)
     have hn' : nid ≤ β.length := by rw [hh.len]; exact hf.le
     have he' : Ext β w (place β nid (.nilb 0)) w := ⟨Nat.le_refl _, fun _ _ _ => rfl, rfl, rfl, rfl, (by
      rintro b ⟨i, l, hi, hl⟩
      rw [get_place hn'] at hi
      split at hi
      ·cases hi; simp [Pl.block?] at hl
      ·exact .inl ⟨i, l, hi, hl⟩), (by
      intro i l hi
      rw [get_place hn']
      split
      ·rename_i e'; subst e'; rw [hf.loc hh l hi]; trivial
      ·rw [hi]; exact l.le_refl)⟩
     refine ⟨_, _, hr, _, _, _, hK, HR.put hh hf.le he' (fun _ _ _ _ _ _ => rfl) (by simp only [ObR]; exact .inl ⟨trivial, trivial⟩) (fun b hb => by simp [Pl.block?] at hb), ?_, he'⟩
     simp only [VR]
     rw [get_place hn', if_pos rfl]
     exact ⟨⟨none, 0, rfl, Nat.le_refl _, fun h => absurd rfl h⟩, Nat.le_refl _, fun _ => ⟨rfl, rfl, rfl⟩⟩
    ·obtain ⟨c, zs, hc, hzl, hr⟩ := append_grow_run (P := P) (w := w) (ty := ty) tok (st := st) (xt := xt) (base := none) (sLen := 0) (sCap := 0) (news := news) (old := []) hk he hx (by omega) hby hlen hrun'
      (fun w0 _ => by simp [Builtin.firstCells]) (by omega)
     have hsize : (([] : List Value) ++ news ++ zs).toArray.size = c * (tt e).size := by
      simp [hnews.length, hsl, hzl, ← Nat.add_mul]
      congr 1; omega
     obtain ⟨g1, g2⟩ := hh.alloc' (nid := nid) (ver := 0) (cs := (([] : List Value) ++ news ++ zs).toArray) (ty := e) (l := src) (w0 := w.drew) hf.le (fun p hp => by rw [hf.loc hh p hp]; trivial) rfl rfl rfl rfl
      (by simp only [List.nil_append]; rw [List.take_append_of_le_length (by rw [hnews.length]; exact Nat.le_refl _), List.take_of_length_le (by rw [hnews.length]; exact Nat.le_refl _)]; exact hnews)
      (by simp [hnews.length])
     refine ⟨_, _, hr, _, _, _, hK, g1, ?_, g2⟩
     rw [Nat.zero_add]
     exact VR.new_buf hh hf (by omega) (by rw [hsize]; exact Nat.le_refl _)
   ·exact absurd hb (by simp)
  · -- append to a live object
   rename_i id ver off len sz
   split at h
   ·rename_i ver' l hg
    simp only [Res.then] at h
    obtain ⟨⟨hp, rfl, hsz, rfl, hfull, hn, hby, hone⟩, hK⟩ := h
    obtain ⟨hlen, news, hnews, hsl, hrun⟩ := src_run hh hv hs hp
    have hrun' : ∀ w0 : World, w0.heap = w.heap → (Builtin.firstCells (tt e).size n v).run P w0 = .ok news.toArray w0 := fun w0 e0 => by
     have := hrun n (Nat.le_refl _) w0 e0
     rwa [List.take_of_length_le (by rw [hnews.length, hsl]; exact Nat.le_refl _)] at this
    have hone' := hnews.oneAll (ones_true hone).1
    have hid := getO_lt hg (by simp)
    have hid' : id ≤ β.length := by rw [hh.len]; exact Nat.le_of_lt hid
    simp only [VR] at hd
    obtain ⟨⟨a, cap, rfl, hcap, ha⟩, hb⟩ := hd
    -- a new row for the same object
    have newrow : ∀ (old : List Value), old.length = len * (tt e).size → VRs (Own O β) w β (l.drop off) old → (∀ p, β[id]? = some p → ∀ B N, p.le (some (.blk B 0 N (ver + 1)))) →
      (∀ w0 : World, w0.heap = w.heap → (Builtin.firstCells (tt e).size len (.slice a len cap)).run P w0 = .ok old.toArray w0) → cap < len + n →
      Good O β w ((Builtin.append_ #[st, xt] ty #[.slice a len cap, v]).run P w) K := by
     intro old hol hor hle hold hgr
     obtain ⟨c, zs, hc, hzl, hr⟩ := append_grow_run (P := P) (w := w) (ty := ty) tok (st := st) (xt := xt) (base := a) (sLen := len) (sCap := cap) (news := news) (old := old) hk he hx hn hby hlen hrun' hold hgr
     have hsize : (old ++ news ++ zs).toArray.size = c * (tt e).size := by
      simp [hnews.length, hsl, hzl, hol, ← Nat.add_mul]
      congr 1; omega
     have hnl := hnews.length
     have horl := hor.length
     obtain ⟨g1, g2⟩ := hh.alloc' (nid := id) (ver := ver + 1) (cs := (old ++ news ++ zs).toArray) (ty := e) (l := l.drop off ++ src) (w0 := w.drew) (Nat.le_of_lt hid)
      (fun p hp => hle p hp _ _) rfl rfl rfl rfl
      (by
       have := hor.append hnews
       rw [List.take_append_of_le_length (by simp; omega), List.take_of_length_le (by simp; omega)]; exact this)
      (by simp; omega)
     refine ⟨_, _, hr, _, _, _, by rw [setO_place hid] at hK; exact hK, g1, ?_, g2⟩
     simp only [VR]
     rw [get_place hid', if_pos rfl]
     exact ⟨⟨_, _, rfl, hc, fun _ => rfl⟩, Nat.le_refl _, fun _ => ⟨_, c, rfl, hc, ⟨0, rfl⟩, fun _ => by simp, by rw [hsize]; simp⟩⟩
    rcases hh.cells hg with ⟨e1, rfl⟩ | ⟨b, base, cs, tyb, e1, e3, e4, e5⟩
    ·rw [e1] at hb
     simp only [BufR, Nat.le_refl, true_and, forall_const] at hb
     obtain ⟨hb, rfl, rfl⟩ := hb
     simp only [Value.slice.injEq, true_and] at hb
     obtain ⟨rfl, rfl⟩ := hb
     by_cases h0 : n = 0
     ·subst h0
      have hsrc0 : src = [] := List.eq_nil_of_length_eq_zero (by rw [hsl]; omega)
      subst hsrc0
      have hr := append_room_run (P := P) (w := w) (ty := ty) tok (st := st) (xt := xt) (base := none) (sLen := 0) (sCap := 0) (news := news) hk he hx hlen hrun' (Nat.le_refl _)
      have he' : Ext β w (place β id (.nilb (ver + 1))) w := ⟨Nat.le_refl _, fun _ _ _ => rfl, rfl, rfl, rfl, (by
       rintro b ⟨i, l, hi, hl⟩
       rw [get_place hid'] at hi
       split at hi
       ·cases hi; simp [Pl.block?] at hl
       ·exact .inl ⟨i, l, hi, hl⟩), (by
       intro i l hi
       rw [get_place hid']
       split
       ·rename_i e'; subst e'; rw [e1] at hi; cases hi; simp [Pl.le]
       ·rw [hi]; exact l.le_refl)⟩
      rw [setO_place hid] at hK
      refine ⟨_, _, hr, _, _, _, hK, HR.put hh (Nat.le_of_lt hid) he' (fun _ _ _ _ _ _ => rfl) (by simp only [ObR]; exact .inl ⟨trivial, by simp⟩) (fun b hb => by simp [Pl.block?] at hb), ?_, he'⟩
      simp only [VR]
      rw [get_place hid', if_pos rfl]
      exact ⟨⟨none, 0, rfl, Nat.le_refl _, fun h => absurd rfl h⟩, Nat.le_refl _, fun _ => ⟨rfl, rfl, rfl⟩⟩
     ·exact newrow [] (by simp) (by simp [VRs]) (fun p hp B N => by rw [e1] at hp; cases hp; simp [Pl.le]) (fun w0 _ => by simp [Builtin.firstCells]) (by omega)
    ·rw [e1] at hb
     simp only [BufR, Nat.le_refl, true_and, forall_const] at hb
     obtain ⟨a', cap', hb, h4, h4o, h5, h6⟩ := hb
     simp only [Value.slice.injEq, true_and] at hb
     obtain ⟨rfl, rfl⟩ := hb
     have holds := e5.drop off
     rw [List.drop_take, List.drop_drop] at holds
     have hll : l.length - off = len * (tt e).size := by omega
     by_cases hroom : len + n ≤ cap
     · -- room
      have hr := append_room_run (P := P) (w := w) (ty := ty) tok (st := st) (xt := xt) (base := some a') (sLen := len) (sCap := cap) (news := news) hk he hx hlen hrun' hroom
      have hfitc : (len + n) * (tt e).size ≤ cap * (tt e).size := Nat.mul_le_mul_right _ hroom
      rw [Nat.add_mul] at hfitc
      have hnl := hnews.length
      -- what is written
      have hst : ∃ cs' : Array Value, (storeCells (a'.add (len * (tt e).size)) news).run P w = .ok () (w.setRow b cs') ∧ cs' = (cs.toList.take (base + (off + len * (tt e).size)) ++ news ++ cs.toList.drop (base + (off + len * (tt e).size) + news.length)).toArray := by
       by_cases hz : cap = 0
       ·have hn0 : n = 0 := by omega
        have hnews0 : news = [] := List.eq_nil_of_length_eq_zero (by rw [hnl, hsl, hn0]; omega)
        subst hnews0
        refine ⟨cs, ?_, by simp⟩
        rw [setRow_self w b cs tyb (0, 0) e3]
        rfl
       ·rw [h5 hz, addr_add, Nat.add_assoc]
        have := run_storeCells_at (P := P) b (base + (off + len * (tt e).size)) tyb news 0 cs w e3 (by simp; omega) hone'
        simp only [Nat.add_zero] at this
        exact ⟨_, this, rfl⟩
      obtain ⟨cs', hst, rfl⟩ := hst
      simp only [hst, Result.andThen_ok] at hr
      generalize hcs' : (cs.toList.take (base + (off + len * (tt e).size)) ++ news ++ cs.toList.drop (base + (off + len * (tt e).size) + news.length)).toArray = cs' at hr
      have hcsize : cs'.size = cs.size := by rw [← hcs']; simp; omega
      have hin : InB β b := ⟨id, _, e1, rfl⟩
      have he' : Ext β w (place β id (.blk b (base + off) cs.size (ver + 1))) (w.setRow b cs') := ⟨by simp, fun k hk hn => setRow_other w b k cs' (fun e => hn (e ▸ hin)), rfl, rfl, rfl, (by
       rintro b2 ⟨i, l2, hi, hl⟩
       rw [get_place hid'] at hi
       split at hi
       ·cases hi; simp [Pl.block?] at hl; subst hl; exact .inl hin
       ·exact .inl ⟨i, l2, hi, hl⟩), (by
       intro i l2 hi
       rw [get_place hid']
       split
       ·rename_i e'; subst e'; rw [e1] at hi; cases hi; simp [Pl.le]
       ·rw [hi]; exact l2.le_refl)⟩
      rw [setO_place hid] at hK
      refine ⟨_, _, hr, _, _, _, hK, HR.put hh (Nat.le_of_lt hid) he' ?_ ?_ ?_, ?_, he'⟩
      ·intro j l2 b2 hj hj2 hb2
       exact setRow_other w b b2 cs' (fun e => hj (hh.inj j id l2 _ b (by exact hj2) e1 (e ▸ hb2) rfl))
      ·simp only [ObR]
       refine .inr ⟨b, base + off, cs', tyb, by rw [hcsize], setRow_heap w b cs cs' tyb _ e3, by simp; omega, ?_⟩
       have hcat := holds.append hnews
       have hlist : ((cs'.toList.drop (base + off)).take (l.drop off ++ src).length) = ((cs.toList.drop (base + off)).take (l.length - off)) ++ news := by
        rw [← hcs']
        simp only [List.length_append, List.length_drop, hll, hsl]
        apply List.ext_getElem?
        intro i
        rw [List.getElem?_take, List.getElem?_append]
        have hl1 : ((cs.toList.drop (base + off)).take (len * (tt e).size)).length = len * (tt e).size := by simp; omega
        rw [hl1]
        split
        ·rename_i hi
         rw [List.getElem?_drop, splice_get _ _ _ _ (by simp; omega)]
         by_cases hi2 : i < len * (tt e).size
         ·rw [if_pos (by omega), if_pos hi2, List.getElem?_take, if_pos hi2, List.getElem?_drop]
         ·rw [if_neg (by omega), if_pos (by rw [hnl, hsl]; omega), if_neg hi2]
          congr 1; omega
        ·rename_i hi
         rw [if_neg (by omega), List.getElem?_eq_none (by rw [hnl, hsl]; omega)]
       rw [hlist]
       exact VRs.ext he' _ _ hcat
      ·intro b2 hb2
       simp [Pl.block?] at hb2
       subst hb2
       exact ⟨by simpa using hh.lt b hin, hh.apart b hin, fun j l2 hj hj2 hb2 => hj (hh.inj j id l2 _ b hj2 e1 hb2 rfl)⟩
      ·simp only [VR]
       rw [get_place hid', if_pos rfl]
       exact ⟨⟨_, _, rfl, hroom, fun _ => rfl⟩, Nat.le_refl _, fun _ => ⟨a', cap, rfl, hroom, h4o, fun hc => by simpa using h5 hc, by omega⟩⟩
     ·refine newrow _ (by simp; omega) holds (fun p hp B N => by rw [e1] at hp; cases hp; simp [Pl.le]) (fun w0 e0 => ?_) (by omega)
      by_cases hz : cap = 0
      ·have : len = 0 := by omega
       subst this
       simp [Builtin.firstCells, loadCells, loadCellsFrom, hll]
      ·rw [h5 hz]
       refine firstCells_at (by simp; omega) ?_
       intro i v hi
       have hcell : ∀ a, w0.cell? a = w.cell? a := fun a => by simp [World.cell?, e0]
       rw [hcell, cell_of_heap e3]
       rw [List.getElem?_take] at hi
       split at hi
       ·rw [List.getElem?_drop, Array.getElem?_toList] at hi; exact hi
       ·simp at hi
   ·exact h.elim
  ·exact h.elim
theorem setO_self : ∀ {H : List Ob} {i : Nat} {o : Ob}, getO H i = o → o ≠ .dead → setO H i o = H
 | [], _, _, _, _ => rfl
 | x :: xs, 0, o, h, _ => by simp only [getO] at h; subst h; rfl
 | x :: xs, i + 1, o, h, ho => by simp only [getO] at h; simp only [setO, setO_self h ho]
theorem copy_run (tok : TOK P tt) {st xt e ty : Nat} {base : Option Addr} {dLen cap n : Nat} {v : Value} {news : List Value} (hk : (tt st).k = .slice e) (he : (tt e).k ≠ .other)
  (hlen : ∀ w0, (Builtin.lenOf v).run P w0 = .ok n w0) (hsrc : (Builtin.firstCells (tt e).size (min n dLen) v).run P w = .ok news.toArray w) :
  (Builtin.copy_ #[st, xt] ty #[.slice base dLen cap, v]).run P w =
   (match base with | some a => (storeCells a news).run P w | none => .ok () w).andThen fun _ w' => .ok (.int .i64 (min n dLen : Nat)) w' := by
 obtain ⟨d, hd, ha, hdk⟩ := (tok st (by rw [hk]; simp)).desc
 rw [hk] at hdk; simp only at hdk; subst hdk
 obtain ⟨i, z, h1, h2, h3, h4, h5, h6, h7⟩ := (tok e he).info
 rw [← h2] at hsrc
 cases base <;> simp [Builtin.copy_, run_underlying hd, sizeOf, typeInfo, h1, hlen, hsrc, goInt, h2, Nat.min_def] at hsrc ⊢ <;> simp [hsrc]
theorem copy_sound (tok : TOK P tt) (hh : HR O β w H) {st xt e ty : Nat} (hk : (tt st).k = .slice e) (he : (tt e).k ≠ .other)
  {d x : V} {u v : Value} (hd : VR (Own O β) w β d u) (hv : VR (Own O β) w β x v) (h : (copyR (tt e) d x H).then K) :
  Good O β w ((Builtin.copy_ #[st, xt] ty #[u, v]).run P w) K := by
 unfold copyR at h
 split at h
 ·rename_i src n id ver off len sz hs
  split at h
  ·rename_i ver' l hg
   simp only [Res.then] at h
   obtain ⟨⟨hp, rfl, rfl, hfit, hone⟩, hK⟩ := h
   obtain ⟨hlen, news, hnews, hsl, hrun⟩ := src_run (P := P) hh hv hs hp
   have hrun' := hrun (min n len) (Nat.min_le_left _ _) w rfl
   have hone' := hnews.oneAll (ones_true hone).1
   have hnl := hnews.length
   have hm1 : min n len * (tt e).size ≤ n * (tt e).size := Nat.mul_le_mul_right _ (Nat.min_le_left _ _)
   have hm2 : min n len * (tt e).size ≤ len * (tt e).size := Nat.mul_le_mul_right _ (Nat.min_le_right _ _)
   have hid := getO_lt hg (by simp)
   simp only [VR] at hd
   obtain ⟨⟨a, cap, rfl, hcap, ha⟩, hb⟩ := hd
   have hr := copy_run (P := P) (w := w) (ty := ty) tok (st := st) (xt := xt) (base := a) (dLen := len) (cap := cap) hk he hlen hrun'
   rcases hh.cells hg with ⟨e1, rfl⟩ | ⟨b, base, cs, tyb, e1, e3, e4, e5⟩
   ·rw [e1] at hb
    simp only [BufR, Nat.le_refl, true_and, forall_const] at hb
    obtain ⟨hb, rfl, rfl⟩ := hb
    simp only [Value.slice.injEq, true_and] at hb
    obtain ⟨rfl, rfl⟩ := hb
    rw [Nat.min_zero, Nat.zero_mul, List.take_zero, show putV [] 0 ([] : List V) = [] from rfl, setO_self hg (by simp)] at hK
    rw [Nat.min_zero] at hr
    exact Good.int hh hK hr
   ·rw [e1] at hb
    simp only [BufR, Nat.le_refl, true_and, forall_const] at hb
    obtain ⟨a', cap', hb, h4, h4o, h5, h6⟩ := hb
    simp only [Value.slice.injEq, true_and] at hb
    obtain ⟨rfl, rfl⟩ := hb
    have hwl : (src.take (min n len * (tt e).size)).length = min n len * (tt e).size := by rw [List.length_take]; omega
    have hnwl : (news.take (min n len * (tt e).size)).length = min n len * (tt e).size := by rw [List.length_take]; omega
    have hvl : off + (src.take (min n len * (tt e).size)).length ≤ l.length := by omega
    have hst : (storeCells a' (news.take (min n len * (tt e).size))).run P w = .ok () (w.setRow b (cs.toList.take (base + off) ++ news.take (min n len * (tt e).size) ++ cs.toList.drop (base + off + (news.take (min n len * (tt e).size)).length)).toArray) := by
     by_cases hz : cap = 0
     ·have hl0 : len = 0 := by omega
      subst hl0
      simp only [Nat.min_zero, Nat.zero_mul, List.take_zero, List.append_nil, List.length_nil, Nat.add_zero, List.take_append_drop, Array.toArray_toList]
      rw [setRow_self w b cs tyb (0, 0) e3]
      rfl
     ·rw [h5 hz]
      have := run_storeCells_at (P := P) b (base + off) tyb (news.take (min n len * (tt e).size)) 0 cs w e3 (by omega) (fun x hx => hone' x (List.mem_of_mem_take hx))
      simpa only [Nat.add_zero] using this
    simp only [hst, Result.andThen_ok] at hr
    have := HR.write hh (l' := putV l off (src.take (min n len * (tt e).size))) (cs' := (cs.toList.take (base + off) ++ news.take (min n len * (tt e).size) ++ cs.toList.drop (base + off + (news.take (min n len * (tt e).size)).length)).toArray) hg e1 e3
     (by simp; omega) (by rw [putV_length _ hvl]; exact e4) (splice_VRs e5 (hnews.take _) (by simpa using e4) hvl)
    exact ⟨_, _, hr, _, _, β, hK, this.1, VR.mkInt, this.2⟩
  ·exact h.elim
 ·exact h.elim
theorem u8s_vals {own : Nat → Prop} : ∀ {xs : List V} {vs : List Value}, u8s xs = true → VRs own w β xs vs → ∃ ns : List Int, vs = ns.map (Value.int .u8) ∧ toBytes xs = ns.map fun n => UInt8.ofNat n.toNat
 | [], [], _, _ => ⟨[], rfl, rfl⟩
 | .int .u8 n :: xs, v :: vs, h, hv => by
  simp only [u8s] at h
  simp only [VRs, VR] at hv
  obtain ⟨rfl, hv⟩ := hv
  obtain ⟨ns, rfl, h2⟩ := u8s_vals h hv
  exact ⟨n :: ns, rfl, by simp only [toBytes, h2, List.map_cons]⟩
 | [], _ :: _, _, hv => by simp [VRs] at hv
 | _ :: _, [], _, hv => by simp [VRs] at hv
theorem push_all : ∀ (ns : List Int) (s : ByteArray), ns.foldl (fun r n => r.push (UInt8.ofNat n.toNat)) s = ⟨s.data ++ (ns.map fun n => UInt8.ofNat n.toNat).toArray⟩
 | [], s => by simp
 | n :: ns, s => by
  rw [List.foldl_cons, push_all ns]
  simp [ByteArray.push]
theorem bytes_sound (tok : TOK P tt) (hh : HR O β w H) {s t : Nat} {x : V} {v : Value} (hb : isBS tt (tt s) (tt t) = true) (hv : VR (Own O β) w β x v) (h : (bytesR x H).then K) : Good O β w ((convert s t v).run P w) K := by
 unfold isBS at hb
 split at hb
 ·rename_i e k1 k2
  split at hb
  ·rename_i k3
   obtain ⟨d1, hd1, _, hk1⟩ := (tok t (by rw [k1]; simp)).desc
   obtain ⟨d2, hd2, _, hk2⟩ := (tok s (by rw [k2]; simp)).desc
   obtain ⟨d3, hd3, _, hk3⟩ := (tok e (by rw [k3]; simp)).desc
   rw [k1] at hk1; rw [k2] at hk2; rw [k3] at hk3
   simp only at hk1 hk2 hk3
   subst hk1 hk2 hk3
   unfold bytesR at h
   split at h
   ·exact h.elim
   ·rename_i hns
    split at h
    ·exact h.elim
    ·rename_i src n hs
     obtain ⟨⟨hp, hu⟩, hk⟩ := h
     obtain ⟨_, news, h1, h2, h3⟩ := src_run (P := P) hh hv hs hp
     obtain ⟨ns, rfl, h4⟩ := u8s_vals hu h1
     have hsl : ∃ a l c, v = .slice a l c ∧ (a = none → l = 0) ∧ l = n := by
      cases x with
      | sl b cs m =>
       simp only [srcC, Option.some.injEq, Prod.mk.injEq] at hs
       simp only [VR] at hv
       rcases hv with ⟨a, rfl, rfl, _⟩ | ⟨_, b, off, cap, l, rfl, _⟩
       ·exact ⟨a, 0, 0, rfl, fun _ => rfl, hs.2⟩
       ·exact ⟨_, _, _, rfl, fun h => (by cases h), hs.2⟩
      | buf id ver off m sz =>
       simp only [VR] at hv
       obtain ⟨⟨a, c, rfl, _, ha⟩, _⟩ := hv
       simp only [srcC] at hs
       split at hs
       ·simp only [Option.some.injEq, Prod.mk.injEq] at hs
        refine ⟨a, _, c, rfl, fun h => ?_, hs.2⟩
        by_cases hm : m = 0
        ·exact hm
        ·have := ha hm; rw [h] at this; simp at this
       ·simp at hs
      | str b => exact absurd rfl (hns b)
      | _ => simp [srcC] at hs
     obtain ⟨a, l, c, rfl, hn0, rfl⟩ := hsl
     refine Good.str hh hk ?_
     rw [run_convert_bytes_string w s t e a l c hd2 hd3 hd1]
     rw [h4]
     have h5 := h3 l (Nat.le_refl _) w rfl
     cases a with
     | none =>
      obtain rfl := hn0 rfl
      have h6 := VRs.length h1
      rw [h2, List.length_map] at h6
      have : ns = [] := List.eq_nil_of_length_eq_zero (by omega)
      subst this
      simp [Conv.bytesToString, Sem.run_pure]
      rfl
     | some a =>
      simp only [Builtin.firstCells] at h5
      have hlen : ns.length = l := by
       have h6 := VRs.length h1
       rw [h2, List.length_map] at h6
       omega
      rw [run_bytesToString w a l c ns (by
       rw [Nat.mul_one] at h5
       rw [h5, List.take_of_length_le (by simp [hlen])])]
      rw [push_all]
      simp
  ·simp at hb
 ·simp at hb
end
end Go.Vm
namespace Go.Vm
variable [GlobTab]
mutual
def veq : V → V → Bool
 | .int k a, .int j b => kindEq k j && (a == b)
 | .bool a, .bool b => a == b
 | .str a, .str b => a == b
 | .nili, .nili => true
 | .agg xs, .agg ys => veqs xs ys
 | .ifc t x, .ifc u y => Nat.beq t u && veq x y
 | _, _ => false
def veqs : List V → List V → Bool
 | [], [] => true
 | x :: xs, y :: ys => veq x y && veqs xs ys
 | _, _ => false
end
mutual
def pl : V → Nat → Bool
 | .int _ _, _ => true
 | .bool _, _ => true
 | .str _, _ => true
 | .nili, _ => true
 | .agg cs, n + 1 => pls cs n
 | .ifc _ x, n + 1 => pl x n
 | _, _ => false
def pls : List V → Nat → Bool
 | [], _ => true
 | x :: xs, n => pl x n && pls xs n
end
def tile (tt : Nat → TI) : List (Nat × Nat) → Nat → Nat → Bool
 | [], off, size => Nat.beq off size
 | (o, ft) :: r, off, size => Nat.beq o off && tile tt r (off + (tt ft).size) size
def allC (p : List V → Bool) (sz : Nat) : Nat → List V → Bool
 | 0, _ => true
 | n + 1, cs => p (cs.take sz) && allC p sz n (cs.drop sz)
def allF (p : Nat → V → Bool) (tt : Nat → TI) (cs : List V) : List (Nat × Nat) → Bool
 | [] => true
 | (o, ft) :: r => ldT (tt ft) && p ft (mkV (tt ft) (getV cs o (tt ft).size)) && allF p tt cs r
def kok (tt : Nat → TI) : Nat → Nat → V → Bool
 | 0, _, _ => false
 | n + 1, t, x => match (tt t).k, x with
  | .int k, .int k' _ => kindEq k k'
  | .bool, .bool _ => true
  | .str, .str _ => true
  | .iface, .nili => true
  | .iface, .ifc u y => (tt u).cmp && kok tt n u y
  | .struct fs, .agg cs => (tt t).cmp && Nat.beq cs.length (tt t).size && tile tt fs 0 (tt t).size && allF (kok tt n) tt cs fs
  | .arr m e, .agg cs => (tt t).cmp && Nat.beq cs.length (m * (tt e).size) && ldT (tt e) && allC (fun c => kok tt n e (mkV (tt e) c)) (tt e).size m cs
  | _, _ => false
def keyOK (tt : Nat → TI) (t : Nat) (x : V) : Prop := kok tt 9999 t x = true ∧ pl x 9999 = true
def keysOK (tt : Nat → TI) (t : Nat) (es : List (V × V)) : Prop := ∀ e ∈ es, keyOK tt t e.1
section
variable {O : Nat → Prop} {β : List Pl} {w : World} {H : List Ob} {K : V → List Ob → Prop} {P : Program} {tt : Nat → TI}
mutual
theorem veq_iff : ∀ (x y : V) (n : Nat), pl x n = true → (veq x y = true ↔ x = y)
 | .int k a, y, _, _ => by cases y <;> simp [veq, kindEq_iff]
 | .bool a, y, _, _ => by cases y <;> simp [veq]
 | .str a, y, _, _ => by cases y <;> simp [veq]
 | .nili, y, _, _ => by cases y <;> simp [veq]
 | .agg cs, y, 0, h => by simp [pl] at h
 | .agg cs, y, n + 1, h => by
  simp only [pl] at h
  cases y <;> simp [veq]
  exact veqs_iff cs _ n h
 | .ifc t x, y, 0, h => by simp [pl] at h
 | .ifc t x, y, n + 1, h => by
  simp only [pl] at h
  cases y <;> simp [veq]
  intro _
  exact veq_iff x _ n h
 | .nilp, _, _, h => by simp [pl] at h
 | .nilf, _, _, h => by simp [pl] at h
 | .nilm, _, _, h => by simp [pl] at h
 | .tup _, _, _, h => by simp [pl] at h
 | .sl _ _ _, _, _, h => by simp [pl] at h
 | .fp _, _, _, h => by simp [pl] at h
 | .buf _ _ _ _ _, _, _, h => by simp [pl] at h
 | .ptr _ _ _, _, _, h => by simp [pl] at h
 | .mp _, _, _, h => by simp [pl] at h
 | .fn _ _ _, _, _, h => by simp [pl] at h
 | .opt _ _, _, _, h => by simp [pl] at h
 | .dead, _, _, h => by simp [pl] at h
theorem veqs_iff : ∀ (xs ys : List V) (n : Nat), pls xs n = true → (veqs xs ys = true ↔ xs = ys)
 | [], ys, _, _ => by cases ys <;> simp [veqs]
 | x :: xs, ys, n, h => by
  simp only [pls, Bool.and_eq_true] at h
  cases ys with
  | nil => simp [veqs]
  | cons y ys =>
   simp only [veqs, Bool.and_eq_true, List.cons.injEq]
   rw [veq_iff x y n h.1, veqs_iff xs ys n h.2]
end
mutual
theorem pl_fun {own own' : Nat → Prop} {w' : World} {β' : List Pl} : ∀ (x : V) (n : Nat) (v u : Value), pl x n = true → VR own w β x v → VR own' w' β' x u → v = u
 | .int k a, _, v, u, _, h1, h2 => by simp only [VR] at h1 h2; rw [h1, h2]
 | .bool a, _, v, u, _, h1, h2 => by simp only [VR] at h1 h2; rw [h1, h2]
 | .str a, _, v, u, _, h1, h2 => by simp only [VR] at h1 h2; rw [h1, h2]
 | .nili, _, v, u, _, h1, h2 => by simp only [VR] at h1 h2; rw [h1, h2]
 | .agg cs, 0, v, u, h, _, _ => by simp [pl] at h
 | .agg cs, n + 1, v, u, h, h1, h2 => by
  simp only [pl] at h
  simp only [VR] at h1 h2
  obtain ⟨l, rfl, h1⟩ := h1
  obtain ⟨l', rfl, h2⟩ := h2
  rw [pls_fun cs n l l' h h1 h2]
 | .ifc t x, 0, v, u, h, _, _ => by simp [pl] at h
 | .ifc t x, n + 1, v, u, h, h1, h2 => by
  simp only [pl] at h
  simp only [VR] at h1 h2
  obtain ⟨y, rfl, h1⟩ := h1
  obtain ⟨y', rfl, h2⟩ := h2
  rw [pl_fun x n y y' h h1 h2]
 | .nilp, _, _, _, h, _, _ => by simp [pl] at h
 | .nilf, _, _, _, h, _, _ => by simp [pl] at h
 | .nilm, _, _, _, h, _, _ => by simp [pl] at h
 | .tup _, _, _, _, h, _, _ => by simp [pl] at h
 | .sl _ _ _, _, _, _, h, _, _ => by simp [pl] at h
 | .fp _, _, _, _, h, _, _ => by simp [pl] at h
 | .buf _ _ _ _ _, _, _, _, h, _, _ => by simp [pl] at h
 | .ptr _ _ _, _, _, _, h, _, _ => by simp [pl] at h
 | .mp _, _, _, _, h, _, _ => by simp [pl] at h
 | .fn _ _ _, _, _, _, h, _, _ => by simp [pl] at h
 | .opt _ _, _, _, _, h, _, _ => by simp [pl] at h
 | .dead, _, _, _, h, _, _ => by simp [pl] at h
theorem pls_fun {own own' : Nat → Prop} {w' : World} {β' : List Pl} : ∀ (xs : List V) (n : Nat) (vs us : List Value), pls xs n = true → VRs own w β xs vs → VRs own' w' β' xs us → vs = us
 | [], _, vs, us, _, h1, h2 => by
  have e1 := h1.length
  have e2 := h2.length
  rw [List.eq_nil_of_length_eq_zero e1, List.eq_nil_of_length_eq_zero e2]
 | x :: xs, n, [], us, h, h1, h2 => by simp [VRs] at h1
 | x :: xs, n, v :: vs, [], h, h1, h2 => by simp [VRs] at h2
 | x :: xs, n, v :: vs, u :: us, h, h1, h2 => by
  simp only [pls, Bool.and_eq_true] at h
  simp only [VRs] at h1 h2
  rw [pl_fun x n v u h.1 h1.1 h2.1, pls_fun xs n vs us h.2 h1.2 h2.2]
end
mutual
theorem pl_bits {own : Nat → Prop} : ∀ (x : V) (n m : Nat) (v : Value), pl x n = true → n ≤ m → VR own w β x v → Instr.sameBits m v v = true
 | .int k a, _, m, v, _, _, h1 => by simp only [VR] at h1; subst h1; cases m <;> simp [Instr.sameBits]
 | .bool a, _, m, v, _, _, h1 => by simp only [VR] at h1; subst h1; cases m <;> simp [Instr.sameBits]
 | .str a, _, m, v, _, _, h1 => by
  simp only [VR] at h1; subst h1
  have : ((ByteArray.mk a.toArray) == (ByteArray.mk a.toArray)) = true := by rw [beq_toListBytes]; simp
  cases m <;> simp [Instr.sameBits, this]
 | .nili, _, m, v, _, _, h1 => by simp only [VR] at h1; subst h1; cases m <;> simp [Instr.sameBits]
 | .agg cs, 0, m, v, h, _, _ => by simp [pl] at h
 | .agg cs, n + 1, 0, v, h, hm, _ => by omega
 | .agg cs, n + 1, m + 1, v, h, hm, h1 => by
  simp only [pl] at h
  simp only [VR] at h1
  obtain ⟨l, rfl, h1⟩ := h1
  have := pls_bits cs n m l h (by omega) h1
  simp only [Instr.sameBits, beq_self_eq_true, Bool.true_and, List.all_eq_true]
  intro p hp
  obtain ⟨a, b⟩ := p
  have hab : a = b ∧ a ∈ l := by
   clear this h1
   induction l with
   | nil => simp at hp
   | cons y ys ih =>
    simp only [List.zip_cons_cons, List.mem_cons, Prod.mk.injEq] at hp
    rcases hp with ⟨rfl, rfl⟩ | hp
    ·exact ⟨rfl, by simp⟩
    ·have := ih hp
     exact ⟨this.1, by simp [this.2]⟩
  obtain ⟨rfl, hm⟩ := hab
  exact this a hm
 | .ifc t x, 0, m, v, h, _, _ => by simp [pl] at h
 | .ifc t x, n + 1, 0, v, h, hm, _ => by omega
 | .ifc t x, n + 1, m + 1, v, h, hm, h1 => by
  simp only [pl] at h
  simp only [VR] at h1
  obtain ⟨y, rfl, h1⟩ := h1
  simp only [Instr.sameBits, beq_self_eq_true, Bool.true_and]
  exact pl_bits x n m y h (by omega) h1
 | .nilp, _, _, _, h, _, _ => by simp [pl] at h
 | .nilf, _, _, _, h, _, _ => by simp [pl] at h
 | .nilm, _, _, _, h, _, _ => by simp [pl] at h
 | .tup _, _, _, _, h, _, _ => by simp [pl] at h
 | .sl _ _ _, _, _, _, h, _, _ => by simp [pl] at h
 | .fp _, _, _, _, h, _, _ => by simp [pl] at h
 | .buf _ _ _ _ _, _, _, _, h, _, _ => by simp [pl] at h
 | .ptr _ _ _, _, _, _, h, _, _ => by simp [pl] at h
 | .mp _, _, _, _, h, _, _ => by simp [pl] at h
 | .fn _ _ _, _, _, _, h, _, _ => by simp [pl] at h
 | .opt _ _, _, _, _, h, _, _ => by simp [pl] at h
 | .dead, _, _, _, h, _, _ => by simp [pl] at h
theorem pls_bits {own : Nat → Prop} : ∀ (xs : List V) (n m : Nat) (vs : List Value), pls xs n = true → n ≤ m → VRs own w β xs vs → ∀ v ∈ vs, Instr.sameBits m v v = true
 | [], _, _, vs, _, _, h1 => by
  rw [List.eq_nil_of_length_eq_zero h1.length]; simp
 | x :: xs, n, m, [], h, _, h1 => by simp
 | x :: xs, n, m, v :: vs, h, hm, h1 => by
  simp only [pls, Bool.and_eq_true] at h
  simp only [VRs] at h1
  intro u hu
  rcases List.mem_cons.1 hu with rfl | hu
  ·exact pl_bits x n m _ h.1 hm h1.1
  ·exact pls_bits xs n m vs h.2 hm h1.2 u hu
end
theorem veqs_append : ∀ {xs ys xs' ys' : List V}, xs.length = ys.length → veqs (xs ++ xs') (ys ++ ys') = (veqs xs ys && veqs xs' ys')
 | [], [], xs', ys', _ => by simp [veqs]
 | x :: xs, y :: ys, xs', ys', h => by
  simp only [List.cons_append, veqs]
  rw [veqs_append (by simpa using h), Bool.and_assoc]
 | [], _ :: _, _, _, h => by simp at h
 | _ :: _, [], _, _, h => by simp at h
theorem veqs_split {xs ys : List V} (n : Nat) (h : xs.length = ys.length) : veqs xs ys = (veqs (xs.take n) (ys.take n) && veqs (xs.drop n) (ys.drop n)) := by
 conv => lhs; rw [← List.take_append_drop n xs, ← List.take_append_drop n ys]
 exact veqs_append (by simp [h])
theorem veq_mk {ti : TI} (ht : ldT ti = true) {xs ys : List V} (hx : xs.length = ti.size) (hy : ys.length = ti.size) : veq (mkV ti xs) (mkV ti ys) = veqs xs ys := by
 unfold mkV
 split
 ·simp [veq]
 ·rename_i ha
  have h1 := ldT_one ht ha
  rw [h1] at hx hy
  match xs, ys, hx, hy with
  | [x], [y], _, _ => simp [veqs]
theorem eqFields_sound (tok : TOK P tt) {own : Nat → Prop} {n m : Nat} (ih : ∀ (t : Nat) (x y : V) (v u : Value), kok tt n t x = true → kok tt n t y = true → VR own w β x v → VR own w β y u →
   (Op.equalIn m t v u).run P w = .ok (veq x y) w) {cs ds : List V} {l l' : List Value} (hl : VRs own w β cs l) (hl' : VRs own w β ds l') (hlen : cs.length = ds.length) :
  ∀ (fs : List Field) (off : Nat), tile tt (fs.map fun f => (f.offset, f.type)) off cs.length = true → (∀ f ∈ fs, f.name ≠ "_") → allF (kok tt n) tt cs (fs.map fun f => (f.offset, f.type)) = true →
   allF (kok tt n) tt ds (fs.map fun f => (f.offset, f.type)) = true → off ≤ cs.length ∧ (Op.eqFields m l.toArray l'.toArray fs).run P w = .ok (veqs (cs.drop off) (ds.drop off)) w
 | [], off, ht, _, _, _ => by
  simp only [List.map_nil, tile] at ht
  have := Nat.eq_of_beq_eq_true ht
  refine ⟨by omega, ?_⟩
  rw [List.drop_eq_nil_of_le (by omega), List.drop_eq_nil_of_le (by omega)]
  simp [Op.eqFields, veqs]
 | f :: fs, off, ht, hn, h1, h2 => by
  simp only [List.map_cons, tile, Bool.and_eq_true] at ht
  obtain ⟨ho, ht⟩ := ht
  have ho := Nat.eq_of_beq_eq_true ho
  simp only [List.map_cons, allF, Bool.and_eq_true] at h1 h2
  obtain ⟨⟨hld, h1⟩, h1'⟩ := h1
  obtain ⟨⟨_, h2⟩, h2'⟩ := h2
  obtain ⟨hle, hrec⟩ := eqFields_sound tok ih hl hl' hlen fs _ ht (fun g hg => hn g (by simp [hg])) h1' h2'
  refine ⟨by omega, ?_⟩
  obtain ⟨v, hv, hvr⟩ := part_sound (P := P) (w := w) tok hld hl (off := f.offset) (by omega)
  obtain ⟨u, hu, hur⟩ := part_sound (P := P) (w := w) tok hld hl' (off := f.offset) (by omega)
  have he := ih _ _ _ v u h1 h2 hvr hur
  have hx : (getV cs f.offset (tt f.type).size).length = (tt f.type).size := by simp [getV]; omega
  have hy : (getV ds f.offset (tt f.type).size).length = (tt f.type).size := by simp [getV]; omega
  rw [veq_mk hld hx hy] at he
  have hsp : veqs (cs.drop off) (ds.drop off) = (veqs (getV cs f.offset (tt f.type).size) (getV ds f.offset (tt f.type).size) && veqs (cs.drop (off + (tt f.type).size)) (ds.drop (off + (tt f.type).size))) := by
   rw [veqs_split (tt f.type).size (by simp [hlen]), List.drop_drop, List.drop_drop, ho]
   rfl
  have hne := hn f (by simp)
  simp only [Op.eqFields, if_pos hne, Sem.run_bind, hv, hu, Result.andThen_ok, he, hsp, Sem.run_ite, Sem.run_pure]
  cases veqs (getV cs f.offset (tt f.type).size) (getV ds f.offset (tt f.type).size) with
  | false => simp
  | true => simpa using hrec
theorem allC_get {p : List V → Bool} {sz : Nat} : ∀ {n : Nat} {cs : List V} {i : Nat}, allC p sz n cs = true → i < n → p (getV cs (i * sz) sz) = true
 | 0, _, _, _, h => by omega
 | n + 1, cs, 0, h, _ => by
  simp only [allC, Bool.and_eq_true] at h
  simpa [getV] using h.1
 | n + 1, cs, i + 1, h, hi => by
  simp only [allC, Bool.and_eq_true] at h
  have := allC_get (i := i) h.2 (by omega)
  simpa [getV, List.drop_drop, Nat.add_mul, Nat.add_comm] using this
theorem eqItems_sound (tok : TOK P tt) {own : Nat → Prop} {n m e : Nat} (hld : ldT (tt e) = true) (hce : P.cellsOf e = (tt e).size) (ih : ∀ (t : Nat) (x y : V) (v u : Value), kok tt n t x = true → kok tt n t y = true → VR own w β x v → VR own w β y u →
   (Op.equalIn m t v u).run P w = .ok (veq x y) w) {cs ds : List V} {l l' : List Value} (hl : VRs own w β cs l) (hl' : VRs own w β ds l') {len : Nat} (h1 : cs.length = len * (tt e).size) (h2 : ds.length = len * (tt e).size)
  (k1 : allC (fun c => kok tt n e (mkV (tt e) c)) (tt e).size len cs = true) (k2 : allC (fun c => kok tt n e (mkV (tt e) c)) (tt e).size len ds = true) :
  ∀ (j i : Nat), i + j = len → (Op.eqItems m e (P.cellsOf e) l.toArray l'.toArray (List.range' i j)).run P w = .ok (veqs (cs.drop (i * (tt e).size)) (ds.drop (i * (tt e).size))) w
 | 0, i, hij => by
  have : i = len := by omega
  subst this
  rw [List.drop_eq_nil_of_le (by omega), List.drop_eq_nil_of_le (by omega)]
  simp [Op.eqItems, veqs]
 | j + 1, i, hij => by
  have hrec := eqItems_sound tok hld hce ih hl hl' h1 h2 k1 k2 j (i + 1) (by omega)
  have hlen : i * (tt e).size + (tt e).size ≤ len * (tt e).size := by
   have : (i + 1) * (tt e).size ≤ len * (tt e).size := Nat.mul_le_mul_right _ (by omega)
   rwa [Nat.add_mul, Nat.one_mul] at this
  obtain ⟨v, hv, hvr⟩ := part_sound (P := P) (w := w) tok hld hl (off := i * (tt e).size) (by omega)
  obtain ⟨u, hu, hur⟩ := part_sound (P := P) (w := w) tok hld hl' (off := i * (tt e).size) (by omega)
  have he := ih _ _ _ v u (allC_get k1 (by omega)) (allC_get k2 (by omega)) hvr hur
  rw [veq_mk hld (by simp [getV]; omega) (by simp [getV]; omega)] at he
  have hsp : veqs (cs.drop (i * (tt e).size)) (ds.drop (i * (tt e).size)) = (veqs (getV cs (i * (tt e).size) (tt e).size) (getV ds (i * (tt e).size) (tt e).size) && veqs (cs.drop ((i + 1) * (tt e).size)) (ds.drop ((i + 1) * (tt e).size))) := by
   rw [veqs_split (tt e).size (by simp [h1, h2]), List.drop_drop, List.drop_drop, Nat.add_mul, Nat.one_mul]
   rfl
  rw [List.range'_succ]
  simp only [Op.eqItems, Sem.run_bind, hce, hv, hu, Result.andThen_ok, he, hsp, Sem.run_ite, Sem.run_pure]
  rw [hce] at hrec
  cases veqs (getV cs (i * (tt e).size) (tt e).size) (getV ds (i * (tt e).size) (tt e).size) with
  | false => simp
  | true => simpa using hrec
theorem cellsOf_tt (tok : TOK P tt) {e : Nat} (h : (tt e).k ≠ .other) : P.cellsOf e = (tt e).size ∧ ∃ i, P.info? e = some i := by
 obtain ⟨i, z, h1, h2, _⟩ := (tok e h).info
 exact ⟨by simp [Program.cellsOf, h1, h2], i, h1⟩
theorem kok_eq (tok : TOK P tt) {own : Nat → Prop} : ∀ (n m t : Nat) (x y : V) (v u : Value), n ≤ m → kok tt n t x = true → kok tt n t y = true → VR own w β x v → VR own w β y u →
  (Op.equalIn m t v u).run P w = .ok (veq x y) w
 | 0, m, t, x, y, v, u, hm, h1, h2, hx, hy => by simp [kok] at h1
 | n + 1, 0, t, x, y, v, u, hm, h1, h2, hx, hy => by omega
 | n + 1, m + 1, t, x, y, v, u, hm, h1, h2, hx, hy => by
  have ih : ∀ (t : Nat) (x y : V) (v u : Value), kok tt n t x = true → kok tt n t y = true → VR own w β x v → VR own w β y u → (Op.equalIn m t v u).run P w = .ok (veq x y) w :=
   fun t x y v u => kok_eq tok n m t x y v u (by omega)
  unfold kok at h1 h2
  split at h1
  ·rename_i k k' a hk
   obtain ⟨d, hd, _, hdk⟩ := (tok t (by rw [hk]; simp)).desc
   rw [hk] at hdk; simp only at hdk; subst hdk
   rw [hk] at h2
   cases y <;> simp only [Bool.false_eq_true] at h2
   rename_i k2 b
   simp only [VR] at hx hy
   subst hx hy
   have e1 := kindEq_iff.1 h1
   have e2 := kindEq_iff.1 h2
   subst e1 e2
   simp [Op.equalIn, run_underlying hd, veq, kindEq_iff.2]
  ·rename_i a hk
   obtain ⟨d, hd, _, hdk⟩ := (tok t (by rw [hk]; simp)).desc
   rw [hk] at hdk; simp only at hdk; subst hdk
   rw [hk] at h2
   cases y <;> simp only [Bool.false_eq_true] at h2
   simp only [VR] at hx hy
   subst hx hy
   simp [Op.equalIn, run_underlying hd, veq]
  ·rename_i a hk
   obtain ⟨d, hd, _, hdk⟩ := (tok t (by rw [hk]; simp)).desc
   rw [hk] at hdk; simp only at hdk; subst hdk
   rw [hk] at h2
   cases y <;> simp only [Bool.false_eq_true] at h2
   simp only [VR] at hx hy
   subst hx hy
   simp [Op.equalIn, run_underlying hd, veq, beq_toListBytes, toList_mk]
  ·rename_i hk
   obtain ⟨d, hd, _, hdk⟩ := (tok t (by rw [hk]; simp)).desc
   rw [hk] at hdk; simp only at hdk
   obtain ⟨ms, rfl⟩ := hdk
   rw [hk] at h2
   cases y <;> simp only [Bool.false_eq_true] at h2
   ·simp only [VR] at hx hy
    subst hx hy
    simp [Op.equalIn, run_underlying hd, veq]
   ·simp only [VR] at hx hy
    obtain ⟨y', rfl, _⟩ := hy
    subst hx
    simp [Op.equalIn, run_underlying hd, veq]
  ·rename_i tx x' hk
   obtain ⟨d, hd, _, hdk⟩ := (tok t (by rw [hk]; simp)).desc
   rw [hk] at hdk; simp only at hdk
   obtain ⟨ms, rfl⟩ := hdk
   simp only [Bool.and_eq_true] at h1
   rw [hk] at h2
   cases y <;> simp only [Bool.false_eq_true] at h2
   ·simp only [VR] at hx hy
    obtain ⟨x'', rfl, _⟩ := hx
    subst hy
    simp [Op.equalIn, run_underlying hd, veq]
   ·rename_i ty y'
    simp only [Bool.and_eq_true] at h2
    simp only [VR] at hx hy
    obtain ⟨vx, rfl, hx⟩ := hx
    obtain ⟨vy, rfl, hy⟩ := hy
    by_cases hxy : tx = ty
    ·subst hxy
     have hk2 : (tt tx).k ≠ .other := by
      intro e
      cases n with
      | zero => simp [kok] at h1
      | succ n =>
       have := h1.2
       unfold kok at this
       rw [e] at this
       simp at this
     obtain ⟨⟨i, hi, hc⟩, _⟩ := (tok tx hk2).key h1.1
     have hti : (typeInfo tx).run P w = .ok i w := by simp [typeInfo, hi]
     have := ih tx x' y' vx vy h1.2 h2.2 hx hy
     simp [Op.equalIn, run_underlying hd, hti, hc, this, veq]
    ·simp [Op.equalIn, run_underlying hd, hxy, veq]
  ·rename_i fs cs hk
   obtain ⟨d, hd, _, hdk⟩ := (tok t (by rw [hk]; simp)).desc
   rw [hk] at hdk; simp only at hdk
   obtain ⟨fields, rfl, hfs⟩ := hdk
   simp only [Bool.and_eq_true] at h1
   obtain ⟨⟨⟨hc, hlen⟩, htile⟩, hall⟩ := h1
   rw [hk] at h2
   cases y <;> simp only [Bool.false_eq_true] at h2
   rename_i ds
   simp only [Bool.and_eq_true] at h2
   obtain ⟨⟨⟨_, hlen2⟩, _⟩, hall2⟩ := h2
   simp only [VR] at hx hy
   obtain ⟨l, rfl, hx⟩ := hx
   obtain ⟨l', rfl, hy⟩ := hy
   have hlen := Nat.eq_of_beq_eq_true hlen
   have hlen2 := Nat.eq_of_beq_eq_true hlen2
   obtain ⟨_, hst, hnm⟩ := (tok t (by rw [hk]; simp)).key hc
   have hf : P.fieldsOf t = fields := by simp [Program.fieldsOf, hd]
   rw [run_equalIn_struct w m t _ _ (by rw [hf]; exact hd) hst, hf]
   rw [← hfs] at htile hall hall2
   rw [← hlen] at htile
   have := (eqFields_sound (P := P) (w := w) tok ih hx hy (by omega) fields.toList 0 htile (hnm fields hd) hall hall2).2
   simpa [veq] using this
  ·rename_i len e cs hk
   obtain ⟨d, hd, _, hdk⟩ := (tok t (by rw [hk]; simp)).desc
   rw [hk] at hdk; simp only at hdk; subst hdk
   simp only [Bool.and_eq_true] at h1
   obtain ⟨⟨⟨hc, hlen⟩, hld⟩, hall⟩ := h1
   rw [hk] at h2
   cases y <;> simp only [Bool.false_eq_true] at h2
   rename_i ds
   simp only [Bool.and_eq_true] at h2
   obtain ⟨⟨⟨_, hlen2⟩, _⟩, hall2⟩ := h2
   simp only [VR] at hx hy
   obtain ⟨l, rfl, hx⟩ := hx
   obtain ⟨l', rfl, hy⟩ := hy
   obtain ⟨hce, i, hi⟩ := cellsOf_tt tok (ldT_k hld)
   rw [run_equalIn_array w m _ _ hd hi, List.range_eq_range']
   have := eqItems_sound (P := P) (w := w) tok hld hce ih hx hy (Nat.eq_of_beq_eq_true hlen) (Nat.eq_of_beq_eq_true hlen2) hall hall2 len 0 (by omega)
   simpa [veq] using this
  ·simp at h1
theorem kok_check (tok : TOK P tt) {own : Nat → Prop} (em : Bool) : ∀ (n m t : Nat) (x : V) (v : Value), n ≤ m → kok tt n t x = true → VR own w β x v → (Instr.checkKey em m t v).run P w = .ok () w
 | 0, m, t, x, v, hm, h1, hx => by simp [kok] at h1
 | n + 1, 0, t, x, v, hm, h1, hx => by omega
 | n + 1, m + 1, t, x, v, hm, h1, hx => by
  have ih : ∀ (t : Nat) (x : V) (v : Value), kok tt n t x = true → VR own w β x v → (Instr.checkKey em m t v).run P w = .ok () w := fun t x v => kok_check tok em n m t x v (by omega)
  unfold kok at h1
  split at h1
  ·rename_i k k' a hk
   obtain ⟨d, hd, _, hdk⟩ := (tok t (by rw [hk]; simp)).desc
   rw [hk] at hdk; simp only at hdk; subst hdk
   simp only [VR] at hx
   subst hx
   simp [Instr.checkKey, run_underlying hd]
  ·rename_i a hk
   obtain ⟨d, hd, _, hdk⟩ := (tok t (by rw [hk]; simp)).desc
   rw [hk] at hdk; simp only at hdk; subst hdk
   simp only [VR] at hx
   subst hx
   simp [Instr.checkKey, run_underlying hd]
  ·rename_i a hk
   obtain ⟨d, hd, _, hdk⟩ := (tok t (by rw [hk]; simp)).desc
   rw [hk] at hdk; simp only at hdk; subst hdk
   simp only [VR] at hx
   subst hx
   simp [Instr.checkKey, run_underlying hd]
  ·rename_i hk
   obtain ⟨d, hd, _, hdk⟩ := (tok t (by rw [hk]; simp)).desc
   rw [hk] at hdk; simp only at hdk
   obtain ⟨ms, rfl⟩ := hdk
   simp only [VR] at hx
   subst hx
   simp [Instr.checkKey, run_underlying hd]
  ·rename_i tx x' hk
   obtain ⟨d, hd, _, hdk⟩ := (tok t (by rw [hk]; simp)).desc
   rw [hk] at hdk; simp only at hdk
   obtain ⟨ms, rfl⟩ := hdk
   simp only [Bool.and_eq_true] at h1
   simp only [VR] at hx
   obtain ⟨vx, rfl, hx⟩ := hx
   have hk2 : (tt tx).k ≠ .other := by
    intro e
    cases n with
    | zero => simp [kok] at h1
    | succ n =>
     have := h1.2
     unfold kok at this
     rw [e] at this
     simp at this
   obtain ⟨⟨i, hi, hc⟩, _⟩ := (tok tx hk2).key h1.1
   have hti : (typeInfo tx).run P w = .ok i w := by simp [typeInfo, hi]
   simp [Instr.checkKey, run_underlying hd, hti, hc, ih tx x' vx h1.2 hx]
  ·rename_i fs cs hk
   obtain ⟨d, hd, _, hdk⟩ := (tok t (by rw [hk]; simp)).desc
   rw [hk] at hdk; simp only at hdk
   obtain ⟨fields, rfl, hfs⟩ := hdk
   simp only [Bool.and_eq_true] at h1
   obtain ⟨⟨⟨hc, hlen⟩, htile⟩, hall⟩ := h1
   simp only [VR] at hx
   obtain ⟨l, rfl, hx⟩ := hx
   have hlen := Nat.eq_of_beq_eq_true hlen
   rw [Instr.checkKey]
   simp only [Sem.run_bind, run_underlying hd, Result.andThen_ok]
   rw [← Array.forIn_toList]
   rw [← hfs, ← hlen] at htile
   rw [← hfs] at hall
   have hgen : ∀ (fl : List Field) (off : Nat), tile tt (fl.map fun f => (f.offset, f.type)) off cs.length = true → allF (kok tt n) tt cs (fl.map fun f => (f.offset, f.type)) = true → off ≤ cs.length ∧
     (forIn fl PUnit.unit (fun f _ => do
      if f.name ≠ "_" then do
       Instr.checkKey em m f.type (← part f.type l.toArray f.offset)
       pure (ForInStep.yield PUnit.unit)
      else pure (ForInStep.yield PUnit.unit) : Field → PUnit → Sem (ForInStep PUnit))).run P w = .ok PUnit.unit w := by
    intro fl
    induction fl with
    | nil =>
     intro off ht _
     simp only [List.map_nil, tile] at ht
     have := Nat.eq_of_beq_eq_true ht
     exact ⟨by omega, by simp⟩
    | cons f fl ihf =>
     intro off ht ha
     simp only [List.map_cons, tile, Bool.and_eq_true] at ht
     have ho := Nat.eq_of_beq_eq_true ht.1
     simp only [List.map_cons, allF, Bool.and_eq_true] at ha
     obtain ⟨⟨hld, ha1⟩, ha2⟩ := ha
     obtain ⟨hle, hr⟩ := ihf _ ht.2 ha2
     refine ⟨by omega, ?_⟩
     obtain ⟨v, hv, hvr⟩ := part_sound (P := P) (w := w) tok hld hx (off := f.offset) (by omega)
     have hch := ih f.type _ v ha1 hvr
     simp only [List.forIn_cons, Sem.run_bind, Sem.run_ite]
     split
     ·simpa only [Sem.run_bind, hv, hch, Result.andThen_ok, Sem.run_pure] using hr
     ·simpa only [Sem.run_pure, Result.andThen_ok] using hr
   rw [(hgen fields.toList 0 htile hall).2]
   rfl
  ·rename_i len e cs hk
   obtain ⟨d, hd, _, hdk⟩ := (tok t (by rw [hk]; simp)).desc
   rw [hk] at hdk; simp only at hdk; subst hdk
   simp only [Bool.and_eq_true] at h1
   obtain ⟨⟨⟨hc, hlen⟩, hld⟩, hall⟩ := h1
   simp only [VR] at hx
   obtain ⟨l, rfl, hx⟩ := hx
   have hlen := Nat.eq_of_beq_eq_true hlen
   have hsz := tok.sizeOf (ldT_k hld) w
   rw [Instr.checkKey]
   simp only [Sem.run_bind, run_underlying hd, Result.andThen_ok]
   simp only [Std.Legacy.Range.forIn_eq_forIn_range', Std.Legacy.Range.size, Nat.sub_zero, Nat.add_one_sub_one, Nat.div_one]
   have hgen : ∀ (j i : Nat), i + j = len →
     (forIn (List.range' i j) PUnit.unit (fun i _ => do
      Instr.checkKey em m e (← part e l.toArray (i * (← sizeOf e)))
      pure (ForInStep.yield PUnit.unit) : Nat → PUnit → Sem (ForInStep PUnit))).run P w = .ok PUnit.unit w := by
    intro j
    induction j with
    | zero => intro i _; simp
    | succ j ihj =>
     intro i hij
     have hr := ihj (i + 1) (by omega)
     have hle : i * (tt e).size + (tt e).size ≤ len * (tt e).size := by
      have : (i + 1) * (tt e).size ≤ len * (tt e).size := Nat.mul_le_mul_right _ (by omega)
      rwa [Nat.add_mul, Nat.one_mul] at this
     obtain ⟨v, hv, hvr⟩ := part_sound (P := P) (w := w) tok hld hx (off := i * (tt e).size) (by omega)
     have hch := ih e _ v (allC_get hall (by omega)) hvr
     rw [List.range'_succ]
     simp only [List.forIn_cons, Sem.run_bind, hsz, hv, hch, Result.andThen_ok, Sem.run_pure]
     exact hr
   rw [hgen len 0 (by omega)]
   rfl
  ·simp at h1
theorem keyOK.check (tok : TOK P tt) {own : Nat → Prop} {t : Nat} {x : V} {v : Value} (h : keyOK tt t x) (hx : VR own w β x v) (em : Bool) : (Instr.checkKey em 10000 t v).run P w = .ok () w :=
 kok_check tok em 9999 10000 t x v (by decide) h.1 hx
theorem keyOK.eq (tok : TOK P tt) {own : Nat → Prop} {t : Nat} {x y : V} {v u : Value} (h1 : keyOK tt t x) (h2 : keyOK tt t y) (hx : VR own w β x v) (hy : VR own w β y u) : (Op.equal t v u).run P w = .ok (veq x y) w :=
 kok_eq tok 9999 10000 t x y v u (by decide) h1.1 h2.1 hx hy
theorem keyOK.stays {own : Nat → Prop} {t : Nat} {x : V} {v : Value} (h : keyOK tt t x) (hx : VR own w β x v) : (Instr.keyThatStays v v).run P w = .ok v w := by
 simp [Instr.keyThatStays, pl_bits x 9999 10000 v h.2 (by decide) hx]
end
end Go.Vm
namespace Go.Vm
variable [GlobTab]
def TI.known (t : TI) : Bool := match t.k with | .other => false | _ => true
theorem known_k {t : TI} (h : t.known = true) : t.k ≠ .other := by intro e; simp [TI.known, e] at h
def mGet (z k : V) : List (V × V) → V
 | [] => z
 | (x, v) :: r => match veq k x with | true => v | false => mGet z k r
def mHas (k : V) : List (V × V) → Bool
 | [] => false
 | (x, _) :: r => match veq k x with | true => true | false => mHas k r
def mPut (k v : V) : List (V × V) → List (V × V)
 | [] => [(k, v)]
 | (x, u) :: r => match veq k x with | true => (x, v) :: r | false => (x, u) :: mPut k v r
def mDel (k : V) : List (V × V) → List (V × V)
 | [] => []
 | (x, u) :: r => match veq k x with | true => r | false => (x, u) :: mDel k r
def mkMapR (t : TI) (nid : Nat) (H : List Ob) : Res :=
 match t.k with
 | .map _ _ => .ok (.mp nid) (place H nid (.map []))
 | _ => .bad
def mapAt (t : TI) (x : V) (H : List Ob) : Option (Nat × Nat × Nat × List (V × V)) :=
 match t.k, x with
 | .map kt et, .mp id =>
  match getO H id with
  | .map es => some (kt, et, id, es)
  | _ => none
 | _, _ => none
def lookR (tt : Nat → TI) (t : TI) (x k : V) (ok g : Bool) (H : List Ob) : Res :=
 match mapAt t x H with
 | some (kt, et, _, es) => match (tt et).known with
  | true => match ok with
   | true => .need (imp g (keyOK tt kt k ∧ keysOK tt kt es)) (.tup [mGet (tt et).zero k es, .bool (mHas k es)]) H
   | false => .need (imp g (keyOK tt kt k ∧ keysOK tt kt es)) (mGet (tt et).zero k es) H
  | false => .bad
 | none => .bad
def updR (tt : Nat → TI) (t : TI) (x k v : V) (H : List Ob) : Res :=
 match mapAt t x H with
 | some (kt, _, id, es) => .need (keyOK tt kt k ∧ keysOK tt kt es) (.tup []) (setO H id (.map (mPut k v es)))
 | none => .bad
def delR (tt : Nat → TI) (t : TI) (x k : V) (H : List Ob) : Res :=
 match mapAt t x H with
 | some (kt, _, id, es) => .need (keyOK tt kt k ∧ keysOK tt kt es) (.tup []) (setO H id (.map (mDel k es)))
 | none => .bad
section
variable {O : Nat → Prop} {β : List Pl} {w : World} {H : List Ob} {K : V → List Ob → Prop} {P : Program} {tt : Nat → TI}
theorem sameNow_eqIn {t : Nat} {d : TypeDesc} {v u : Value} {b : Bool} (n : Nat) (hd : P.underlying t = some d) (h : Instr.sameNow d v u = some b) : (Op.equalIn (n + 1) t v u).run P w = .ok b w := by
 unfold Instr.sameNow at h
 split at h
 ·split at h
  ·rename_i hk
   simp only [Option.some.injEq] at h
   subst h hk
   simp [Op.equalIn, run_underlying hd]
  ·simp at h
 ·simp only [Option.some.injEq] at h
  subst h
  simp [Op.equalIn, run_underlying hd]
 ·simp only [Option.some.injEq] at h
  subst h
  simp [Op.equalIn, run_underlying hd]
 ·simp at h
theorem sameNow_eq {t : Nat} {d : TypeDesc} {v u : Value} {b : Bool} (hd : P.underlying t = some d) (h : Instr.sameNow d v u = some b) : (Op.equal t v u).run P w = .ok b w := sameNow_eqIn 9999 hd h
theorem find_facts (tok : TOK P tt) {own : Nat → Prop} {t : Nat} {d : TypeDesc} {k : V} {v : Value} (hd : P.underlying t = some d) (hko : keyOK tt t k) (hk : VR own w β k v) : ∀ {es : List (V × V)} {en : List MapEntry} {i : Nat}, keysOK tt t es →
  VRs own w β (es.map (·.1)) (en.map (·.key)) → VRs own w β (es.map (·.2)) (en.map (·.val)) →
  ∃ r : Option (Nat × Value), (Instr.findAsking t v en i).run P w = .ok r w ∧ (∀ q, Instr.findNow d v en i = some q → q = r) ∧
  ((r = none ∧ mHas k es = false ∧ (∀ z, mGet z k es = z) ∧ mDel k es = es ∧ (∀ x, mPut k x es = es ++ [(k, x)])) ∨
  ∃ j e, r = some (i + j, e.val) ∧ en[j]? = some e ∧ e.key = v ∧ mHas k es = true ∧ (∀ z, VR own w β (mGet z k es) e.val) ∧
   (∀ x u, VR own w β x u → VRs own w β ((mPut k x es).map (·.1)) (en.map (·.key)) ∧ VRs own w β ((mPut k x es).map (·.2)) ((en.map (·.val)).set j u)) ∧
   VRs own w β ((mDel k es).map (·.1)) ((en.eraseIdx j).map (·.key)) ∧ VRs own w β ((mDel k es).map (·.2)) ((en.eraseIdx j).map (·.val)))
 | [], en, i, _, h1, _ => by
  cases en with
  | nil => exact ⟨none, by simp [Instr.findAsking], fun q hq => by simp [Instr.findNow] at hq; exact hq.symm, .inl ⟨rfl, rfl, fun _ => rfl, rfl, fun _ => rfl⟩⟩
  | cons e en => simp [VRs] at h1
 | (q, x0) :: r, [], i, _, h1, _ => by simp [VRs] at h1
 | (q, x0) :: r, e :: en, i, hm, h1, h2 => by
  have hq : keyOK tt t q := hm (q, x0) (by simp)
  have hm' : keysOK tt t r := fun p hp => hm p (by simp [hp])
  simp only [List.map_cons, VRs] at h1 h2
  obtain ⟨h1, h1'⟩ := h1
  obtain ⟨h2, h2'⟩ := h2
  have heq := keyOK.eq (P := P) tok hko hq hk h1
  have hnow : ∀ b, Instr.sameNow d v e.key = some b → b = veq k q := fun b hb => by
   have := sameNow_eq (w := w) hd hb
   rw [heq] at this
   simp only [Result.ok.injEq] at this
   exact this.1.symm
  cases hb : veq k q with
  | true =>
   have hkq := (veq_iff k q _ hko.2).1 hb
   subst hkq
   have hkv : e.key = v := pl_fun k _ _ _ hko.2 h1 hk
   refine ⟨some (i, e.val), by simp [Instr.findAsking, heq, hb], fun p hp => ?_, .inr ⟨0, e, by simp, rfl, hkv, ?_, ?_, ?_, ?_, ?_⟩⟩
   ·simp only [Instr.findNow] at hp
    cases hs : Instr.sameNow d v e.key with
    | none => rw [hs] at hp; simp at hp
    | some b =>
     have := hnow b hs
     rw [hb] at this
     subst this
     rw [hs] at hp
     simpa using hp.symm
   ·simp [mHas, hb]
   ·intro z; simpa [mGet, hb] using h2
   ·intro x u hu
    simp only [mPut, hb, List.map_cons, List.set_cons_zero, VRs]
    exact ⟨⟨h1, h1'⟩, hu, h2'⟩
   ·simpa [mDel, hb] using h1'
   ·simpa [mDel, hb] using h2'
  | false =>
   obtain ⟨rr, e1, e2, e3⟩ := find_facts tok hd hko hk (i := i + 1) hm' h1' h2'
   refine ⟨rr, by simp [Instr.findAsking, heq, hb, e1], fun p hp => ?_, ?_⟩
   ·simp only [Instr.findNow] at hp
    cases hs : Instr.sameNow d v e.key with
    | none => rw [hs] at hp; simp at hp
    | some b =>
     have := hnow b hs
     rw [hb] at this
     subst this
     rw [hs] at hp
     exact e2 p hp
   ·rcases e3 with ⟨f1, f2, f3, f4, f5⟩ | ⟨j, e', f1, f2, f3, f4, f5, f6, f7, f8⟩
    ·refine .inl ⟨f1, ?_, ?_, ?_, ?_⟩
     ·simp [mHas, hb, f2]
     ·intro z; simp [mGet, hb, f3]
     ·simp [mDel, hb, f4]
     ·intro x; simp [mPut, hb, f5]
    ·refine .inr ⟨j + 1, e', ?_, by simpa using f2, f3, ?_, ?_, ?_, ?_, ?_⟩
     ·rw [f1]; simp; omega
     ·simp [mHas, hb, f4]
     ·intro z; simpa [mGet, hb] using f5 z
     ·intro x u hu
      obtain ⟨g1, g2⟩ := f6 x u hu
      simp only [mPut, hb, List.map_cons, List.set_cons_succ, VRs]
      exact ⟨⟨h1, g1⟩, h2, g2⟩
     ·simp only [mDel, hb, List.eraseIdx_cons_succ, List.map_cons, VRs]
      exact ⟨h1, f7⟩
     ·simp only [mDel, hb, List.eraseIdx_cons_succ, List.map_cons, VRs]
      exact ⟨h2, f8⟩
theorem run_findKey_of {t : Nat} {d : TypeDesc} {v : Value} {en : List MapEntry} {r : Option (Nat × Value)} (hd : P.underlying t = some d) (h1 : (Instr.findAsking t v en 0).run P w = .ok r w) (h2 : ∀ q, Instr.findNow d v en 0 = some q → q = r) :
  (Instr.findKey t v en).run P w = .ok r w := by
 simp only [Instr.findKey, Sem.run_bind, run_underlying hd, Result.andThen_ok]
 cases hn : Instr.findNow d v en 0 with
 | none => exact h1
 | some q => rw [h2 q hn]; simp
theorem HR.map (hh : HR O β w H) {id : Nat} {es : List (V × V)} (h : getO H id = .map es) {v : Value} (hv : VR (Own O β) w β (.mp id) v) :
  ∃ b en clock, β[id]? = some (.mapb b) ∧ v = .map (some b) ∧ w.heap[b]? = some (.map en clock) ∧ VRs (Own O β) w β (es.map (·.1)) (en.toList.map (·.key)) ∧ VRs (Own O β) w β (es.map (·.2)) (en.toList.map (·.val)) := by
 have hid := getO_lt h (by simp)
 have hb : id < β.length := by rw [hh.len]; exact hid
 obtain ⟨b, en, clock, h1, h2, h3, h4⟩ := hh.ob id β[id] (.map es) (List.getElem?_eq_getElem hb) (getO_eq h (by simp))
 refine ⟨b, en, clock, by rw [List.getElem?_eq_getElem hb, h1], ?_, h2, h3, h4⟩
 simp only [VR] at hv
 have := hv.2
 rw [List.getElem?_eq_getElem hb, h1] at this
 exact this
theorem HR.wrmap (hh : HR O β w H) {id b : Nat} {es es' : List (V × V)} {en en' : Array MapEntry} {clock clock' : Nat} (hg : getO H id = .map es) (hb : β[id]? = some (.mapb b)) (hw : w.heap[b]? = some (.map en clock))
  (h1 : VRs (Own O β) w β (es'.map (·.1)) (en'.toList.map (·.key))) (h2 : VRs (Own O β) w β (es'.map (·.2)) (en'.toList.map (·.val))) :
  HR O β { w with heap := w.heap.setIfInBounds b (.map en' clock') } (setO H id (.map es')) ∧ Ext β w β { w with heap := w.heap.setIfInBounds b (.map en' clock') } := by
 have hid := getO_lt hg (by simp)
 have hid' : id < β.length := by rw [hh.len]; exact hid
 have hpl : place β id (.mapb b) = β := by
  apply List.ext_getElem?
  intro i
  rw [get_place (Nat.le_of_lt hid')]
  split
  ·rename_i e; rw [e, hb]
  ·rfl
 have hin : InB β b := ⟨id, _, hb, rfl⟩
 obtain ⟨q1, q2⟩ := MapKept.heap_set (o' := .map en' clock') hw
 have he : Ext β w β { w with heap := w.heap.setIfInBounds b (.map en' clock') } := by
  refine ⟨by simp, fun k hk hn => q2 k (fun e => hn (e ▸ hin)), rfl, rfl, rfl, fun _ h => .inl h, fun i l hi => by rw [hi]; exact l.le_refl⟩
 refine ⟨?_, he⟩
 have := HR.put (loc' := .mapb b) (o' := .map es') (w' := { w with heap := w.heap.setIfInBounds b (.map en' clock') }) hh (Nat.le_of_lt hid) (by rw [hpl]; exact he) ?_ ?_ ?_
 ·rw [hpl] at this; rw [setO_place hid]; exact this
 ·intro j l2 b2 hj hj2 hb2
  refine q2 b2 (fun e => hj ?_)
  subst e
  exact hh.inj j id l2 _ b2 hj2 hb hb2 rfl
 ·rw [hpl]
  simp only [ObR]
  exact ⟨b, en', clock', rfl, q1, VRs.ext he _ _ h1, VRs.ext he _ _ h2⟩
 ·intro b2 hb2
  simp [Pl.block?] at hb2
  subst hb2
  refine ⟨by simpa using hh.lt b hin, hh.apart b hin, fun j l2 hj hj2 hb2 => hj (hh.inj j id l2 _ b hj2 hb hb2 rfl)⟩
theorem mkMap_sound (hh : HR O β w H) {t : TI} {e nid : Nat} (hf : Free H nid) (h : (mkMapR t nid H).then K) : Good O β w ((Instr.makeMap e none).run P w) K := by
 unfold mkMapR at h
 split at h
 case h_2 => exact h.elim
 have hn' : nid ≤ β.length := by rw [hh.len]; exact hf.le
 obtain ⟨q1, q2⟩ := MapKept.heap_alloc w (.map #[] 0)
 have he : Ext β w (place β nid (.mapb w.heap.size)) (w.alloc (.map #[] 0)) := by
  refine ⟨by simp, fun b hb _ => q2 b hb, rfl, rfl, rfl, ?_, ?_⟩
  ·rintro b ⟨i, l, hi, hl⟩
   rw [get_place hn'] at hi
   split at hi
   ·cases hi; simp [Pl.block?] at hl; exact .inr (by omega)
   ·exact .inl ⟨i, l, hi, hl⟩
  ·intro i l hi
   rw [get_place hn']
   split
   ·rename_i e; subst e; rw [hf.loc hh l hi]; trivial
   ·rw [hi]; exact l.le_refl
 refine ⟨.map (some w.heap.size), w.alloc (.map #[] 0), by simp [Instr.makeMap], _, _, _, h, HR.put hh hf.le he (fun j l b _ hj hl => q2 b (hh.lt b ⟨j, l, hj, hl⟩)) ?_ ?_, ?_, he⟩
 ·simp only [ObR]
  exact ⟨w.heap.size, #[], 0, rfl, q1, trivial, trivial⟩
 ·intro b hb
  simp [Pl.block?] at hb
  subst hb
  refine ⟨by simp, fun ho => ?_, fun j l _ hj hl => ?_⟩
  ·have := hh.old _ ho; omega
  ·have := hh.lt _ ⟨j, l, hj, hl⟩; omega
 ·simp only [VR]
  rw [get_place hn', if_pos rfl]
  exact ⟨⟨_, rfl⟩, rfl⟩
theorem mapAt_facts (tok : TOK P tt) {t kt et id : Nat} {x : V} {es : List (V × V)} (h : mapAt (tt t) x H = some (kt, et, id, es)) :
  P.underlying t = some (.map kt et) ∧ x = .mp id ∧ getO H id = .map es := by
 unfold mapAt at h
 split at h
 ·rename_i kt' et' id' hk
  split at h
  ·rename_i es' hg
   simp only [Option.some.injEq, Prod.mk.injEq] at h
   obtain ⟨rfl, rfl, rfl, rfl⟩ := h
   obtain ⟨d, hd, hdk⟩ := (tok t (by rw [hk]; simp)).desc
   unfold descOK at hdk
   rw [hk] at hdk
   have e1 := hdk.2
   simp only at e1
   exact ⟨by rw [hd, e1], rfl, hg⟩
  ·simp at h
 ·simp at h
theorem keyOK.desc (tok : TOK P tt) {t : Nat} {x : V} (h : keyOK tt t x) : ∃ d, P.underlying t = some d := by
 have hk : (tt t).k ≠ .other := by
  intro e
  have := h.1
  unfold kok at this
  rw [e] at this
  simp at this
 obtain ⟨d, hd, _⟩ := (tok t hk).desc
 exact ⟨d, hd⟩
theorem look_sound (tok : TOK P tt) (hh : HR O β w H) {t : Nat} {x k0 : V} {v u : Value} {ok : Bool} (hv : VR (Own O β) w β x v) (hu : VR (Own O β) w β k0 u) (h : (lookR tt (tt t) x k0 ok true H).then K) :
  Good O β w ((Instr.lookup t v u ok).run P w) K := by
 unfold lookR at h
 split at h
 case h_2 => exact h.elim
 rename_i kt et id es hm
 obtain ⟨h1, rfl, hg⟩ := mapAt_facts tok hm
 obtain ⟨b, en, clock, hb, rfl, hw, g1, g2⟩ := hh.map hg hv
 split at h
 case h_2 => exact h.elim
 rename_i hkn
 obtain ⟨z, hz, hzr, _, _⟩ := tok.zero (known_k hkn)
 cases ok with
 | true =>
  obtain ⟨⟨hko, hmk⟩, h⟩ := h
  obtain ⟨d, h2⟩ := hko.desc tok
  have hck : ∀ em : Bool, (Instr.checkKey em 10000 kt u).run P w = .ok () w := fun em => hko.check tok hu em
  obtain ⟨r, hr1, hr2, hr3⟩ := find_facts (i := 0) tok h2 hko hu hmk g1 g2
  have hfk := run_findKey_of h2 hr1 hr2
  rcases hr3 with ⟨rfl, f2, f3, _, _⟩ | ⟨j, e, rfl, f2, f3, f4, f5, _⟩
  ·rw [f3, f2] at h
   refine ⟨.tuple #[z, .bool false], w, ?_, _, H, β, h, hh, ?_, Ext.refl β w⟩
   ·simp [Instr.lookup, run_underlying h1, MapKept.run_getObj_map hw, hck, hfk, hz w]
   ·simp only [VR, VRs]
    exact ⟨[z, .bool false], rfl, hzr _ _ _, rfl, trivial⟩
  ·rw [f4] at h
   refine ⟨.tuple #[e.val, .bool true], w, ?_, _, H, β, h, hh, ?_, Ext.refl β w⟩
   ·simp [Instr.lookup, run_underlying h1, MapKept.run_getObj_map hw, hck, hfk]
   ·simp only [VR, VRs]
    exact ⟨[e.val, .bool true], rfl, f5 _, rfl, trivial⟩
 | false =>
  obtain ⟨⟨hko, hmk⟩, h⟩ := h
  obtain ⟨d, h2⟩ := hko.desc tok
  have hck : ∀ em : Bool, (Instr.checkKey em 10000 kt u).run P w = .ok () w := fun em => hko.check tok hu em
  obtain ⟨r, hr1, hr2, hr3⟩ := find_facts (i := 0) tok h2 hko hu hmk g1 g2
  have hfk := run_findKey_of h2 hr1 hr2
  rcases hr3 with ⟨rfl, f2, f3, _, _⟩ | ⟨j, e, rfl, f2, f3, f4, f5, _⟩
  ·rw [f3] at h
   refine ⟨z, w, ?_, _, H, β, h, hh, hzr _ _ _, Ext.refl β w⟩
   simp [Instr.lookup, run_underlying h1, MapKept.run_getObj_map hw, hck, hfk, hz w]
  ·refine ⟨e.val, w, ?_, _, H, β, h, hh, f5 _, Ext.refl β w⟩
   simp [Instr.lookup, run_underlying h1, MapKept.run_getObj_map hw, hck, hfk]
theorem upd_sound (tok : TOK P tt) (hh : HR O β w H) {t : Nat} {x k0 y : V} {v u c : Value} (hv : VR (Own O β) w β x v) (hu : VR (Own O β) w β k0 u) (hy : VR (Own O β) w β y c) (h : (updR tt (tt t) x k0 y H).then K) :
  ∃ w', (Instr.mapUpdate t v u c).run P w = .ok () w' ∧ ∃ H' β', K (.tup []) H' ∧ HR O β' w' H' ∧ Ext β w β' w' := by
 unfold updR at h
 split at h
 case h_2 => exact h.elim
 rename_i kt et id es hm
 obtain ⟨h1, rfl, hg⟩ := mapAt_facts tok hm
 obtain ⟨b, en, clock, hb, rfl, hw, g1, g2⟩ := hh.map hg hv
 obtain ⟨⟨hko, hmk⟩, h⟩ := h
 obtain ⟨d, h2⟩ := hko.desc tok
 have hck : ∀ em : Bool, (Instr.checkKey em 10000 kt u).run P w = .ok () w := fun em => hko.check tok hu em
 obtain ⟨r, hr1, hr2, hr3⟩ := find_facts (i := 0) tok h2 hko hu hmk g1 g2
 have hfk := run_findKey_of h2 hr1 hr2
 rcases hr3 with ⟨rfl, _, _, _, f5⟩ | ⟨j, e, rfl, f2, f3, _, _, f6, _⟩
 ·obtain ⟨q1, q2⟩ := HR.wrmap (es' := mPut k0 y es) (en' := en.push { key := u, val := c, born := clock }) (clock' := clock + 1) hh hg hb hw
   (by rw [f5]; simp only [Array.toList_push, List.map_append, List.map_cons, List.map_nil]; exact VRs.append g1 (by simp only [VRs]; exact ⟨hu, trivial⟩))
   (by rw [f5]; simp only [Array.toList_push, List.map_append, List.map_cons, List.map_nil]; exact VRs.append g2 (by simp only [VRs]; exact ⟨hy, trivial⟩))
  refine ⟨_, ?_, _, β, h, q1, q2⟩
  simp [Instr.mapUpdate, run_underlying h1, MapKept.run_getObj_map hw, hck, hfk, MapKept.run_setObj_map _ hw]
 ·obtain ⟨g3, g4⟩ := f6 y c hy
  have hjl : j < en.size := by simpa using (List.getElem?_eq_some_iff.1 f2).1
  have hmod : (en.modify j fun e => { e with key := u, val := c }).toList = en.toList.set j { e with key := u, val := c } := by
   apply List.ext_getElem?
   intro i
   rw [Array.toList_modify, List.getElem?_modify, List.getElem?_set]
   by_cases hij : j = i
   ·subst hij
    rw [if_pos rfl, f2]
    simp [hjl]
   ·simp [hij]
  obtain ⟨q1, q2⟩ := HR.wrmap (es' := mPut k0 y es) (en' := en.modify j fun e => { e with key := u, val := c }) (clock' := clock) hh hg hb hw
   (by
    rw [hmod, List.map_set]
    have : (en.toList.map (·.key)).set j u = en.toList.map (·.key) := by
     apply List.ext_getElem?
     intro i
     rw [List.getElem?_set]
     split
     ·rename_i hij
      subst hij
      rw [List.getElem?_map, f2]
      simp [f3, hjl]
     ·rfl
    show VRs _ _ _ _ ((en.toList.map (·.key)).set j u)
    rw [this]
    exact g3)
   (by
    rw [hmod, List.map_set]
    exact g4)
  refine ⟨_, ?_, _, β, h, q1, q2⟩
  rw [Nat.zero_add] at hfk
  have hkey : (((en[j]?).map (·.key)).getD u) = u := by
   rw [← Array.getElem?_toList, f2]
   exact f3
  have hst : (Instr.keyThatStays u u).run P w = .ok u w := hko.stays hu
  simp only [Instr.mapUpdate, Sem.run_bind, run_underlying h1, Result.andThen_ok, MapKept.run_getObj_map hw, hck, hfk, hkey, hst, MapKept.run_setObj_map _ hw, Nat.zero_add]
theorem del_sound (tok : TOK P tt) (hh : HR O β w H) {t kt0 ty : Nat} {x k0 : V} {v u : Value} (hv : VR (Own O β) w β x v) (hu : VR (Own O β) w β k0 u) (h : (delR tt (tt t) x k0 H).then K) :
  Good O β w ((Builtin.delete_ #[t, kt0] ty #[v, u]).run P w) K := by
 unfold delR at h
 split at h
 case h_2 => exact h.elim
 rename_i kt et id es hm
 obtain ⟨h1, rfl, hg⟩ := mapAt_facts tok hm
 obtain ⟨b, en, clock, hb, rfl, hw, g1, g2⟩ := hh.map hg hv
 obtain ⟨⟨hko, hmk⟩, h⟩ := h
 obtain ⟨d, h2⟩ := hko.desc tok
 have hck : ∀ em : Bool, (Instr.checkKey em 10000 kt u).run P w = .ok () w := fun em => hko.check tok hu em
 obtain ⟨r, hr1, hr2, hr3⟩ := find_facts (i := 0) tok h2 hko hu hmk g1 g2
 have hfk := run_findKey_of h2 hr1 hr2
 have hvr : ∀ (own : Nat → Prop) (w' : World) (β' : List Pl), VR own w' β' (.tup []) (.tuple #[]) := fun _ _ _ => by simp only [VR]; exact ⟨[], rfl, trivial⟩
 rcases hr3 with ⟨rfl, _, _, f4, _⟩ | ⟨j, e, rfl, f2, f3, _, _, _, f7, f8⟩
 ·obtain ⟨q1, q2⟩ := HR.wrmap (es' := mDel k0 es) (en' := en) (clock' := clock) hh hg hb hw (by rw [f4]; exact g1) (by rw [f4]; exact g2)
  refine ⟨.tuple #[], _, ?_, _, _, β, h, q1, hvr _ _ _, q2⟩
  simp [Builtin.delete_, run_underlying h1, MapKept.run_getObj_map hw, hck, hfk, MapKept.run_setObj_map _ hw]
 ·have hjs : j < en.size := by simpa using (List.getElem?_eq_some_iff.1 f2).1
  have hsub : (en.eraseIdxIfInBounds j).toList = en.toList.eraseIdx j := by
   unfold Array.eraseIdxIfInBounds
   rw [dif_pos hjs]
   simp
  obtain ⟨q1, q2⟩ := HR.wrmap (es' := mDel k0 es) (en' := en.eraseIdxIfInBounds j) (clock' := clock) hh hg hb hw (by rw [hsub]; exact f7) (by rw [hsub]; exact f8)
  refine ⟨.tuple #[], _, ?_, _, _, β, h, q1, hvr _ _ _, q2⟩
  simp [Builtin.delete_, run_underlying h1, MapKept.run_getObj_map hw, hck, hfk, MapKept.run_setObj_map _ hw]
end
end Go.Vm
namespace Go.Vm
variable [GlobTab]
structure Cfg where
 lv : List Nat
 ef : List Nat
 ord : List (Nat × List Nat)
 em : List Nat
 fl : List Nat := []
 ks : Option (List Nat) := none
def ordOf : List (Nat × List Nat) → Nat → Option (List Nat)
 | [], _ => none
 | (i, L) :: r, n => match Nat.beq i n with | true => some L | false => ordOf r n
def memN : List Nat → Option Nat → Bool
 | _, none => false
 | [], some _ => false
 | x :: xs, some n => match Nat.beq x n with | true => true | false => memN xs (some n)
def coks : List V → Bool
 | [] => true
 | x :: xs => match x.cok with | true => coks xs | false => false
def elemK (tt : Nat → TI) (t : TI) : Bool :=
 match t.k with
 | .slice e => (tt e).known
 | .arr _ e => (tt e).known
 | _ => true
def elemLd (tt : Nat → TI) (t : TI) : Bool :=
 match t.k with
 | .arr _ e => ldT (tt e)
 | _ => true
def fldT (tt : Nat → TI) (t : TI) (f : Nat) : Bool :=
 match t.k with
 | .struct fs => match fs[f]? with | some (_, ft) => ldT (tt ft) | none => true
 | _ => true
def opnds : Op → List Operand
 | .move x | .assign x | .box _ x | .load _ x | .nilCheck x | .unOp _ _ x | .convert _ _ x | .makeInterface _ x | .fieldAddr _ x _ | .field _ x _ | .extract x _ | .typeAssert x _ _ _ => [x]
 | .pick c a b => [c, a, b]
 | .build _ ps | .buildSlice _ _ ps => ps.toList.map (·.2)
 | .store _ a v | .binOp _ _ a v _ | .makeSlice _ a v | .indexAddr _ a v | .index _ a v => [a, v]
 | .slice _ x l h m => x :: ((match l with | some l => [l] | none => []) ++ (match h with | some h => [h] | none => []) ++ (match m with | some m => [m] | none => []))
 | .makeFunc _ first captured => first.toList ++ captured.toList
 | .makeMap _ r => match r with | some r => [r] | none => []
 | .lookup _ x i _ => [x, i]
 | .mapUpdate _ m k x => [m, k, x]
 | .insert _ m k x => [m, k, x]
 | .call c => (match c.callee with | .value f => [f] | .invoke r _ => [r] | .builtin _ => []) ++ c.args.toList
 | _ => []
def zipI : List Nat → List V → List (Nat × V)
 | i :: is, v :: vs => (i, v) :: zipI is vs
 | _, _ => []
def sliceR (tt : Nat → TI) (t : TI) (lo hi mx : Bool) (args : List V) (g : Bool) (H : List Ob) : Res :=
 match lo, hi, mx, args with
 | false, false, false, [x] => slR tt t x none none none g H
 | true, false, false, [x, .int _ l] => slR tt t x (some l) none none g H
 | false, true, false, [x, .int _ h] => slR tt t x none (some h) none g H
 | true, true, false, [x, .int _ l, .int _ h] => slR tt t x (some l) (some h) none g H
 | false, true, true, [x, .int _ h, .int _ m] => slR tt t x none (some h) (some m) g H
 | true, true, true, [x, .int _ l, .int _ h, .int _ m] => slR tt t x (some l) (some h) (some m) g H
 | _, _, _, _ => .bad
def bSliceR (tt : Nat → TI) (live : Bool) (t : TI) (n : Nat) (is : List Nat) (args : List V) (nid : Nat) (H : List Ob) : Res :=
 match t.k with
 | .slice e =>
  match (tt e).known, (tt e).zero.cok, coks args, Nat.blt 0 (tt e).size, Nat.ble (n * (tt e).size) 16777216, fillP (fun i => some (i * (tt e).size, (tt e).size)) (repC n (tt e).zero.cells) (zipI is args) with
  | true, true, true, true, true, some r =>
   match live with
   | true => .ok (.buf nid 0 0 n (tt e).size) (place H nid (.cells 0 r))
   | false => .ok (.sl false r n) H
  | _, _, _, _, _, _ => .bad
 | _ => .bad
def appendR (tt : Nat → TI) (st xt : TI) (d x : V) (nid : Nat) (H : List Ob) : Res :=
 match st.k with
 | .slice e =>
  match (tt e).known with
  | true => match xt.k with
   | .slice _ => appR (tt e) d x nid H
   | .str => appR (tt e) d x nid H
   | _ => .bad
  | false => .bad
 | _ => .bad
def copyT (tt : Nat → TI) (st : TI) (d x : V) (H : List Ob) : Res :=
 match st.k with
 | .slice e => match (tt e).known with
  | true => copyR (tt e) d x H
  | false => .bad
 | _ => .bad
def lenT (t : TI) (x : V) (H : List Ob) : Res :=
 match t.k with
 | .map _ _ => (match x with
  | .mp id => (match getO H id with
   | .map es => .ok (.int .i64 es.length) H
   | _ => .bad)
  | _ => .bad)
 | _ => lenR t x H
def builtinR (tt : Nat → TI) (b : Builtin) (ats : List Nat) (args : List V) (nid : Nat) (H : List Ob) : Res :=
 match b, ats, args with
 | .len, t :: _, [x] => lenT (tt t) x H
 | .append, st :: xt :: _, [d, x] => appendR tt (tt st) (tt xt) d x nid H
 | .copy, st :: _, [d, x] => copyT tt (tt st) d x H
 | .delete, mt :: _, [m, k] => delR tt (tt mt) m k H
 | .min, _, [.int k a, .int _ b] => .ok (.int k (if b < a then b else a)) H
 | .max, _, [.int k a, .int _ b] => .ok (.int k (if b > a then b else a)) H
 | _, _, _ => .bad
def assertR (ti : TI) (t : Nat) (x : V) (ok : Bool) (H : List Ob) : Res :=
 match x with
 | .ifc u v => match Nat.beq u t with
  | true => match ok with
   | true => .ok (.tup [v, .bool true]) H
   | false => .ok v H
  | false => match ok with
   | true => .ok (.tup [ti.zero, .bool false]) H
   | false => .bad
 | .nili => match ok with
  | true => .ok (.tup [ti.zero, .bool false]) H
  | false => .bad
 | _ => .bad
def asrT (ti : TI) : Bool := match ti.known, ti.k with
 | true, .iface => false
 | true, _ => true
 | false, _ => false
def opR (tt : Nat → TI) (lv : List Nat) (dst : Option Nat) (o : Op) (args : List V) (g : Bool) (nid : Nat) (H : List Ob) : Res :=
 match o, args with
 | .move _, [x] => .ok x H
 | .assign _, [x] => .ok x H
 | .alloc e, [] => match (tt e).known, (tt e).zero.cok with
  | true, true => .ok (.ptr nid 0 0) (place H nid (.cells 0 (tt e).zero.cells))
  | _, _ => .bad
 | .box _ _, [x] => match x.cok with
  | true => .ok (.ptr nid 0 0) (place H nid (.cells 0 x.cells))
  | false => .bad
 | .build t ps, args => match partsT tt (tt t), (tt t).zero.cok, coks args, fillP (placeOf tt (tt t)) (tt t).zero.cells (zipI (ps.toList.map (·.1)) args) with
  | true, true, true, some r => .ok (.agg r) H
  | _, _, _, _ => .bad
 | .buildSlice t n ps, args => bSliceR tt (memN lv dst) (tt t) n (ps.toList.map (·.1)) args nid H
 | .load t _, [x] => match ldT (tt t) with | true => ldR (tt t) x g H | false => .bad
 | .store t _ _, [x, y] => match (tt t).known with | true => stR (tt t) x y H | false => .bad
 | .nilCheck _, [x] => match x with
  | .ptr _ _ _ => .ok x H
  | .fp _ => .ok x H
  | .fn (.func _) _ _ => .ok x H
  | .ifc _ _ => .ok x H
  | _ => .bad
 | .binOp op t _ _ _, [x, y] => match ifcEq tt (tt t).k op x y with | some b => .ok (.bool b) H | none => (match binT (tt t) x with | true => binR (tt t) op x y g H | false => .bad)
 | .unOp op _ _, [x] => unR op x H
 | .convert s t _, [x] => match (tt s).known with
  | true => (match isBS tt (tt s) (tt t) with | true => bytesR x H | false => convR (tt s) (tt t) x H)
  | false => .bad
 | .makeInterface t _, [x] => match (tt t).known, (tt t).k with
  | true, .iface => .bad
  | true, _ => .ok (.ifc t x) H
  | false, _ => .bad
 | .makeFunc f first _, args => .ok (.fn f (args.take first.size) (args.drop first.size)) H
 | .makeSlice t _ _, [.int _ n, .int _ m] => match (tt t).k with
  | .slice e => match (tt e).known, (tt e).zero.cok with
   | true, true => makeR (tt e) n m nid H
   | _, _ => .bad
  | _ => .bad
 | .slice t _ lo hi mx, args => match elemK tt (tt t) with
  | true => sliceR tt (tt t) lo.isSome hi.isSome mx.isSome args g H
  | false => .bad
 | .fieldAddr t _ f, [x] => fldAR tt (tt t) x f H
 | .field t _ f, [x] => match fldT tt (tt t) f with | true => fldR tt (tt t) x f g H | false => .bad
 | .indexAddr t _ _, [x, .int _ i] => match elemK tt (tt t) with | true => idxAR tt (tt t) x i g H | false => .bad
 | .index t _ _, [x, .int _ i] => match elemLd tt (tt t) with | true => idxR tt (tt t) x i g H | false => .bad
 | .makeMap t _, [] => mkMapR (tt t) nid H
 | .lookup t _ _ ok, [x, k] => lookR tt (tt t) x k ok g H
 | .mapUpdate t _ _ _, [x, k, y] => updR tt (tt t) x k y H
 | .insert t _ _ _, [x, k, y] => updR tt (tt t) x k y H
 | .extract _ i, [.tup vs] => match vs[i]? with | some v => .ok v H | none => .bad
 | .typeAssert _ _ t ok, [x] => match asrT (tt t) with | true => assertR (tt t) t x ok H | false => .bad
 | .call c, args => match c.callee with
  | .builtin b => builtinR tt b c.argTypes.toList args nid H
  | _ => .bad
 | _, _ => .bad
section
variable {O : Nat → Prop} {β : List Pl} {w : World} {H : List Ob} {K : V → List Ob → Prop} {P : Program} {tt : Nat → TI}
def Good2 (O : Nat → Prop) (β : List Pl) (w : World) (r : Result Next) (K : V → List Ob → Prop) : Prop :=
 ∃ v w', (r = .ok (.value v) w' ∨ (r = .ok .skip w' ∧ v = undef)) ∧ ∃ x H' β', K x H' ∧ HR O β' w' H' ∧ VR (Own O β') w' β' x v ∧ Ext β w β' w'
theorem Good.two {s : Sem Value} (h : Good O β w (s.run P w) K) : Good2 O β w ((do pure (.value (← s)) : Sem Next).run P w) K := by
 obtain ⟨v, w', h1, h2⟩ := h
 exact ⟨v, w', .inl (by simp [h1]), h2⟩
theorem Good2.pure {v : Value} {x : V} (hh : HR O β w H) (hk : K x H) (hv : VR (Own O β) w β x v) : Good2 O β w ((pure (.value v) : Sem Next).run P w) K :=
 ⟨v, w, .inl rfl, x, H, β, hk, hh, hv, Ext.refl β w⟩
theorem coks_all : ∀ {xs : List V}, coks xs = true → ∀ x ∈ xs, x.cok = true
 | [], _ => by simp
 | x :: xs, h => by
  simp only [coks] at h
  split at h
  ·rename_i hx; intro y hy; rcases List.mem_cons.1 hy with rfl | hy
   ·exact hx
   ·exact coks_all h y hy
  ·simp at h
theorem zipI_facts {own : Nat → Prop} : ∀ {is : List Nat} {args : List V} {vals : List Value}, is.length = vals.length → VRs own w β args vals →
  (zipI is args).map (·.1) = (is.zip vals).map (·.1) ∧ VRs own w β ((zipI is args).map (·.2)) ((is.zip vals).map (·.2)) ∧ (∀ p ∈ zipI is args, p.2 ∈ args)
 | [], args, vals, h, hv => by
  cases vals with
  | nil => simp [zipI, VRs]
  | cons _ _ => simp at h
 | i :: is, [], vals, h, hv => by
  cases vals with
  | nil => simp at h
  | cons _ _ => simp [VRs] at hv
 | i :: is, x :: xs, [], h, hv => by simp [VRs] at hv
 | i :: is, x :: xs, v :: vs, h, hv => by
  simp only [VRs] at hv
  obtain ⟨h1, h2, h3⟩ := zipI_facts (is := is) (by simpa using h) hv.2
  refine ⟨by simp [zipI, h1], by simp only [zipI, List.zip_cons_cons, List.map_cons, VRs]; exact ⟨hv.1, h2⟩, ?_⟩
  intro p hp
  simp only [zipI, List.mem_cons] at hp
  rcases hp with rfl | hp
  ·simp
  ·exact List.mem_cons_of_mem _ (h3 p hp)
theorem VRs1 {own : Nat → Prop} {x : V} {vs : List Value} (h : VRs own w β [x] vs) : ∃ v, vs = [v] ∧ VR own w β x v := by
 match vs, h with
 | [v], h => simp only [VRs] at h; exact ⟨v, rfl, h.1⟩
theorem VRs2 {own : Nat → Prop} {x y : V} {vs : List Value} (h : VRs own w β [x, y] vs) : ∃ v u, vs = [v, u] ∧ VR own w β x v ∧ VR own w β y u := by
 match vs, h with
 | [v, u], h => simp only [VRs] at h; exact ⟨v, u, rfl, h.1, h.2.1⟩
theorem VRs3 {own : Nat → Prop} {x y z : V} {vs : List Value} (h : VRs own w β [x, y, z] vs) : ∃ v u c, vs = [v, u, c] ∧ VR own w β x v ∧ VR own w β y u ∧ VR own w β z c := by
 match vs, h with
 | [v, u, c], h => simp only [VRs] at h; exact ⟨v, u, c, rfl, h.1, h.2.1, h.2.2.1⟩
theorem fillP_length {pl : Nat → Option (Nat × Nat)} : ∀ {ps : List (Nat × V)} {cs r : List V}, fillP pl cs ps = some r → r.length = cs.length
 | [], cs, r, h => by simp only [fillP, Option.some.injEq] at h; rw [h]
 | (i, x) :: ps, cs, r, h => by
  simp only [fillP] at h
  split at h
  ·simp at h
  ·split at h
   ·rename_i off size _ h1 h2
    rw [fillP_length h, putV_length]
    have := Nat.eq_of_beq_eq_true h1
    simp only [Nat.ble_eq] at h2
    omega
   ·simp at h
theorem sliceR_facts {own : Nat → Prop} {t : TI} {args : List V} {a : Act} {ty : Nat} {x : Operand} {lo hi mx : Option Operand} {g : Bool}
  (hv : VRs own w β args ((opnds (.slice ty x lo hi mx)).map a.eval)) (h : (sliceR tt t lo.isSome hi.isSome mx.isSome args g H).then K) :
  ∃ (lo' hi' mx' : Option (IntKind × Int)) (x0 : V), lo.map a.eval = bval lo' ∧ hi.map a.eval = bval hi' ∧ mx.map a.eval = bval mx' ∧ (mx'.isSome = true → hi'.isSome = true) ∧
   VR own w β x0 (a.eval x) ∧ (slR tt t x0 (bint lo') (bint hi') (bint mx') g H).then K := by
 cases lo with
 | none =>
  cases hi with
  | none =>
   cases mx with
   | none =>
    rcases args with _ | ⟨x0, args⟩
    ·exact False.elim h
    rcases args with _ | ⟨y9, args⟩
    ·simp only [opnds, List.append_nil, List.nil_append, List.cons_append, List.map, VRs, VR] at hv
     exact ⟨none, none, none, x0, rfl, rfl, rfl, fun h0 => by simp at h0, hv.1, h⟩
    ·exact False.elim h
   | some mx =>
    exact False.elim h
  | some hi =>
   cases mx with
   | none =>
    rcases args with _ | ⟨x0, args⟩
    ·exact False.elim h
    rcases args with _ | ⟨y, args⟩
    ·exact False.elim h
    cases y with
    | int k0 n0 =>
     rcases args with _ | ⟨y9, args⟩
     ·simp only [opnds, List.append_nil, List.nil_append, List.cons_append, List.map, VRs, VR] at hv
      exact ⟨none, some (k0, n0), none, x0, rfl, congrArg some hv.2.1, rfl, fun _ => rfl, hv.1, h⟩
     ·exact False.elim h
    | _ => exact False.elim h
   | some mx =>
    rcases args with _ | ⟨x0, args⟩
    ·exact False.elim h
    rcases args with _ | ⟨y, args⟩
    ·exact False.elim h
    cases y with
    | int k0 n0 =>
     rcases args with _ | ⟨z, args⟩
     ·exact False.elim h
     cases z with
     | int k1 n1 =>
      rcases args with _ | ⟨y9, args⟩
      ·simp only [opnds, List.append_nil, List.nil_append, List.cons_append, List.map, VRs, VR] at hv
       exact ⟨none, some (k0, n0), some (k1, n1), x0, rfl, congrArg some hv.2.1, congrArg some hv.2.2.1, fun _ => rfl, hv.1, h⟩
      ·exact False.elim h
     | _ => exact False.elim h
    | _ => exact False.elim h
 | some lo =>
  cases hi with
  | none =>
   cases mx with
   | none =>
    rcases args with _ | ⟨x0, args⟩
    ·exact False.elim h
    rcases args with _ | ⟨y, args⟩
    ·exact False.elim h
    cases y with
    | int k0 n0 =>
     rcases args with _ | ⟨y9, args⟩
     ·simp only [opnds, List.append_nil, List.nil_append, List.cons_append, List.map, VRs, VR] at hv
      exact ⟨some (k0, n0), none, none, x0, congrArg some hv.2.1, rfl, rfl, fun h0 => by simp at h0, hv.1, h⟩
     ·exact False.elim h
    | _ => exact False.elim h
   | some mx =>
    exact False.elim h
  | some hi =>
   cases mx with
   | none =>
    rcases args with _ | ⟨x0, args⟩
    ·exact False.elim h
    rcases args with _ | ⟨y, args⟩
    ·exact False.elim h
    cases y with
    | int k0 n0 =>
     rcases args with _ | ⟨z, args⟩
     ·exact False.elim h
     cases z with
     | int k1 n1 =>
      rcases args with _ | ⟨y9, args⟩
      ·simp only [opnds, List.append_nil, List.nil_append, List.cons_append, List.map, VRs, VR] at hv
       exact ⟨some (k0, n0), some (k1, n1), none, x0, congrArg some hv.2.1, congrArg some hv.2.2.1, rfl, fun _ => rfl, hv.1, h⟩
      ·exact False.elim h
     | _ => exact False.elim h
    | _ => exact False.elim h
   | some mx =>
    rcases args with _ | ⟨x0, args⟩
    ·exact False.elim h
    rcases args with _ | ⟨y, args⟩
    ·exact False.elim h
    cases y with
    | int k0 n0 =>
     rcases args with _ | ⟨z, args⟩
     ·exact False.elim h
     cases z with
     | int k1 n1 =>
      rcases args with _ | ⟨u, args⟩
      ·exact False.elim h
      cases u with
      | int k2 n2 =>
       rcases args with _ | ⟨y9, args⟩
       ·simp only [opnds, List.append_nil, List.nil_append, List.cons_append, List.map, VRs, VR] at hv
        exact ⟨some (k0, n0), some (k1, n1), some (k2, n2), x0, congrArg some hv.2.1, congrArg some hv.2.2.1, congrArg some hv.2.2.2.1, fun _ => rfl, hv.1, h⟩
       ·exact False.elim h
      | _ => exact False.elim h
     | _ => exact False.elim h
    | _ => exact False.elim h
theorem arr_of_list {α : Type} {xs : Array α} {l : List α} (h : xs.toList = l) : xs = l.toArray := by rw [← h]
theorem builtin_sound (tok : TOK P tt) (hh : HR O β w H) {nid : Nat} (hf : Free H nid) {b : Builtin} {ats : Array Nat} {ty : Nat} {cs : Array Bool} {vals : Array Value} {args : List V}
  (hv : VRs (Own O β) w β args vals.toList) (h : (builtinR tt b ats.toList args nid H).then K) : Good2 O β w ((builtin b ats ty cs vals).run P w) K := by
 unfold builtinR at h
 split at h
 · -- len
  rename_i t ts x he
  obtain ⟨v, hv1, hv2⟩ := VRs1 hv
  rw [arr_of_list hv1]
  have hargs : ats[0]? = some t := by rw [arr_of_list he]; rfl
  unfold lenT at h
  split at h
  ·rename_i kt et hk
   obtain ⟨d, hd, _, hdk⟩ := (tok t (by rw [hk]; simp)).desc
   rw [hk] at hdk; simp only at hdk; subst hdk
   split at h
   ·rename_i id
    split at h
    ·rename_i es hg
     obtain ⟨b, en, clock, hb, rfl, hw, g1, _⟩ := hh.map hg hv2
     have hlen : en.size = es.length := by
      have := g1.length
      simpa using this
     refine (Good.int hh h ?_).two
     simp [Builtin.len_, hargs, run_underlying hd, goInt, MapKept.run_getObj_map hw, hlen]
    ·exact h.elim
   ·exact h.elim
  ·exact (len_sound tok hh (args := ats) (ty := ty) hargs hv2 h).two
 · -- append
  rename_i st xt ts d x he
  obtain ⟨v, u, hv1, hv2, hv3⟩ := VRs2 hv
  unfold appendR at h
  split at h
  ·rename_i e hk
   split at h
   ·rename_i hke
    have key : ((∃ e', (tt xt).k = .slice e') ∨ (tt xt).k = .str) → (appR (tt e) d x nid H).then K → Good2 O β w ((builtin .append ats ty cs vals).run P w) K := by
     intro hx hh'
     have := (app_sound (K := K) (ty := ty) (st := st) (xt := xt) tok hh hf hk (known_k hke) hx hv2 hv3 hh')
     rw [arr_of_list hv1]
     have e2 : (Builtin.append_ ats ty [v, u].toArray) = Builtin.append_ #[st, xt] ty #[v, u] := by
      unfold Builtin.append_
      rw [arr_of_list he]
      rfl
     show Good2 O β w ((do pure (.value (← Builtin.append_ ats ty [v, u].toArray)) : Sem Next).run P w) K
     rw [e2]
     exact this.two
    split at h
    ·rename_i e' hx; exact key (.inl ⟨e', hx⟩) h
    ·rename_i hx; exact key (.inr hx) h
    ·exact h.elim
   ·exact h.elim
  ·exact h.elim
 · -- copy
  rename_i st ts d x he
  obtain ⟨v, u, hv1, hv2, hv3⟩ := VRs2 hv
  unfold copyT at h
  split at h
  ·rename_i e hk
   split at h
   ·rename_i hke
    have := (copy_sound (K := K) (ty := ty) (st := st) (xt := st) tok hh hk (known_k hke) hv2 hv3 h)
    rw [arr_of_list hv1]
    have e2 : (Builtin.copy_ ats ty [v, u].toArray) = Builtin.copy_ #[st, st] ty #[v, u] := by
     unfold Builtin.copy_
     rw [arr_of_list he]
     rfl
    show Good2 O β w ((do pure (.value (← Builtin.copy_ ats ty [v, u].toArray)) : Sem Next).run P w) K
    rw [e2]
    exact this.two
   ·exact h.elim
  ·exact h.elim
 · -- delete
  rename_i mt ts m k he
  obtain ⟨v, u, hv1, hv2, hv3⟩ := VRs2 hv
  rw [arr_of_list hv1]
  have e2 : ∀ k0, (Builtin.delete_ ats ty [v, u].toArray) = Builtin.delete_ #[mt, k0] ty #[v, u] := by
   intro k0
   unfold Builtin.delete_
   rw [arr_of_list he]
   rfl
  show Good2 O β w ((do pure (.value (← Builtin.delete_ ats ty [v, u].toArray)) : Sem Next).run P w) K
  rw [e2 0]
  exact (del_sound tok hh hv2 hv3 h).two
 · -- min
  obtain ⟨v, u, hv1, hv2, hv3⟩ := VRs2 hv
  simp only [VR] at hv2 hv3
  subst hv2 hv3
  rw [arr_of_list hv1]
  exact Good.two (Good.int hh h (run_min_int2 w ats ty _ _ _ _))
 ·obtain ⟨v, u, hv1, hv2, hv3⟩ := VRs2 hv
  simp only [VR] at hv2 hv3
  subst hv2 hv3
  rw [arr_of_list hv1]
  exact Good.two (Good.int hh h (run_max_int2 w ats ty _ _ _ _))
 ·exact h.elim
theorem asrT_facts {ti : TI} (h : asrT ti = true) : ti.known = true ∧ ti.k ≠ .iface := by
 unfold asrT at h
 split at h
 ·simp at h
 ·rename_i h1 h2; exact ⟨h1, fun e => h2 e⟩
 ·simp at h
theorem run_assert_hit {xt t : Nat} {d : TypeDesc} (hd : P.underlying t = some d) (hdi : ∀ ms, d ≠ .interface ms) {y : Value} {ok : Bool} :
  (Instr.typeAssert (.iface t y) xt t ok).run P w = .ok (if ok = true then .tuple #[y, .bool true] else y) w := by
 simp only [Instr.typeAssert, Sem.run_bind, run_underlying hd, Result.andThen_ok]
 cases d <;> first | exact absurd rfl (hdi _) | simp
theorem run_assert_miss {xt t u : Nat} {d : TypeDesc} (hd : P.underlying t = some d) (hdi : ∀ ms, d ≠ .interface ms) {y z : Value} (hz : (zeroValue t).run P w = .ok z w) (hu : u ≠ t) :
  (Instr.typeAssert (.iface u y) xt t true).run P w = .ok (.tuple #[z, .bool false]) w := by
 simp only [Instr.typeAssert, Sem.run_bind, run_underlying hd, Result.andThen_ok]
 cases d <;> first | exact absurd rfl (hdi _) | simp [hu, hz]
theorem run_assert_nil {xt t : Nat} {d : TypeDesc} (hd : P.underlying t = some d) (hdi : ∀ ms, d ≠ .interface ms) {z : Value} (hz : (zeroValue t).run P w = .ok z w) :
  (Instr.typeAssert .nilIface xt t true).run P w = .ok (.tuple #[z, .bool false]) w := by
 simp only [Instr.typeAssert, Sem.run_bind, run_underlying hd, Result.andThen_ok]
 cases d <;> first | exact absurd rfl (hdi _) | simp [hz]
theorem assert_sound (hh : HR O β w H) {xt t : Nat} {d : TypeDesc} (hd : P.underlying t = some d) (hdi : ∀ ms, d ≠ .interface ms) {ti : TI} {z : Value} (hz : ∀ w, (zeroValue t).run P w = .ok z w) (hzr : VR (Own O β) w β ti.zero z)
  {x : V} {v : Value} {ok : Bool} (hv : VR (Own O β) w β x v) (h : (assertR ti t x ok H).then K) : Good O β w ((Instr.typeAssert v xt t ok).run P w) K := by
 unfold assertR at h
 split at h
 ·rename_i u y
  simp only [VR] at hv
  obtain ⟨y', rfl, hy⟩ := hv
  split at h
  ·rename_i hb
   have hu : u = t := Nat.eq_of_beq_eq_true hb
   subst hu
   split at h
   ·exact Good.same (run_assert_hit hd hdi) hh h (by simp only [if_true, VR, VRs]; exact ⟨[y', .bool true], rfl, hy, rfl, trivial⟩)
   ·exact Good.same (run_assert_hit hd hdi) hh h (by simpa using hy)
  ·rename_i hb
   have hu : u ≠ t := fun e => by subst e; rw [Nat.beq_refl] at hb; cases hb
   split at h
   ·exact Good.same (run_assert_miss hd hdi (hz w) hu) hh h (by simp only [VR, VRs]; exact ⟨[z, .bool false], rfl, hzr, rfl, trivial⟩)
   ·exact h.elim
 ·simp only [VR] at hv
  subst hv
  split at h
  ·exact Good.same (run_assert_nil hd hdi (hz w)) hh h (by simp only [VR, VRs]; exact ⟨[z, .bool false], rfl, hzr, rfl, trivial⟩)
  ·exact h.elim
 ·exact h.elim
theorem opR_sound (tok : TOK P tt) (hh : HR O β w H) {nid : Nat} (hf : Free H nid) {lv : List Nat} {o : Oper} {a : Act} {args : List V}
  (hv : VRs (Own O β) w β args ((opnds o.op).map a.eval)) (h : (opR tt lv o.dst o.op args true nid H).then K) : Good2 O β w ((execOp a.eval o).run P w) K := by
 unfold opR at h
 split at h
 · -- move
  rename_i x y e
  rw [e] at hv; simp only [opnds, List.map] at hv
  obtain ⟨v, hv1, hv2⟩ := VRs1 hv; cases hv1
  simp only [execOp, e]; exact Good2.pure hh h hv2
 ·rename_i x y e
  rw [e] at hv; simp only [opnds, List.map] at hv
  obtain ⟨v, hv1, hv2⟩ := VRs1 hv; cases hv1
  simp only [execOp, e]; exact Good2.pure hh h hv2
 · -- alloc
  rename_i el e
  split at h
  ·rename_i h1 h2
   simp only [execOp, e]
   exact (alloc_sound tok hh hf (known_k h1) h2 h).two
  ·exact h.elim
 · -- box
  rename_i el x y e
  rw [e] at hv; simp only [opnds, List.map] at hv
  obtain ⟨v, hv1, hv2⟩ := VRs1 hv; cases hv1
  split at h
  ·rename_i hc
   simp only [execOp, e]
   exact (box_sound hh hf hc hv2 h).two
  ·exact h.elim
 · -- build
  rename_i args t ps e
  rw [e] at hv; simp only [opnds] at hv
  split at h
  ·rename_i r h1 h2 h3 h4
   simp only [execOp, e]
   have hl : (ps.toList.map (·.1)).length = ((ps.toList.map (·.2)).map a.eval).length := by simp
   obtain ⟨g1, g2, g3⟩ := zipI_facts hl hv
   have hz : (ps.toList.map (·.1)).zip ((ps.toList.map (·.2)).map a.eval) = ps.toList.map fun x => (x.1, a.eval x.2) := by
    rw [List.map_map, List.zip_map']
    rfl
   rw [hz] at g1 g2
   have := build_sound (K := K) tok hh (t := t) (qs := ps.toList.map fun x => (x.1, a.eval x.2)) h1 h2 h4 (fun p hp => coks_all h3 _ (g3 p hp)) g1 g2 h
   have e2 : (ps.toList.map fun x => (x.1, a.eval x.2)).toArray = ps.map fun (i, x) => (i, a.eval x) := by
    apply Array.ext'; simp
   rw [e2] at this
   exact this.two
  ·exact h.elim
 · -- buildSlice
  rename_i args t n ps e
  rw [e] at hv; simp only [opnds] at hv
  unfold bSliceR at h
  split at h
  ·rename_i el hk
   split at h
   ·rename_i r h1 h2 h3 h4 h5 h6
    simp only [execOp, e]
    have hl : (ps.toList.map (·.1)).length = ((ps.toList.map (·.2)).map a.eval).length := by simp
    obtain ⟨g1, g2, g3⟩ := zipI_facts hl hv
    have hz : (ps.toList.map (·.1)).zip ((ps.toList.map (·.2)).map a.eval) = ps.toList.map fun x => (x.1, a.eval x.2) := by
     rw [List.map_map, List.zip_map']
     rfl
    rw [hz] at g1 g2
    obtain ⟨cs, hr, hcs⟩ := buildSlice_run (P := P) (w := w) tok (n := n) (qs := ps.toList.map fun x => (x.1, a.eval x.2)) hk (known_k h1) h2 (by simpa using h4) (by simpa using h5) h6 (fun p hp => coks_all h3 _ (g3 p hp)) g1 g2
    have e2 : (ps.toList.map fun x => (x.1, a.eval x.2)).toArray = ps.map fun (i, x) => (i, a.eval x) := by
     apply Array.ext'; simp
    rw [e2] at hr
    have hlen := hcs.length
    simp at hlen
    have hrl : r.length = n * (tt el).size := by
     obtain ⟨_, _, _, _, _, _, _, _, hz7⟩ := (tok el (known_k h1)).info
     rw [fillP_length h6, repC_eq]
     simp [hz7]
    split at h
    ·obtain ⟨q1, q2⟩ := hh.alloc (ty := el) hf hcs
     exact Good.two ⟨_, _, hr, _, _, _, h, q1, VR.new_buf hh hf (Nat.le_refl _) (by omega), q2⟩
    ·obtain ⟨q1, q2⟩ := Ext.alloc hh (.cells cs el)
     refine Good.two ⟨_, _, hr, _, _, _, h, q2, ?_, q1⟩
     simp only [VR]
     refine .inr ⟨trivial, w.heap.size, 0, n, cs.toList, rfl, Nat.le_refl _, by simp, ?_, VRs.cellsAt, VRs.ext q1 _ _ hcs⟩
     rintro (ho | hb)
     ·have := hh.old _ ho; omega
     ·have := hh.lt _ hb; omega
   ·exact h.elim
  ·exact h.elim
 · -- load
  rename_i t y x e
  rw [e] at hv; simp only [opnds, List.map] at hv
  obtain ⟨v, hv1, hv2⟩ := VRs1 hv; cases hv1
  split at h
  ·rename_i ht
   simp only [execOp, e]
   exact (ld_sound tok hh ht hv2 h).two
  ·exact h.elim
 · -- store
  rename_i t y z x x' e
  rw [e] at hv; simp only [opnds, List.map] at hv
  obtain ⟨v, u, hv1, hv2, hv3⟩ := VRs2 hv; cases hv1
  split at h
  ·rename_i ht
   simp only [execOp, e]
   obtain ⟨w', h1, H', β', h2, h3, h4⟩ := st_sound tok hh (known_k ht) hv2 hv3 h
   exact ⟨undef, w', .inr ⟨by simp [h1], rfl⟩, _, H', β', h2, h3, by simp only [VR]; exact ⟨[], rfl, by simp only [VRs]⟩, h4⟩
  ·exact h.elim
 · -- nilCheck
  rename_i y x e
  rw [e] at hv; simp only [opnds, List.map] at hv
  obtain ⟨v, hv1, hv2⟩ := VRs1 hv; cases hv1
  simp only [execOp, e]
  split at h
  ·have hv3 := hv2
   simp only [VR] at hv3
   obtain ⟨⟨p, hp⟩, _⟩ := hv3
   rw [hp] at hv2 ⊢
   exact Good2.pure hh h hv2
  ·have hv3 := hv2
   simp only [VR] at hv3
   obtain ⟨b, off, l, hp, _⟩ := hv3
   rw [hp] at hv2 ⊢
   exact Good2.pure hh h hv2
  ·have hv3 := hv2
   simp only [VR] at hv3
   obtain ⟨la, lb, hp, _⟩ := hv3
   rw [hp] at hv2 ⊢
   exact Good2.pure hh h hv2
  ·have hv3 := hv2
   simp only [VR] at hv3
   obtain ⟨y, hp, _⟩ := hv3
   rw [hp] at hv2 ⊢
   exact Good2.pure hh h hv2
  ·exact h.elim
 · -- binOp
  rename_i op t y z yt x x' e
  rw [e] at hv; simp only [opnds, List.map] at hv
  obtain ⟨v, u, hv1, hv2, hv3⟩ := VRs2 hv; cases hv1
  split at h
  ·rename_i b hb
   simp only [execOp, e]
   exact (ifc_sound (ox := y) (oy := z) tok hh hv2 hv3 hb h).two
  ·split at h
   ·rename_i ht
    simp only [execOp, e]
    exact (bin_sound (ox := y) (oy := z) tok hh ht hv2 hv3 h).two
   ·exact h.elim
 · -- unOp
  rename_i op t y x e
  rw [e] at hv; simp only [opnds, List.map] at hv
  obtain ⟨v, hv1, hv2⟩ := VRs1 hv; cases hv1
  simp only [execOp, e]
  exact (un_sound hh hv2 h).two
 · -- convert
  rename_i s t y x e
  rw [e] at hv; simp only [opnds, List.map] at hv
  obtain ⟨v, hv1, hv2⟩ := VRs1 hv; cases hv1
  split at h
  ·rename_i ht
   simp only [execOp, e]
   split at h
   ·rename_i hb
    exact (bytes_sound tok hh hb hv2 h).two
   ·exact (conv_sound tok hh (known_k ht) hv2 h).two
  ·exact h.elim
 · -- makeInterface
  rename_i t y x e
  rw [e] at hv; simp only [opnds, List.map] at hv
  obtain ⟨v, hv1, hv2⟩ := VRs1 hv; cases hv1
  split at h
  ·exact h.elim
  ·rename_i k hkn hni
   simp only [execOp, e]
   obtain ⟨d, hd, _, hdk⟩ := (tok t (known_k hkn)).desc
   refine Good.two (Good.same (v := .iface t (a.eval y)) ?_ hh h (by simp only [VR]; exact ⟨_, rfl, hv2⟩))
   simp only [Instr.makeInterface, Sem.run_bind, run_underlying hd, Result.andThen_ok]
   cases d <;> first | rfl | skip
   exfalso
   revert hdk
   cases hkk : (tt t).k <;> simp
   exact hni hkk
  ·exact h.elim
 · -- makeFunc
  rename_i args f first cap e
  rw [e] at hv; simp only [opnds] at hv
  simp only [execOp, e]
  refine Good.two (Good.same (v := .func f (first.map a.eval) (cap.map a.eval)) rfl hh h ?_)
  simp only [VR]
  have h1 := hv.take first.size
  have h2 := hv.drop first.size
  refine ⟨(first.map a.eval).toList, (cap.map a.eval).toList, by rw [Array.toArray_toList, Array.toArray_toList], ?_, ?_⟩
  ·have : ((first.toList ++ cap.toList).map a.eval).take first.size = (first.map a.eval).toList := by
    rw [List.map_append, List.take_append_of_le_length (by simp), List.take_of_length_le (by simp)]; simp
   rw [this] at h1; exact h1
  ·have : ((first.toList ++ cap.toList).map a.eval).drop first.size = (cap.map a.eval).toList := by
    rw [List.map_append, List.drop_append_of_le_length (by simp), List.drop_of_length_le (by simp)]; simp
   rw [this] at h2; exact h2
 · -- makeSlice
  rename_i t y z k1 n k2 m e
  rw [e] at hv; simp only [opnds, List.map] at hv
  obtain ⟨v, u, hv1, hv2, hv3⟩ := VRs2 hv
  simp only [List.cons.injEq, and_true] at hv1
  obtain ⟨e1, e2⟩ := hv1
  simp only [VR] at hv2 hv3
  split at h
  ·rename_i el hk
   split at h
   ·rename_i h1 h2
    simp only [execOp, e, e1, e2, hv2, hv3]
    exact (make_sound tok hh hf hk (known_k h1) h2 h).two
   ·exact h.elim
  ·exact h.elim
 · -- slice
  rename_i args t x lo hi mx e
  split at h
  ·rename_i hk
   rw [e] at hv
   have ht : ∀ el, (tt t).k = .slice el → (tt el).k ≠ .other := fun el he => by simp only [elemK, he] at hk; exact known_k hk
   have ht2 : ∀ n el, (tt t).k = .arr n el → (tt el).k ≠ .other := fun n el he => by simp only [elemK, he] at hk; exact known_k hk
   simp only [execOp, e]
   obtain ⟨lo', hi', mx', x0, e1, e2, e3, hm, hx, hs⟩ := sliceR_facts hv h
   rw [e1, e2, e3]
   exact (sl_sound tok hh ht ht2 hm hx hs).two
  ·exact h.elim
 · -- fieldAddr
  rename_i t y f x e
  rw [e] at hv; simp only [opnds, List.map] at hv
  obtain ⟨v, hv1, hv2⟩ := VRs1 hv; cases hv1
  simp only [execOp, e]
  exact (fldA_sound tok hh hv2 h).two
 ·rename_i t y f x e
  rw [e] at hv; simp only [opnds, List.map] at hv
  obtain ⟨v, hv1, hv2⟩ := VRs1 hv; cases hv1
  split at h
  ·rename_i ht
   simp only [execOp, e]
   refine (fld_sound tok hh (fun fs o ft hk hf => ?_) hv2 h).two
   simpa [fldT, hk, hf] using ht
  ·exact h.elim
 ·rename_i t y z x k i e
  rw [e] at hv; simp only [opnds, List.map] at hv
  obtain ⟨v, u, hv1, hv2, hv3⟩ := VRs2 hv
  simp only [List.cons.injEq, and_true] at hv1
  obtain ⟨e1, e2⟩ := hv1
  simp only [VR] at hv3
  split at h
  ·rename_i ht
   simp only [execOp, e, e1, e2, hv3]
   refine (idxA_sound tok hh (fun el hk => ?_) (fun n el hk => ?_) hv2 h).two
   ·simp only [elemK, hk] at ht; exact known_k ht
   ·simp only [elemK, hk] at ht; exact known_k ht
  ·exact h.elim
 ·rename_i t y z x k i e
  rw [e] at hv; simp only [opnds, List.map] at hv
  obtain ⟨v, u, hv1, hv2, hv3⟩ := VRs2 hv
  simp only [List.cons.injEq, and_true] at hv1
  obtain ⟨e1, e2⟩ := hv1
  simp only [VR] at hv3
  split at h
  ·rename_i ht
   simp only [execOp, e, e1, e2, hv3]
   refine (idx_sound tok hh (fun n el hk => ?_) hv2 h).two
   simpa only [elemLd, hk] using ht
  ·exact h.elim
 · -- makeMap
  rename_i t r e
  rw [e] at hv
  cases r with
  | some r => simp [opnds, VRs] at hv
  | none =>
   simp only [execOp, e]
   exact (mkMap_sound hh hf h).two
 · -- lookup
  rename_i t y z ok x k e
  rw [e] at hv; simp only [opnds, List.map] at hv
  obtain ⟨v, u, hv1, hv2, hv3⟩ := VRs2 hv; cases hv1
  simp only [execOp, e]
  exact (look_sound tok hh hv2 hv3 h).two
 · -- mapUpdate
  rename_i t y z q x k x' e
  rw [e] at hv; simp only [opnds, List.map] at hv
  obtain ⟨v, u, c, hv1, hv2, hv3, hv4⟩ := VRs3 hv; cases hv1
  simp only [execOp, e]
  obtain ⟨w', h1, H', β', h2, h3, h4⟩ := upd_sound tok hh hv2 hv3 hv4 h
  exact ⟨undef, w', .inr ⟨by simp [h1], rfl⟩, _, H', β', h2, h3, by simp only [VR]; exact ⟨[], rfl, by simp only [VRs]⟩, h4⟩
 · -- insert
  rename_i t y z q x k x' e
  rw [e] at hv; simp only [opnds, List.map] at hv
  obtain ⟨v, u, c, hv1, hv2, hv3, hv4⟩ := VRs3 hv; cases hv1
  simp only [execOp, e]
  obtain ⟨w', h1, H', β', h2, h3, h4⟩ := upd_sound tok hh hv2 hv3 hv4 h
  exact ⟨undef, w', .inr ⟨by simp [h1], rfl⟩, _, H', β', h2, h3, by simp only [VR]; exact ⟨[], rfl, by simp only [VRs]⟩, h4⟩
 · -- extract
  rename_i y i vs e
  rw [e] at hv; simp only [opnds, List.map] at hv
  obtain ⟨v, hv1, hv2⟩ := VRs1 hv
  simp only [List.cons.injEq, and_true] at hv1
  simp only [VR] at hv2
  obtain ⟨l, rfl, hl⟩ := hv2
  split at h
  ·rename_i x hx
   obtain ⟨u, hu, hr⟩ := hl.get hx
   simp only [execOp, e, hv1]
   exact Good.two (Good.same (v := u) (by simp [Instr.extract, hu]) hh h hr)
  ·exact h.elim
 · -- typeAssert
  rename_i y xt t ok x e
  rw [e] at hv; simp only [opnds, List.map] at hv
  obtain ⟨v, hv1, hv2⟩ := VRs1 hv; cases hv1
  split at h
  case h_2 => exact h.elim
  rename_i hat
  simp only [execOp, e]
  obtain ⟨hkn, hni⟩ := asrT_facts hat
  obtain ⟨d, hd, _, hdk⟩ := (tok t (known_k hkn)).desc
  obtain ⟨z, hz, hzr, _, _⟩ := tok.zero (known_k hkn)
  have hdi : ∀ ms, d ≠ .interface ms := by
   intro ms hm
   subst hm
   revert hdk
   cases hkk : (tt t).k <;> simp
   exact hni hkk
  exact (assert_sound hh hd hdi hz (hzr _ _ _) hv2 h).two
 · -- builtins
  rename_i args c e
  split at h
  ·rename_i b hc
   rw [e] at hv
   simp only [opnds, hc, List.nil_append] at hv
   have hr : (execOp a.eval o).run P w = ((builtin b c.argTypes o.type (c.args.map fun | .const _ => true | _ => false) (c.args.map a.eval)) : Sem Next).run P w := by
    simp only [execOp, e, resolve, hc, Sem.run_bind, Sem.run_pure, Result.andThen_ok, invoke]
    rfl
   rw [hr]
   exact builtin_sound tok hh hf (by rw [← Array.toList_map] at hv; exact hv) h
  ·exact h.elim
 ·exact h.elim
end
end Go.Vm

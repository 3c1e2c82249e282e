/-
  Chapter 45: the arguments of the laws as plain data; from a contract to a statement.
-/
import Derived.Test.YtlbmbbaefncleaaGreatDoorRu
import Derived.Test.YtlbmbbaefncleaaGreatDoorRows
import Derived.Test.YtlbmbbaefncleaaGreatDoorVm7
set_option maxRecDepth 100000
set_option maxHeartbeats 4000000
set_option linter.all false
namespace Go.Proofs.YtlbmbbaefncleaaGreatDoor
open Go.Vm Go.ChangeShapes Go.WideShapes Go.ChangeAt Go.RowKit
theorem own : ownKnob Tryz.prog.godebug = none := by kernel_rfl
theorem laidOut : laidOutB Tryz.prog = true := by kernel_rfl
theorem u8_byte {i : Int} (h1 : IntKind.u8.min ≤ i) (h2 : i ≤ IntKind.u8.max) : ∃ x : UInt8, i = (x.toNat : Int) := by
 have e1 : (0 : Int) ≤ i := h1
 have e2 : i ≤ 255 := h2
 refine ⟨UInt8.ofNat i.toNat, ?_⟩
 rw [UInt8.toNat_ofNat', Nat.mod_eq_of_lt (by omega)]
 omega
theorem typ_B {m : Nat} (c : List V) (h : Typ tt (m + 1) 5 c) : ∃ x : UInt8, laxs c = [.int .u8 x.toNat] ∧ True := by
 obtain ⟨a, rfl, h1, h2⟩ := typ_int (by rw [tt_5]) h
 obtain ⟨x, rfl⟩ := u8_byte h1 h2
 exact ⟨x, rfl, trivial⟩
theorem typ_I {m : Nat} (c : List V) (h : Typ tt (m + 1) 3 c) : ∃ x : Int, laxs c = [.int .i64 x] ∧ True := by
 obtain ⟨a, rfl, _⟩ := typ_int (by rw [tt_3]) h
 exact ⟨a, rfl, trivial⟩
theorem typ_N {m : Nat} (c : List V) (h : Typ tt (m + 2) 104 c) : ∃ x : Pd.Nd, laxs c = Pd.encN x ∧ True := by
 have h := typ_struct (by rw [tt_104]) h
 obtain ⟨c1, r1, rfl, h1, h⟩ := typF_cons h
 obtain ⟨c2, r2, rfl, h2, h⟩ := typF_cons h
 obtain ⟨c3, r3, rfl, h3, h⟩ := typF_cons h
 obtain ⟨c4, r4, rfl, h4, h⟩ := typF_cons h
 obtain rfl := typF_nil h
 obtain ⟨a, ha, _⟩ := typ_I _ h1
 obtain ⟨b, hb, _⟩ := typ_I _ h2
 obtain ⟨v, hv, _⟩ := typ_B _ h3
 obtain ⟨w, hw, _⟩ := typ_B _ h4
 refine ⟨⟨a, b, v, w⟩, ?_, trivial⟩
 rw [laxs_append, laxs_append, laxs_append, laxs_append, ha, hb, hv, hw]
 rfl
theorem typ_P {m : Nat} (c : List V) (h : Typ tt (m + 2) 65 c) : ∃ x : Px.Nd, laxs c = Px.encN x ∧ True := by
 have h := typ_struct (by rw [tt_65]) h
 obtain ⟨c1, r1, rfl, h1, h⟩ := typF_cons h
 obtain ⟨c2, r2, rfl, h2, h⟩ := typF_cons h
 obtain rfl := typF_nil h
 obtain ⟨a, ha, _⟩ := typ_I _ h1
 obtain ⟨b, hb, _⟩ := typ_I _ h2
 refine ⟨⟨a, b⟩, ?_, trivial⟩
 rw [laxs_append, laxs_append, ha, hb]
 rfl
theorem typ_sN {m : Nat} {c : List V} (h : Typ tt (m + 3) 54 c) : ∃ l : List Pd.Nd, laxs c = [Pd.slN l] := by
 obtain ⟨l, hl, _, _⟩ := typ_slice (by rw [tt_54]) typ_N h
 exact ⟨l, hl⟩
theorem typ_sP {m : Nat} {c : List V} (h : Typ tt (m + 3) 58 c) : ∃ l : List Px.Nd, laxs c = [Px.slN l] := by
 obtain ⟨l, hl, _, _⟩ := typ_slice (by rw [tt_58]) typ_P h
 exact ⟨l, hl⟩
theorem typ_R {m : Nat} (c : List V) (h : Typ tt (m + 4) 60 c) : ∃ x : Ru, laxs c = encR x ∧ True := by
 have h := typ_struct (by rw [tt_60]) h
 obtain ⟨c1, r1, rfl, h1, h⟩ := typF_cons h
 obtain ⟨c2, r2, rfl, h2, h⟩ := typF_cons h
 obtain ⟨c3, r3, rfl, h3, h⟩ := typF_cons h
 obtain ⟨c4, r4, rfl, h4, h⟩ := typF_cons h
 obtain rfl := typF_nil h
 obtain ⟨a, ha, _⟩ := typ_I _ h1
 obtain ⟨b, hb, _⟩ := typ_I _ h2
 obtain ⟨p, hp⟩ := typ_sN h3
 obtain ⟨q, hq⟩ := typ_sP h4
 refine ⟨⟨a, b, p, q⟩, ?_, trivial⟩
 rw [laxs_append, laxs_append, laxs_append, laxs_append, ha, hb, hp, hq]
 rfl
theorem laxs_one {cs : List V} {y : V} (h : laxs cs = [y]) : ∃ x, cs = [x] ∧ lax x = y := by
 match cs, h with
 | [], h => cases h
 | [x], h => simp only [laxs, List.cons.injEq, and_true] at h; exact ⟨x, rfl, h⟩
 | x :: y :: r, h => simp [laxs] at h
theorem typ_slR {m : Nat} {c : List V} (h : Typ tt (m + 5) 22 c) : ∃ l : List Ru, lax (mkV (tt 22) c) = slR l := by
 obtain ⟨l, hl, _, _⟩ := typ_slice (by rw [tt_22]) typ_R h
 obtain ⟨x, rfl, hx⟩ := laxs_one hl
 refine ⟨l, ?_⟩
 rw [tt_22]
 exact hx
theorem typ_slN {m : Nat} {c : List V} (h : Typ tt (m + 3) 54 c) : ∃ l : List Pd.Nd, lax (mkV (tt 54) c) = Pd.slN l := by
 obtain ⟨l, hl⟩ := typ_sN h
 obtain ⟨x, rfl, hx⟩ := laxs_one hl
 refine ⟨l, ?_⟩
 rw [tt_54]
 exact hx
def agX (h : Int) (f : Pd.Fl) : V := .agg (.int .i64 h :: Pd.encF f)
theorem typ_Fl {m : Nat} (c : List V) (h : Typ tt (m + 2) 42 c) : ∃ x : Pd.Fl, laxs c = Pd.encF x ∧ True := by
 have h := typ_struct (by rw [tt_42]) h
 obtain ⟨c1, r1, rfl, h1, h⟩ := typF_cons h
 obtain ⟨c2, r2, rfl, h2, h⟩ := typF_cons h
 obtain ⟨c3, r3, rfl, h3, h⟩ := typF_cons h
 obtain rfl := typF_nil h
 obtain ⟨a, ha, _⟩ := typ_B _ h1
 obtain ⟨b, hb, _⟩ := typ_B _ h2
 obtain ⟨v, hv, _⟩ := typ_B _ h3
 refine ⟨⟨a, b, v⟩, ?_, trivial⟩
 rw [laxs_append, laxs_append, laxs_append, ha, hb, hv]
 rfl
theorem mk_X {c : List V} : mkV (tt 44) c = .agg c := by rw [tt_44]; rfl
theorem typ_X {m : Nat} {c : List V} (h : Typ tt (m + 3) 44 c) : ∃ (x : Int) (f : Pd.Fl), lax (mkV (tt 44) c) = agX x f := by
 have h := typ_struct (by rw [tt_44]) h
 obtain ⟨c1, r1, rfl, h1, h⟩ := typF_cons h
 obtain ⟨c2, r2, rfl, h2, h⟩ := typF_cons h
 obtain rfl := typF_nil h
 obtain ⟨a, ha, _⟩ := typ_I _ h1
 obtain ⟨f, hf, _⟩ := typ_Fl _ h2
 refine ⟨a, f, ?_⟩
 rw [mk_X, lax, laxs_append, laxs_append, ha, hf]
 rfl
theorem spec_one {s : ChangeSpec} {H : Type} (h : s.fn H = fun | [d] => { results := [.lit (.bool true)], args := [d] } | _ => Rows.none) (ds : List (DataW H)) (hl : ds.length = 1) :
  s.fn H ds = { results := [.lit (.bool true)], args := ds } := by
 rw [h]
 match ds, hl with
 | [d], _ => rfl
theorem spec_two {s : ChangeSpec} {H : Type} (h : s.fn H = fun | [d, e] => { results := [.lit (.bool true)], args := [d, e] } | _ => Rows.none) (ds : List (DataW H)) (hl : ds.length = 2) :
  s.fn H ds = { results := [.lit (.bool true)], args := ds } := by
 rw [h]
 match ds, hl with
 | [d, e], _ => rfl
theorem spec_three {s : ChangeSpec} {H : Type} (h : s.fn H = fun | [d, e, f] => { results := [.lit (.bool true)], args := [d, e, f] } | _ => Rows.none) (ds : List (DataW H)) (hl : ds.length = 3) :
  s.fn H ds = { results := [.lit (.bool true)], args := ds } := by
 rw [h]
 match ds, hl with
 | [d, e, f], _ => rfl
end Go.Proofs.YtlbmbbaefncleaaGreatDoor

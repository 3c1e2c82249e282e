/-
  Chapters 7 and 8: the arguments of the laws as plain data; from a contract to a statement.
-/
import Derived.Test.YtopnabckbpogeaaAwake
import Derived.Test.YtopnabckbpogeaaCube2
import Derived.Test.YtopnabckbpogeaaRows
import Derived.Test.YtopnabckbpogeaaVm5
set_option maxRecDepth 100000
set_option maxHeartbeats 4000000
set_option linter.all false
namespace Go.Proofs.Ytopnabckbpogeaa
open Go.Vm Go.ChangeShapes Go.WideShapes Go.ChangeAt Go.RowKit

theorem own : ownKnob Try.prog.godebug = none := by kernel_rfl
theorem laidOut : laidOutB Try.prog = true := by kernel_rfl
theorem u64_word {i : Int} (h1 : IntKind.u64.min ≤ i) (h2 : i ≤ IntKind.u64.max) : ∃ x : W64, i = (x.toNat : Int) := by
  have e1 : (0 : Int) ≤ i := h1
  have e2 : i ≤ 18446744073709551615 := h2
  refine ⟨BitVec.ofNat 64 i.toNat, ?_⟩
  rw [BitVec.toNat_ofNat, Nat.mod_eq_of_lt (by omega)]
  omega
theorem typ_U {m : Nat} (c : List V) (h : Typ tt (m + 1) 23 c) : ∃ x : W64, laxs c = [.int .u64 x.toNat] ∧ True := by
  obtain ⟨a, rfl, h1, h2⟩ := typ_int (by rw [tt_23]) h
  obtain ⟨x, rfl⟩ := u64_word h1 h2
  exact ⟨x, rfl, trivial⟩
theorem typ_I {m : Nat} (c : List V) (h : Typ tt (m + 1) 3 c) : ∃ x : Int, laxs c = [.int .i64 x] ∧ True := by
  obtain ⟨a, rfl, _⟩ := typ_int (by rw [tt_3]) h
  exact ⟨a, rfl, trivial⟩
theorem typ_C {m : Nat} (c : List V) (h : Typ tt (m + 2) 25 c) : ∃ x : Cu, laxs c = encC x ∧ True := by
  have h := typ_struct (by rw [tt_25]) h
  obtain ⟨c1, r1, rfl, h1, h⟩ := typF_cons h
  obtain ⟨c2, r2, rfl, h2, h⟩ := typF_cons h
  obtain rfl := typF_nil h
  obtain ⟨a, ha, _⟩ := typ_U _ h1
  obtain ⟨b, hb, _⟩ := typ_U _ h2
  refine ⟨⟨a, b⟩, ?_, trivial⟩
  rw [laxs_append, laxs_append, ha, hb]
  rfl
def encX (a b : Cu) (n : W64) (w : Int) : List V := encC a ++ encC b ++ [.int .u64 n.toNat, .int .i64 w]
theorem typ_X {m : Nat} (c : List V) (h : Typ tt (m + 3) 35 c) : ∃ a b n w, laxs c = encX a b n w := by
  have h := typ_struct (by rw [tt_35]) h
  obtain ⟨c1, r1, rfl, h1, h⟩ := typF_cons h
  obtain ⟨c2, r2, rfl, h2, h⟩ := typF_cons h
  obtain ⟨c3, r3, rfl, h3, h⟩ := typF_cons h
  obtain ⟨c4, r4, rfl, h4, h⟩ := typF_cons h
  obtain rfl := typF_nil h
  obtain ⟨a, ha, _⟩ := typ_C _ h1
  obtain ⟨b, hb, _⟩ := typ_C _ h2
  obtain ⟨n, hn, _⟩ := typ_U _ h3
  obtain ⟨w, hw, _⟩ := typ_I _ h4
  refine ⟨a, b, n, w, ?_⟩
  rw [laxs_append, laxs_append, laxs_append, laxs_append, ha, hb, hn, hw]
  rfl
theorem mk_C {c : List V} : mkV (tt 25) c = .agg c := by rw [tt_25]; rfl
theorem mk_X {c : List V} : mkV (tt 35) c = .agg c := by rw [tt_35]; rfl
theorem spec_one {s : ChangeSpec} {H : Type} (h : s.fn H = fun | [d] => { results := [.lit (.bool true)], args := [d] } | _ => Rows.none) (ds : List (DataW H)) (hl : ds.length = 1) :
    s.fn H ds = { results := [.lit (.bool true)], args := ds } := by
  rw [h]
  match ds, hl with
  | [d], _ => rfl
theorem spec_two {s : ChangeSpec} {H : Type} (h : s.fn H = fun | [d, e] => { results := [.lit (.bool true)], args := [d, e] } | _ => Rows.none) (ds : List (DataW H)) (hl : ds.length = 2) :
    s.fn H ds = { results := [.lit (.bool true)], args := ds } := by
  rw [h]
  match ds, hl with
  | [d, e], _ => rfl
theorem spec_three {s : ChangeSpec} {H : Type} (h : s.fn H = fun | [d, e, f] => { results := [.lit (.bool true)], args := [d, e, f] } | _ => Rows.none) (ds : List (DataW H)) (hl : ds.length = 3) :
    s.fn H ds = { results := [.lit (.bool true)], args := ds } := by
  rw [h]
  match ds, hl with
  | [d, e, f], _ => rfl
end Go.Proofs.Ytopnabckbpogeaa

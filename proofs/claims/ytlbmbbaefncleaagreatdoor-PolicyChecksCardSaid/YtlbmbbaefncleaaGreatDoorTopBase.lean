/-
  Chapter 40: topologies as plain lists, their cells, and what the functions answer.
-/
import Derived.Test.YtlbmbbaefncleaaGreatDoorBase
set_option maxRecDepth 100000
set_option linter.all false
namespace Go.Proofs.YtlbmbbaefncleaaGreatDoor.Top
open Go.Vm
structure Lk where
 a : Int × Int
 b : Int × Int
 dn : Bool
 deriving DecidableEq
instance : Inhabited Lk := ⟨⟨(0, 0), (0, 0), false⟩⟩
structure Tp where
 ports : List Int
 links : List Lk
 hosts : List (Int × Int)
 deriving DecidableEq
def encP (p : Int × Int) : List V := [.int .i64 p.1, .int .i64 p.2]
def encL (l : Lk) : List V := [.int .i64 l.a.1, .int .i64 l.a.2, .int .i64 l.b.1, .int .i64 l.b.2, .bool l.dn]
def slI (l : List Int) : V := .sl false (l.map (V.int .i64)) l.length
def slP (l : List (Int × Int)) : V := .sl false (l.flatMap encP) l.length
def slL (l : List Lk) : V := .sl false (l.flatMap encL) l.length
def encT (t : Tp) : List V := [slI t.ports, slL t.links, slP t.hosts]
theorem lenP (x : Int × Int) : (encP x).length = 2 := rfl
theorem gfp_lenP (xs : List (Int × Int)) (i : Nat) (h : i < xs.length) (m : Nat) (hm : m ≤ 2) : getV ((xs.flatMap encP).drop (i * 2)) 0 m = getV (encP xs[i]) 0 m := get_flat_part lenP xs i h m hm
theorem lfl_lenP (xs : List (Int × Int)) : (xs.flatMap encP).length = xs.length * 2 := len_flat lenP xs
theorem lenL (x : Lk) : (encL x).length = 5 := rfl
theorem gfp_lenL (xs : List (Lk)) (i : Nat) (h : i < xs.length) (m : Nat) (hm : m ≤ 5) : getV ((xs.flatMap encL).drop (i * 5)) 0 m = getV (encL xs[i]) 0 m := get_flat_part lenL xs i h m hm
theorem gfd_lenL (xs : List (Lk)) (i : Nat) (h : i < xs.length) (o m : Nat) (hm : o + m ≤ 5) : getV (((xs.flatMap encL).drop (i * 5)).drop o) 0 m = getV (encL xs[i]) o m := get_flat_drop lenL xs i h o m hm
theorem lfl_lenL (xs : List (Lk)) : (xs.flatMap encL).length = xs.length * 5 := len_flat lenL xs
@[simp] theorem belP {n : Nat} (x : Int × Int) : belAll n (encP x) = true := rfl
@[simp] theorem belL {n : Nat} (x : Lk) : belAll n (encL x) = true := rfl
@[simp] theorem bel_ints {n : Nat} (xs : List Int) : belAll n (xs.map (V.int .i64)) = true := belAll_map (fun _ => rfl) xs
@[simp] theorem bel_Ps {n : Nat} (xs : List (Int × Int)) : belAll n (xs.flatMap encP) = true := belAll_flat belP xs
@[simp] theorem bel_Ls {n : Nat} (xs : List Lk) : belAll n (xs.flatMap encL) = true := belAll_flat belL xs
@[simp] theorem bel_slI {n : Nat} (l : List Int) : (slI l).bel n = true := by unfold slI; simp only [V.bel]; exact belAll_map (fun _ => rfl) l
@[simp] theorem bel_slP {n : Nat} (l : List (Int × Int)) : (slP l).bel n = true := by unfold slP; simp only [V.bel]; exact belAll_flat belP l
@[simp] theorem bel_slL {n : Nat} (l : List Lk) : (slL l).bel n = true := by unfold slL; simp only [V.bel]; exact belAll_flat belL l
@[simp] theorem belT {n : Nat} (t : Tp) : belAll n (encT t) = true := by simp only [encT, belAll, bel_slI, bel_slP, bel_slL, Bool.and_self]
theorem drop_cons {α : Type} {l : List α} {j : Nat} (h : j < l.length) : l.drop j = l[j] :: l.drop (j + 1) := List.drop_eq_getElem_cons h
theorem getI_nat {l : List Int} {i : Nat} (h : i < l.length) : getV ((l.map (V.int .i64)).drop (i * 1)) 0 1 = [.int .i64 l[i]] := get_map0 l i h
theorem getI_int {l : List Int} {i : Int} (h0 : 0 ≤ i) (h1 : i < l.length) : getV ((l.map (V.int .i64)).drop (i.toNat * 1)) 0 1 = [.int .i64 (l.getD i.toNat 0)] := by
 rw [getI_nat (by omega), List.getD_eq_getElem?_getD, List.getElem?_eq_getElem (by omega)]; rfl
theorem lenI_int {l : List Int} {i : Int} (h0 : 0 ≤ i) (h1 : i < l.length) : 1 ≤ ((l.map (V.int .i64)).drop (i.toNat * 1)).length := by
 rw [List.length_drop, List.length_map]; omega
structure Tp.fit (t : Tp) : Prop where
 ports : t.ports.length ≤ 4000000000000000000
 links : t.links.length ≤ 4000000000
 hosts : t.hosts.length ≤ 4000000000
def has (t : Tp) (a : Int × Int) : Bool := decide (0 ≤ a.1) && (decide (a.1 < t.ports.length) && (decide (0 ≤ a.2) && decide (a.2 < t.ports.getD a.1.toNat 0)))
def firstAt {α : Type} (f : α → Bool) : List α → Nat → Int × Bool
 | [], _ => (0, false)
 | x :: xs, j => if f x then (j, true) else firstAt f xs (j + 1)
def encIB (r : Int × Bool) : V := .tup [.int .i64 r.1, .bool r.2]
def hostAt (t : Tp) (p : Int × Int) : Int × Bool := firstAt (fun h => decide (h = p)) t.hosts 0
def linkAt (t : Tp) (p : Int × Int) : Int × Bool := firstAt (fun l => decide (l.a = p) || decide (l.b = p)) t.links 0
theorem eqP {a b : Int × Int} : (a.1 == b.1 && a.2 == b.2) = decide (a = b) := by
 obtain ⟨a1, a2⟩ := a
 obtain ⟨b1, b2⟩ := b
 by_cases h1 : a1 = b1 <;> by_cases h2 : a2 = b2 <;> simp [h1, h2]
end Go.Proofs.YtlbmbbaefncleaaGreatDoor.Top

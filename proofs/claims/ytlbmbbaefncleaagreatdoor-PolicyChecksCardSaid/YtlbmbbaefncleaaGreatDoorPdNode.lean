/-
  Chapter 44: the nodes of a predicate, the flows, the small functions.
-/
import Derived.Test.YtlbmbbaefncleaaGreatDoorPdScan
import Derived.Test.YtlbmbbaefncleaaGreatDoorBits
set_option maxRecDepth 100000
set_option maxHeartbeats 4000000
set_option linter.all false
namespace Go.Proofs.YtlbmbbaefncleaaGreatDoor.Pd
open Go.Vm
theorem u8_id {x : Int} (h : 0 ≤ x ∧ x < 256) : IntKind.u8.wrap x = x := by
 unfold IntKind.wrap
 simp [IntKind.bits, IntKind.signed]
 omega
structure Nd where
 op : Int
 fd : Int
 v : UInt8
 m : UInt8
 deriving DecidableEq
instance : Inhabited Nd := ⟨⟨0, 0, 0, 0⟩⟩
structure Fl where
 s : UInt8
 d : UInt8
 t : UInt8
 deriving DecidableEq
def encN (x : Nd) : List V := [.int .i64 x.op, .int .i64 x.fd, .int .u8 x.v.toNat, .int .u8 x.m.toNat]
def slN (l : List Nd) : V := .sl false (l.flatMap encN) l.length
def encF (f : Fl) : List V := [.int .u8 f.s.toNat, .int .u8 f.d.toNat, .int .u8 f.t.toNat]
theorem lenN (x : Nd) : (encN x).length = 4 := rfl
theorem gfp_lenN (xs : List (Nd)) (i : Nat) (h : i < xs.length) (m : Nat) (hm : m ≤ 4) : getV ((xs.flatMap encN).drop (i * 4)) 0 m = getV (encN xs[i]) 0 m := get_flat_part lenN xs i h m hm
theorem gfd_lenN (xs : List (Nd)) (i : Nat) (h : i < xs.length) (o m : Nat) (hm : o + m ≤ 4) : getV (((xs.flatMap encN).drop (i * 4)).drop o) 0 m = getV (encN xs[i]) o m := get_flat_drop lenN xs i h o m hm
theorem lfl_lenN (xs : List (Nd)) : (xs.flatMap encN).length = xs.length * 4 := len_flat lenN xs
@[simp] theorem belN {n : Nat} (x : Nd) : belAll n (encN x) = true := rfl
@[simp] theorem belF {n : Nat} (x : Fl) : belAll n (encF x) = true := rfl
@[simp] theorem bel_Ns {n : Nat} (xs : List Nd) : belAll n (xs.flatMap encN) = true := belAll_flat belN xs
@[simp] theorem bel_slN {n : Nat} (l : List Nd) : (slN l).bel n = true := by unfold slN; rw [bel_sl]; exact bel_Ns l
def arity (o : Int) : Int := if o = 1 ∨ o = 2 ∨ o = 3 then 0 else if o = 4 then 1 else if o = 5 ∨ o = 6 then 2 else -1
attribute [local push_cast] encF encN slN cfg0 gfp_lenN gfd_lenN lfl_lenN
theorem pc142 (o : Int) : PC Tryz.prog 142 [.int .i64 o] (.int .i64 (arity o)) := by
 refine PC.walk tok mixed cfg0 Tryz.func142 rfl Tryz.call142 (by simp) (by first | rfl | simp) ?_; refine vms1 Tryz.ntmps142 ?_
 refine ⟨fun h => ?_, fun h1 => ⟨fun h => ?_, fun h2 => ⟨fun h => ?_, fun h3 => ⟨fun h => ?_, fun h4 => ⟨fun h => ?_, fun h5 => ⟨fun h => ?_, fun h6 => ?_⟩⟩⟩⟩⟩⟩
 ·refine endK.retA ?_; simp [evRes, getT, retV, Tryz.f142]
  rfl
 ·refine endK.retA ?_; simp [evRes, getT, retV, Tryz.f142]
  rfl
 ·refine endK.retA ?_; simp [evRes, getT, retV, Tryz.f142]
  rfl
 ·refine endK.retA ?_; simp [evRes, getT, retV, Tryz.f142]
  rfl
 ·refine endK.retA ?_; simp [evRes, getT, retV, Tryz.f142]
  rfl
 ·refine endK.retA ?_; simp [evRes, getT, retV, Tryz.f142]
  rfl
 ·refine endK.retA ?_; simp [evRes, getT, retV, Tryz.f142,  arity, h1, h2, h3, h4, h5, h6, or_self, if_false]
def fval (f : Fl) (i : Int) : UInt8 := if i = 0 then f.s else if i = 1 then f.d else f.t
theorem pc145 (f : Fl) (i : Int) : PC Tryz.prog 145 [.agg (encF f), .int .i64 i] (.int .u8 (fval f i).toNat) := by
 refine PC.walk tok mixed cfg0 Tryz.func145 rfl Tryz.call145 (by simp) (by first | rfl | simp) ?_; refine vms1 Tryz.ntmps145 ?_
 refine ⟨fun h => ?_, fun h1 => ⟨fun h => ?_, fun h2 => ?_⟩⟩
 ·refine endK.retA ?_; simp [evRes, getT, retV, Tryz.f145]
  rfl
 ·refine endK.retA ?_; simp [evRes, getT, retV, Tryz.f145]
  rfl
 ·refine endK.retA ?_; simp [evRes, getT, retV, Tryz.f145,  fval, h1, h2, if_false]
theorem pc109 (f : Fl) (i : Int) : PC Tryz.prog 109 [.agg (encF f), .int .i64 i] (.int .u8 (fval f i).toNat) := by
 refine PC.walk tok mixed cfg0 Tryz.func109 rfl Tryz.call109 (by simp) (by first | rfl | simp) ?_; refine vms1 Tryz.ntmps109 ?_
 refine ⟨fun h => ?_, fun h1 => ⟨fun h => ?_, fun h2 => ?_⟩⟩
 ·refine endK.retA ?_; simp [evRes, getT, retV, Tryz.f109]
  rfl
 ·refine endK.retA ?_; simp [evRes, getT, retV, Tryz.f109]
  rfl
 ·refine endK.retA ?_; simp [evRes, getT, retV, Tryz.f109,  fval, h1, h2, if_false]
def fname (i : Int) : List UInt8 := if i = 0 then [115, 114, 99] else if i = 1 then [100, 115, 116] else [116, 121, 112, 101]
theorem pc116 (i : Int) : PC Tryz.prog 116 [.int .i64 i] (.str (fname i)) := by
 refine PC.walk tok mixed cfg0 Tryz.func116 rfl Tryz.call116 (by simp) (by first | rfl | simp) ?_; refine vms1 Tryz.ntmps116 ?_
 refine ⟨fun h => ?_, fun h1 => ⟨fun h => ?_, fun h2 => ?_⟩⟩
 ·refine endK.retA ?_; simp [evRes, getT, retV, Tryz.f116]
  rfl
 ·refine endK.retA ?_; simp [evRes, getT, retV, Tryz.f116]
  rfl
 ·refine endK.retA ?_; simp [evRes, getT, retV, Tryz.f116,  fname, h1, h2, if_false]
theorem pc121 (i : Int) : PC Tryz.prog 121 [.int .i64 i] (.str (fname i)) := by
 refine PC.walk tok mixed cfg0 Tryz.func121 rfl Tryz.call121 (by simp) (by first | rfl | simp) ?_; refine vms1 Tryz.ntmps121 ?_
 refine ⟨fun h => ?_, fun h1 => ⟨fun h => ?_, fun h2 => ?_⟩⟩
 ·refine endK.retA ?_; simp [evRes, getT, retV, Tryz.f121]
  rfl
 ·refine endK.retA ?_; simp [evRes, getT, retV, Tryz.f121]
  rfl
 ·refine endK.retA ?_; simp [evRes, getT, retV, Tryz.f121,  fname, h1, h2, if_false]
def encf (f : Fl) : Nat := f.s.toNat * 65536 + f.d.toNat * 256 + f.t.toNat
def decf (n : Nat) : Fl := ⟨UInt8.ofNat (n / 65536), UInt8.ofNat (n / 256), UInt8.ofNat n⟩
theorem wN {n : Nat} (h : n < 2 ^ 64) : (n : Int) = ((BitVec.ofNat 64 n).toNat : Int) := by rw [BitVec.toNat_ofNat, Nat.mod_eq_of_lt h]
theorem u64N {n : Nat} (h : n < 2 ^ 64) : IntKind.u64.wrap (n : Int) = (n : Int) := IntWalk.u64_in _ ⟨by omega, by omega⟩
theorem u8W (m : Nat) : IntKind.u8.wrap (m : Int) = ((UInt8.ofNat m).toNat : Int) := by
 rw [UInt8.toNat_ofNat']
 unfold IntKind.wrap
 simp [IntKind.bits, IntKind.signed]
theorem shrN {n : Nat} (k : Nat) (h : n < 2 ^ 64) : ishr .u64 (n : Int) (k : Int) = ((n / 2 ^ k : Nat) : Int) := by
 rw [wN h, w_shr, BitVec.toNat_ushiftRight, BitVec.toNat_ofNat, Nat.mod_eq_of_lt h, Nat.shiftRight_eq_div_pow]
theorem orN {a b c : Nat} (ha : a < 256) (hb : b < 256) (hc : c < 256) : ibits .or .u64 (ibits .or .u64 (ishl .u64 (a : Int) 16) (ishl .u64 (b : Int) 8)) (c : Int) = ((a * 65536 + b * 256 + c : Nat) : Int) := by
 have e1 : ishl .u64 (a : Int) 16 = (((BitVec.ofNat 64 a) <<< 16).toNat : Int) := by
  rw [wN (n := a) (by omega)]
  exact w_shl (k := 16)
 have e2 : ishl .u64 (b : Int) 8 = (((BitVec.ofNat 64 b) <<< 8).toNat : Int) := by
  rw [wN (n := b) (by omega)]
  exact w_shl (k := 8)
 rw [e1, e2, wN (n := c) (by omega), ib_or, ib_or, w_ofInt, w_ofInt, w_ofInt, w_ofInt]
 simp only [BitVec.toNat_or, BitVec.toNat_shiftLeft, BitVec.toNat_ofNat, Nat.shiftLeft_eq]
 rw [Nat.mod_eq_of_lt (by omega : a < 2 ^ 64), Nat.mod_eq_of_lt (by omega : b < 2 ^ 64), Nat.mod_eq_of_lt (by omega : c < 2 ^ 64), Nat.mod_eq_of_lt (by omega : a * 2 ^ 16 < 2 ^ 64), Nat.mod_eq_of_lt (by omega : b * 2 ^ 8 < 2 ^ 64)]
 have h1 : a * 2 ^ 16 ||| b * 2 ^ 8 = (a * 2 ^ 8 + b) * 2 ^ 8 := by
  have := Nat.shiftLeft_add_eq_or_of_lt (i := 16) (b := b * 2 ^ 8) (by omega) a
  rw [Nat.shiftLeft_eq] at this
  omega
 rw [h1]
 have := Nat.shiftLeft_add_eq_or_of_lt (i := 8) (b := c) (by omega) (a * 2 ^ 8 + b)
 rw [Nat.shiftLeft_eq] at this
 omega
end Go.Proofs.YtlbmbbaefncleaaGreatDoor.Pd

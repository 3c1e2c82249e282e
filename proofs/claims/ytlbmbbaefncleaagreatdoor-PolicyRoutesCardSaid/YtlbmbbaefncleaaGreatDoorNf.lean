/-
  Joined by a program from the texts Vm6.
-/
import Derived.Test.YtlbmbbaefncleaaGreatDoorNe
set_option linter.all false
namespace Go.Vm
abbrev W64:=BitVec 64
section
variable {x y:W64} {a b n:Int}
theorem u64_wrap (n:Int):IntKind.u64.wrap n=((BitVec.ofInt 64 n).toNat:Int):=by
 simp only [IntKind.wrap,BitVec.toNat_ofInt]
 simp [IntKind.signed,IntKind.bits]
 omega
theorem w_wrap:IntKind.u64.wrap (x.toNat:Int)=x.toNat:=by
 rw [u64_wrap,BitVec.ofInt_natCast,BitVec.ofNat_toNat,BitVec.setWidth_eq]
theorem w_ofInt:BitVec.ofInt 64 (x.toNat:Int)=x:=by
 rw [BitVec.ofInt_natCast,BitVec.ofNat_toNat,BitVec.setWidth_eq]
theorem w_nat {k:Nat} (h:k<2^64):IntKind.u64.wrap (k:Int)=k:=by
 rw [u64_wrap,BitVec.ofInt_natCast,BitVec.toNat_ofNat,Nat.mod_eq_of_lt h]
theorem ib_and:ibits .and .u64 a b=((BitVec.ofInt 64 a &&& BitVec.ofInt 64 b).toNat:Int):=by
 simp only [ibits]
 exact w_nat (BitVec.isLt (BitVec.ofInt 64 a &&& BitVec.ofInt 64 b))
theorem ib_or:ibits .or .u64 a b=((BitVec.ofInt 64 a ||| BitVec.ofInt 64 b).toNat:Int):=by
 simp only [ibits]
 exact w_nat (BitVec.isLt (BitVec.ofInt 64 a ||| BitVec.ofInt 64 b))
theorem w_shl {k:Nat}:ishl .u64 (x.toNat:Int) (k:Int)=((x <<< k).toNat:Int):=by
 simp only [ishl,Int.toNat_natCast]
 rw [u64_wrap]
 congr 1
 have hb:IntKind.u64.bits=64:=rfl
 rw [hb,show ((x.toNat:Int)*2^min k 64)=((x.toNat*2^min k 64:Nat):Int) by push_cast;rfl,BitVec.ofInt_natCast,BitVec.toNat_ofNat,BitVec.toNat_shiftLeft,Nat.shiftLeft_eq]
 by_cases h:k≤64
 ·rw [Nat.min_eq_left h]
 ·rw [Nat.min_eq_right (by omega)]
  have e:(2:Nat)^k=2^64*2^(k-64):=by rw [←Nat.pow_add];congr 1;omega
  rw [e,←Nat.mul_assoc,Nat.mul_mod_left,Nat.mul_right_comm,Nat.mul_mod_left]
theorem w_shr {k:Nat}:ishr .u64 (x.toNat:Int) (k:Int)=((x >>> k).toNat:Int):=by
 simp only [ishr,Int.toNat_natCast]
 have hb:IntKind.u64.bits=64:=rfl
 rw [hb,show ((2:Int)^min k 64)=((2^min k 64:Nat):Int) by push_cast;rfl,BitVec.toNat_ushiftRight,Nat.shiftRight_eq_div_pow]
 rw [Int.fdiv_eq_ediv_of_nonneg _ (Int.natCast_nonneg _),←Int.natCast_ediv]
 congr 1
 by_cases h:k≤64
 ·rw [Nat.min_eq_left h]
 ·rw [Nat.min_eq_right (by omega)]
  have hx:=x.isLt
  rw [Nat.div_eq_of_lt hx,Nat.div_eq_of_lt]
  exact Nat.lt_of_lt_of_le hx (Nat.pow_le_pow_right (by omega) (by omega))
theorem w_inj:((x.toNat:Int)=y.toNat)↔x=y:=by rw [Int.natCast_inj,BitVec.toNat_inj]
theorem w_lit {k:Nat} (h:k<2^64):((x.toNat:Int)=(k:Int))↔x=BitVec.ofNat 64 k:=by
 rw [Int.natCast_inj]
 constructor
 ·intro e;rw [←e,BitVec.ofNat_toNat,BitVec.setWidth_eq]
 ·rintro rfl;rw [BitVec.toNat_ofNat,Nat.mod_eq_of_lt h]
theorem w_zero:((x.toNat:Int)=0)↔x=0#64:=by
 have:=w_lit (x:=x) (k:=0) (by decide)
 simpa using this
theorem w_eqb:((x.toNat:Int)==(y.toNat:Int))=decide (x=y):=by
 by_cases h:x=y
 ·subst h;simp
 ·rw [decide_eq_false h]
  have:¬((x.toNat:Int)=y.toNat):=fun e=>h (w_inj.1 e)
  simp [this]
theorem w_eqb0:((x.toNat:Int)==0)=decide (x=0#64):=by
 by_cases h:x=0#64
 ·subst h;simp
 ·rw [decide_eq_false h]
  have:¬((x.toNat:Int)=0):=fun e=>h (w_zero.1 e)
  simpa using this
end
end Go.Vm
namespace Go.Vm
section
variable {α:Type}
theorem lgetD {l:List α} {d:α} {j:Nat} (h:j<l.length):l.getD j d=l[j]:=by rw [List.getD_eq_getElem?_getD,List.getElem?_eq_getElem h];rfl
end
end Go.Vm

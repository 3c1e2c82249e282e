/-
  Joined by a program from the texts PdScan Bits PdNode PxNod Ru.
-/
import Derived.Test.YtlbmbbaefncleaaGreatDoorRb
import Derived.Test.YtlbmbbaefncleaaGreatDoorRa
import Derived.Test.YtlbmbbaefncleaaGreatDoorSg
import Derived.Test.YtlbmbbaefncleaaGreatDoorSl
set_option maxRecDepth 100000
set_option maxHeartbeats 4000000
set_option linter.all false
namespace Go.Proofs.YtlbmbbaefncleaaGreatDoor.Pd
open Go.Vm Px
attribute [local push_cast] cfg0 take_rest ibeq_dec
theorem pc166 (s p:List UInt8):GCall Tryz.prog 166 [.ptr 0 0 0,.str p] [.cells 0 [.str s]] (.bool (begins s p)) [.cells 0 [.str (cutP s p).1]]:=by
 refine GC.walk tok mixed cfg0 Tryz.func166 rfl Tryz.call166 ?_;refine vms1 Tryz.ntmps166 ?_
 refine callO.pc (pc192 s p) ?_
 cases h:begins s p
 ·have e:cutP s p=(s,false):=by simp [cutP,h]
  rw [e]
  simp (maxSteps:=2000000) -implicitDefEqProofs +contextual (disch:=first | assumption | omega | decide +kernel) only [push_cast,↓capI,seval,Nat.reduceLeDiff,Nat.reduceEqDiff,reduceCtorEq,↓reduceIte,encSB]
  refine endG.ret ([]) (by first | rfl | simp [fzs_ok,getO,setO,fzs,fz,fzH,Nat.beq,tt_3,tt_4,tt_5,tt_9,tt_128,tt_200,tt_203,tt_205,tt_231,tt_131,tt_133,tt_327,tt_251,cfg0,take_rest,ibeq_dec]) (by simp) (by simp [fzs_ok,imp,lenOK_iff,List.take_of_length_le,evRes,getT,getO,setO,fzs,fz,fzH,Nat.beq,retV,Res.then,ldT,ldR,mkV,getV,tt_3,tt_4,tt_5,tt_9,tt_128,tt_200,tt_203,tt_205,tt_231,tt_131,tt_133,tt_327,tt_251,cfg0,take_rest,ibeq_dec,Tryz.f166]) (by first | rfl | simp) (by first | rfl | simp)
 ·have e:cutP s p=(s.drop p.length,true):=by simp [cutP,h]
  rw [e]
  simp (maxSteps:=2000000) -implicitDefEqProofs +contextual (disch:=first | assumption | omega | decide +kernel) only [push_cast,↓capI,seval,Nat.reduceLeDiff,Nat.reduceEqDiff,reduceCtorEq,↓reduceIte,encSB]
  refine endG.ret ([]) (by first | rfl | simp [fzs_ok,getO,setO,fzs,fz,fzH,Nat.beq,tt_3,tt_4,tt_5,tt_9,tt_128,tt_200,tt_203,tt_205,tt_231,tt_131,tt_133,tt_327,tt_251,cfg0,take_rest,ibeq_dec]) (by simp) (by simp [fzs_ok,imp,lenOK_iff,List.take_of_length_le,evRes,getT,getO,setO,fzs,fz,fzH,Nat.beq,retV,Res.then,ldT,ldR,mkV,getV,tt_3,tt_4,tt_5,tt_9,tt_128,tt_200,tt_203,tt_205,tt_231,tt_131,tt_133,tt_327,tt_251,cfg0,take_rest,ibeq_dec,Tryz.f166]) (by first | rfl | simp) (by first | rfl | simp)
end Go.Proofs.YtlbmbbaefncleaaGreatDoor.Pd
namespace Go.Proofs.YtlbmbbaefncleaaGreatDoor
open Go.Vm
theorem shr_lit {n:Int} {k:Nat} (hk:k≤64):ishr .u64 n (k:Int)=n / 2^k:=by
 simp only [ishr,Int.toNat_natCast]
 have hb:IntKind.u64.bits=64:=rfl
 rw [hb,Nat.min_eq_left hk,Int.fdiv_eq_ediv_of_nonneg _ (Int.pow_nonneg (by decide))]
theorem shr32 {n:Int}:ishr .u64 n 32=n / 4294967296:=shr_lit (k:=32) (by decide)
theorem shr16 {n:Int}:ishr .u64 n 16=n / 65536:=shr_lit (k:=16) (by decide)
theorem shr8 {n:Int}:ishr .u64 n 8=n / 256:=shr_lit (k:=8) (by decide)
def tab8:List UInt8:=[0,1,2,2]++List.replicate 4 3++List.replicate 8 4++List.replicate 16 5++List.replicate 32 6++List.replicate 64 7++List.replicate 128 8
def l8 (k:Nat):Nat:=(tab8.getD k 0).toNat
theorem l8_spec:∀k,k<256→l8 k≤8∧(k=0→l8 k=0)∧(k≠0→1≤l8 k∧2^(l8 k-1)≤k∧k<2^l8 k):=by decide +kernel
def len64 (x:Nat):Nat:=if x=0 then 0 else Nat.log2 x+1
theorem log2_is {x k:Nat} (h1:2^k≤x) (h2:x<2^(k+1)):Nat.log2 x=k:=by
 have hx:x≠0:=by
  have:0<2^k:=Nat.two_pow_pos k
  omega
 have h3:=(Nat.le_log2 hx).2 h1
 have h4:=(Nat.log2_lt hx).2 h2
 omega
theorem len_shift {x s y:Nat} (hy:y=x / 2^s) (h0:y≠0) (h8:y<256):len64 x=s+l8 y:=by
 obtain ⟨_,_,h⟩:=l8_spec y h8
 obtain ⟨h1,h2,h3⟩:=h h0
 have hx:x≠0:=by rintro rfl;rw [Nat.zero_div] at hy;omega
 have e:l8 y-1+1=l8 y:=by omega
 unfold len64
 rw [if_neg hx,log2_is (k:=s+(l8 y-1))]
 ·omega
 ·rw [Nat.pow_add]
  have:=Nat.div_mul_le_self x (2^s)
  rw [←hy] at this
  have h4:2^s*2^(l8 y-1)≤2^s*y:=Nat.mul_le_mul_left _ h2
  rw [Nat.mul_comm y] at this
  omega
 ·have h5:x<2^s*(y+1):=by
   rw [hy]
   exact Nat.lt_mul_div_succ x (Nat.two_pow_pos s)
  have h6:2^s*(y+1)≤2^s*2^l8 y:=Nat.mul_le_mul_left _ h3
  rw [show s+(l8 y-1)+1=s+l8 y by omega,Nat.pow_add]
  omega
theorem len_small {x:Nat} (h8:x<256):len64 x=l8 x:=by
 by_cases h0:x=0
 ·subst h0;rfl
 ·have:=len_shift (x:=x) (s:=0) (y:=x) (by simp) h0 h8
  omega
theorem fin64 {x s y:Nat} {z c:Int} (hz:z=y) (hc:c=s) (hs:s≤56) (h8:y<256) (h:len64 x=s+l8 y):IntKind.i64.wrap (c+IntKind.i64.wrap ((tab8.getD z.toNat 0).toNat:Int))=(len64 x:Int):=by
 subst hz hc
 have:=(l8_spec y h8).1
 rw [Int.toNat_natCast,show (tab8.getD y 0).toNat=l8 y from rfl,i64_ok (n:=(l8 y:Int)) (by omega) (by omega),i64_ok (by omega) (by omega),h]
 omega
attribute [local push_cast] cfg0 shr32 shr16 shr8
theorem pc209 (x:Nat) (hx:x<2^64):PC Tryz.prog 209 [.int .u64 x] (.int .i64 (len64 x)):=by
 refine PC.walk tok mixed cfg0 Tryz.func209 rfl Tryz.call209 (by simp) (by first | rfl | simp) ?_;refine vms1 Tryz.ntmps209 ?_
 by_cases h1:4294967296≤x<;>by_cases h2:65536≤(if 4294967296≤x then x / 4294967296 else x)<;>by_cases h3:256≤(if 65536≤(if 4294967296≤x then x / 4294967296 else x) then (if 4294967296≤x then x / 4294967296 else x) / 65536 else (if 4294967296≤x then x / 4294967296 else x))
 all_goals simp only [h1,if_true,if_false] at h2 h3
 all_goals simp only [h2,if_true,if_false] at h3
 all_goals refine vms0 ?_
 all_goals
  generalize hl:List.append (List.append _ _) (List.append _ _)=tl
  have ht:tl=tab8:=by rw [←hl];rfl
  rw [ht]
  have h256:tab8.length=256:=rfl
  rw [h256]
  refine ⟨by omega,fun _=>endK.ret ?_ rfl⟩
  simp only [evRes,getT,retV,Tryz.f209]
  congr 1
 ·exact fin64 (s:=56) (y:=x / 4294967296 / 65536 / 256) (by omega) rfl (by decide) (by omega) (len_shift (by rw [Nat.div_div_eq_div_mul,Nat.div_div_eq_div_mul]) (by omega) (by omega))
 ·exact fin64 (s:=48) (y:=x / 4294967296 / 65536) (by omega) rfl (by decide) (by omega) (len_shift (by rw [Nat.div_div_eq_div_mul]) (by omega) (by omega))
 ·exact fin64 (s:=40) (y:=x / 4294967296 / 256) (by omega) rfl (by decide) (by omega) (len_shift (by rw [Nat.div_div_eq_div_mul]) (by omega) (by omega))
 ·exact fin64 (s:=32) (y:=x / 4294967296) (by omega) rfl (by decide) (by omega) (len_shift rfl (by omega) (by omega))
 ·exact fin64 (s:=24) (y:=x / 65536 / 256) (by omega) rfl (by decide) (by omega) (len_shift (by rw [Nat.div_div_eq_div_mul]) (by omega) (by omega))
 ·exact fin64 (s:=16) (y:=x / 65536) (by omega) rfl (by decide) (by omega) (len_shift rfl (by omega) (by omega))
 ·exact fin64 (s:=8) (y:=x / 256) (by omega) rfl (by decide) (by omega) (len_shift rfl (by omega) (by omega))
 ·exact fin64 (s:=0) (y:=x) (z:=(x:Int)) rfl rfl (by decide) (by omega) (by rw [len_small (by omega)];omega)
end Go.Proofs.YtlbmbbaefncleaaGreatDoor
namespace Go.Proofs.YtlbmbbaefncleaaGreatDoor.Pd
open Go.Vm Px
theorem u8_id {x:Int} (h:0≤x∧x<256):IntKind.u8.wrap x=x:=by
 unfold IntKind.wrap
 simp [IntKind.bits,IntKind.signed]
 omega
structure Nd where
 op:Int
 fd:Int
 v:UInt8
 m:UInt8
 deriving DecidableEq
instance:Inhabited Nd:=⟨⟨0,0,0,0⟩⟩
structure Fl where
 s:UInt8
 d:UInt8
 t:UInt8
 deriving DecidableEq
def encN (x:Nd):List V:=[.int .i64 x.op,.int .i64 x.fd,.int .u8 x.v.toNat,.int .u8 x.m.toNat]
def slN (l:List Nd):V:=.sl false (l.flatMap encN) l.length
def encF (f:Fl):List V:=[.int .u8 f.s.toNat,.int .u8 f.d.toNat,.int .u8 f.t.toNat]
theorem lenN (x:Nd):(encN x).length=4:=rfl
theorem gfp_lenN (xs:List (Nd)) (i:Nat) (h:i<xs.length) (m:Nat) (hm:m≤4):getV ((xs.flatMap encN).drop (i*4)) 0 m=getV (encN xs[i]) 0 m:=get_flat_part lenN xs i h m hm
theorem gfd_lenN (xs:List (Nd)) (i:Nat) (h:i<xs.length) (o m:Nat) (hm:o+m≤4):getV (((xs.flatMap encN).drop (i*4)).drop o) 0 m=getV (encN xs[i]) o m:=get_flat_drop lenN xs i h o m hm
theorem lfl_lenN (xs:List (Nd)):(xs.flatMap encN).length=xs.length*4:=len_flat lenN xs
@[simp] theorem belN {n:Nat} (x:Nd):belAll n (encN x)=true:=rfl
@[simp] theorem belF {n:Nat} (x:Fl):belAll n (encF x)=true:=rfl
@[simp] theorem bel_Ns {n:Nat} (xs:List Nd):belAll n (xs.flatMap encN)=true:=belAll_flat belN xs
@[simp] theorem bel_slN {n:Nat} (l:List Nd):(slN l).bel n=true:=by unfold slN;rw [bel_sl];exact bel_Ns l
def arity (o:Int):Int:=if o=1∨o=2∨o=3 then 0 else if o=4 then 1 else if o=5∨o=6 then 2 else -1
attribute [local push_cast] encF encN slN cfg0 gfp_lenN gfd_lenN lfl_lenN
theorem pc142 (o:Int):PC Tryz.prog 142 [.int .i64 o] (.int .i64 (arity o)):=by
 refine PC.walk tok mixed cfg0 Tryz.func142 rfl Tryz.call142 (by simp) (by first | rfl | simp) ?_;refine vms1 Tryz.ntmps142 ?_
 refine ⟨fun h=>?_,fun h1=>⟨fun h=>?_,fun h2=>⟨fun h=>?_,fun h3=>⟨fun h=>?_,fun h4=>⟨fun h=>?_,fun h5=>⟨fun h=>?_,fun h6=>?_⟩⟩⟩⟩⟩⟩
 ·refine endK.retA ?_;simp [evRes,getT,retV,Tryz.f142]
  rfl
 ·refine endK.retA ?_;simp [evRes,getT,retV,Tryz.f142]
  rfl
 ·refine endK.retA ?_;simp [evRes,getT,retV,Tryz.f142]
  rfl
 ·refine endK.retA ?_;simp [evRes,getT,retV,Tryz.f142]
  rfl
 ·refine endK.retA ?_;simp [evRes,getT,retV,Tryz.f142]
  rfl
 ·refine endK.retA ?_;simp [evRes,getT,retV,Tryz.f142]
  rfl
 ·refine endK.retA ?_;simp [evRes,getT,retV,Tryz.f142,arity,h1,h2,h3,h4,h5,h6,or_self,if_false]
def fname (i:Int):List UInt8:=if i=0 then [115,114,99] else if i=1 then [100,115,116] else [116,121,112,101]
theorem pc116 (i:Int):PC Tryz.prog 116 [.int .i64 i] (.str (fname i)):=by
 refine PC.walk tok mixed cfg0 Tryz.func116 rfl Tryz.call116 (by simp) (by first | rfl | simp) ?_;refine vms1 Tryz.ntmps116 ?_
 refine ⟨fun h=>?_,fun h1=>⟨fun h=>?_,fun h2=>?_⟩⟩
 ·refine endK.retA ?_;simp [evRes,getT,retV,Tryz.f116]
  rfl
 ·refine endK.retA ?_;simp [evRes,getT,retV,Tryz.f116]
  rfl
 ·refine endK.retA ?_;simp [evRes,getT,retV,Tryz.f116,fname,h1,h2,if_false]
theorem pc121 (i:Int):PC Tryz.prog 121 [.int .i64 i] (.str (fname i)):=by
 refine PC.walk tok mixed cfg0 Tryz.func121 rfl Tryz.call121 (by simp) (by first | rfl | simp) ?_;refine vms1 Tryz.ntmps121 ?_
 refine ⟨fun h=>?_,fun h1=>⟨fun h=>?_,fun h2=>?_⟩⟩
 ·refine endK.retA ?_;simp [evRes,getT,retV,Tryz.f121]
  rfl
 ·refine endK.retA ?_;simp [evRes,getT,retV,Tryz.f121]
  rfl
 ·refine endK.retA ?_;simp [evRes,getT,retV,Tryz.f121,fname,h1,h2,if_false]
theorem u8W (m:Nat):IntKind.u8.wrap (m:Int)=((UInt8.ofNat m).toNat:Int):=by
 rw [UInt8.toNat_ofNat']
 unfold IntKind.wrap
 simp [IntKind.bits,IntKind.signed]
end Go.Proofs.YtlbmbbaefncleaaGreatDoor.Pd
namespace Go.Proofs.YtlbmbbaefncleaaGreatDoor.Px
open Go.Vm
structure Nd where
 op:Int
 n:Int
 deriving DecidableEq
instance:Inhabited Nd:=⟨⟨0,0⟩⟩
def encN (x:Nd):List V:=[.int .i64 x.op,.int .i64 x.n]
def slN (l:List Nd):V:=.sl false (l.flatMap encN) l.length
theorem lenN (x:Nd):(encN x).length=2:=rfl
theorem gfp_lenN (xs:List (Nd)) (i:Nat) (h:i<xs.length) (m:Nat) (hm:m≤2):getV ((xs.flatMap encN).drop (i*2)) 0 m=getV (encN xs[i]) 0 m:=get_flat_part lenN xs i h m hm
theorem gfd_lenN (xs:List (Nd)) (i:Nat) (h:i<xs.length) (o m:Nat) (hm:o+m≤2):getV (((xs.flatMap encN).drop (i*2)).drop o) 0 m=getV (encN xs[i]) o m:=get_flat_drop lenN xs i h o m hm
theorem lfl_lenN (xs:List (Nd)):(xs.flatMap encN).length=xs.length*2:=len_flat lenN xs
@[simp] theorem belN {n:Nat} (x:Nd):belAll n (encN x)=true:=rfl
@[simp] theorem bel_Ns {n:Nat} (xs:List Nd):belAll n (xs.flatMap encN)=true:=belAll_flat belN xs
@[simp] theorem bel_slN {n:Nat} (l:List Nd):(slN l).bel n=true:=by unfold slN;rw [bel_sl];exact bel_Ns l
theorem fmN (x:Nd) (l:List Nd):List.flatMap encN (x::l)=.int .i64 x.op::.int .i64 x.n::l.flatMap encN:=rfl
theorem fm0:List.flatMap encN []=[]:=rfl
theorem slN_nil:slN []=.sl false [] 0:=rfl
theorem take_N {xs:List Nd}:(xs.flatMap encN).take (xs.length*2)=xs.flatMap encN:=by
 rw [List.take_of_length_le (by rw [len_flat lenN];exact Nat.le_refl _)]
theorem toN1 (n:Nat):((n:Int)+1).toNat-1=n:=by omega
def op0 (o:Int):Nd:=⟨o,0⟩
def nN (x:Nd):Int:=if x.op=3 then x.n else 0
inductive Pr where
 | leaf (x:Nd)
 | un (x:Nd) (p:Pr)
 | bin (x:Nd) (p q:Pr)
def flat:Pr→List Nd
 | .leaf x=>[x]
 | .un x p=>x::flat p
 | .bin x p q=>x::(flat p++flat q)
def top:Pr→Nd
 | .leaf x=>x
 | .un x _=>x
 | .bin x _ _=>x
theorem flat_top:∀p,∃t,flat p=top p::t
 | .leaf x=>⟨[],rfl⟩
 | .un x p=>⟨flat p,rfl⟩
 | .bin x p q=>⟨flat p++flat q,rfl⟩
theorem flat_pos (p:Pr):0<(flat p).length:=by
 obtain ⟨t,ht⟩:=flat_top p
 rw [ht]
 exact Nat.succ_pos _
def arity (o:Int):Int:=if o=1∨o=2∨o=3 then 0 else if o=6 then 1 else if o=4∨o=5 then 2 else -1
def badN (sw:Int) (x:Nd):Prop:=x.n<0∨sw≤x.n∨999999999<x.n
instance (sw:Int) (x:Nd):Decidable (badN sw x):=by unfold badN;infer_instance
def chk1 (sw:Int) (x:Nd):Int:=if arity x.op<0 then 11 else if x.op=3∧badN sw x then 9 else 0
def okP (sw:Int):Pr→Prop
 | .leaf x=>(x.op=1∨x.op=2∨x.op=3)∧chk1 sw x=0
 | .un x p=>x.op=6∧okP sw p
 | .bin x p q=>(x.op=4∨x.op=5)∧okP sw p∧okP sw q
def tgX:Pr→Nat
 | .leaf _=>192
 | .un _ _=>187
 | .bin _ _ _=>190
def clX:Pr→List V
 | .leaf x=>[.int .i64 x.op,.int .i64 (nN x)]
 | .un _ p=>[.ifc (tgX p) (.agg (clX p))]
 | .bin x p q=>[.int .i64 x.op,.ifc (tgX p) (.agg (clX p)),.ifc (tgX q) (.agg (clX q))]
def encX (p:Pr):V:=.ifc (tgX p) (.agg (clX p))
theorem bel_clX {n:Nat}:∀p,belAll n (clX p)=true
 | .leaf x=>rfl
 | .un _ p=>by rw [clX,belAll_cons,bel_ifc,bel_agg,bel_clX p];rfl
 | .bin _ p q=>by rw [clX,belAll_cons,belAll_cons,belAll_cons,bel_ifc,bel_agg,bel_ifc,bel_agg,bel_clX p,bel_clX q];rfl
@[simp] theorem bel_encX {n:Nat} (p:Pr):(encX p).bel n=true:=by rw [encX,bel_ifc,bel_agg,bel_clX]
inductive Er where
 | no
 | un (e:Er)
 | bin (o:Int) (p:Pr) (e:Er)
def errX:Er→V
 | .no=>.nili
 | .un e=>.ifc 187 (.agg [errX e])
 | .bin o p e=>.ifc 190 (.agg [.int .i64 o,encX p,errX e])
theorem bel_errX {n:Nat}:∀m,(errX m).bel n=true
 | .no=>rfl
 | .un m=>by rw [errX,bel_ifc,bel_agg,belAll_cons,bel_errX m];rfl
 | .bin o p m=>by rw [errX,bel_ifc,bel_agg,belAll_cons,belAll_cons,belAll_cons,bel_encX,bel_errX m];rfl
theorem st_errX:∀m,(errX m).st=errX m
 | .no=>rfl
 | .un _=>rfl
 | .bin _ _ _=>rfl
theorem os_errX {g:Bool} {xs:List V} {p:Prop}:∀m,optSide g (errX m::xs) p=optSide g xs p
 | .no=>rfl
 | .un _=>rfl
 | .bin _ _ _=>rfl
def rep (f:List Nd→List Nd × Int):Nat→List Nd→List Nd × Int
 | 0,l=>(l,0)
 | n+1,l=>if (f l).2≠0 then ([],(f l).2) else rep f n (f l).1
def chk (sw:Int):Nat→List Nd→List Nd × Int
 | _,[]=>([],3)
 | 0,_::_=>([],3)
 | k+1,x::l=>if chk1 sw x≠0 then ([],chk1 sw x) else rep (chk sw k) (arity x.op).toNat l
theorem rep_len {f:List Nd→List Nd × Int} (h:∀l,(f l).1.length≤l.length):∀n l,(rep f n l).1.length≤l.length
 | 0,l=>Nat.le_refl _
 | n+1,l=>by
  rw [rep]
  split
  ·exact Nat.zero_le _
  ·exact Nat.le_trans (rep_len h n _) (h l)
theorem chk_len (sw:Int):∀k l,(chk sw k l).1.length≤l.length
 | 0,[]=>Nat.le_refl _
 | 0,_::_=>Nat.zero_le _
 | k+1,[]=>Nat.le_refl _
 | k+1,x::l=>by
  rw [chk]
  split
  ·exact Nat.zero_le _
  ·exact Nat.le_trans (rep_len (chk_len sw k) _ _) (Nat.le_succ _)
theorem chk1_op {sw:Int} {x:Nd} (h:x.op=6∨x.op=4∨x.op=5):chk1 sw x=0:=by
 have ha:¬arity x.op<0:=by rcases h with h | h | h<;>rw [h]<;>decide
 rw [chk1,if_neg ha,if_neg]
 rintro ⟨h3,_⟩
 omega
end Go.Proofs.YtlbmbbaefncleaaGreatDoor.Px
namespace Go.Proofs.YtlbmbbaefncleaaGreatDoor
open Go.Vm
structure Ru where
 f:Int
 t:Int
 p:List Pd.Nd
 q:List Px.Nd
instance:Inhabited Ru:=⟨⟨0,0,[],[]⟩⟩
def encR (r:Ru):List V:=[.int .i64 r.f,.int .i64 r.t,Pd.slN r.p,Px.slN r.q]
def slR (l:List Ru):V:=.sl false (l.flatMap encR) l.length
theorem lenR (r:Ru):(encR r).length=4:=rfl
theorem gfp_lenR (xs:List (Ru)) (i:Nat) (h:i<xs.length) (m:Nat) (hm:m≤4):getV ((xs.flatMap encR).drop (i*4)) 0 m=getV (encR xs[i]) 0 m:=get_flat_part lenR xs i h m hm
theorem gfd_lenR (xs:List (Ru)) (i:Nat) (h:i<xs.length) (o m:Nat) (hm:o+m≤4):getV (((xs.flatMap encR).drop (i*4)).drop o) 0 m=getV (encR xs[i]) o m:=get_flat_drop lenR xs i h o m hm
theorem lfl_lenR (xs:List (Ru)):(xs.flatMap encR).length=xs.length*4:=len_flat lenR xs
@[simp] theorem belR {n:Nat} (r:Ru):belAll n (encR r)=true:=by simp [encR,Pd.bel_slN,Px.bel_slN]
@[simp] theorem bel_Rs {n:Nat} (l:List Ru):belAll n (l.flatMap encR)=true:=belAll_flat belR l
@[simp] theorem bel_slR {n:Nat} (l:List Ru):(slR l).bel n=true:=by unfold slR;rw [bel_sl];exact bel_Rs l
@[simp] theorem bel_parts {n:Nat} (ls:List (List Ru)):belAll n (ls.map slR)=true:=belAll_map (fun l=>bel_slR l) ls
attribute [local push_cast] encR slR cfg0 gfp_lenR gfd_lenR lfl_lenR Nat.mul_one
def sumR (ls:List (List Ru)):Nat:=(ls.map List.length).sum
theorem sum0:sumR []=0:=rfl
end Go.Proofs.YtlbmbbaefncleaaGreatDoor

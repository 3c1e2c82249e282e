/-
  Joined by a program from the texts PxScan PdScan Bits PdNode PdChk PdRef PdTree PdMisc PdEval.
-/
import Derived.Test.YtlbmbbaefncleaaGreatDoorOa
import Derived.Test.YtlbmbbaefncleaaGreatDoorNg
set_option maxRecDepth 100000
set_option maxHeartbeats 4000000
set_option linter.all false
namespace Go.Proofs.YtlbmbbaefncleaaGreatDoor.Px
open Go.Vm
theorem take_rest {α:Type} {l:List α} {i:Nat}:(l.drop i).take (l.length-i)=l.drop i:=List.take_of_length_le (by rw [List.length_drop];exact Nat.le_refl _)
theorem ibeq_dec {a b:Int}:(a==b)=decide (a=b):=by rw [Bool.eq_iff_iff,beq_iff_eq,decide_eq_true_eq]
attribute [local push_cast] cfg0 take_rest ibeq_dec
end Go.Proofs.YtlbmbbaefncleaaGreatDoor.Px
namespace Go.Proofs.YtlbmbbaefncleaaGreatDoor.Pd
open Go.Vm Px
attribute [local push_cast] cfg0 take_rest ibeq_dec
end Go.Proofs.YtlbmbbaefncleaaGreatDoor.Pd
namespace Go.Proofs.YtlbmbbaefncleaaGreatDoor
open Go.Vm
theorem shr_lit {n:Int} {k:Nat} (hk:k≤64):ishr .u64 n (k:Int)=n / 2^k:=by
 simp only [ishr,Int.toNat_natCast]
 have hb:IntKind.u64.bits=64:=rfl
 rw [hb,Nat.min_eq_left hk,Int.fdiv_eq_ediv_of_nonneg _ (Int.pow_nonneg (by decide))]
theorem shr32 {n:Int}:ishr .u64 n 32=n / 4294967296:=shr_lit (k:=32) (by decide)
theorem shr16 {n:Int}:ishr .u64 n 16=n / 65536:=shr_lit (k:=16) (by decide)
theorem shr8 {n:Int}:ishr .u64 n 8=n / 256:=shr_lit (k:=8) (by decide)
attribute [local push_cast] cfg0 shr32 shr16 shr8
end Go.Proofs.YtlbmbbaefncleaaGreatDoor
namespace Go.Proofs.YtlbmbbaefncleaaGreatDoor.Pd
open Go.Vm Px
section
theorem u8_id {x:Int} (h:0≤x∧x<256):IntKind.u8.wrap x=x:=by
 unfold IntKind.wrap
 simp [IntKind.bits,IntKind.signed]
 omega
structure Nd where
 op:Int
 fd:Int
 v:UInt8
 m:UInt8
 deriving DecidableEq
instance:Inhabited Nd:=⟨⟨0,0,0,0⟩⟩
structure Fl where
 s:UInt8
 d:UInt8
 t:UInt8
 deriving DecidableEq
def encN (x:Nd):List V:=[.int .i64 x.op,.int .i64 x.fd,.int .u8 x.v.toNat,.int .u8 x.m.toNat]
def slN (l:List Nd):V:=.sl false (l.flatMap encN) l.length
def encF (f:Fl):List V:=[.int .u8 f.s.toNat,.int .u8 f.d.toNat,.int .u8 f.t.toNat]
theorem lenN (x:Nd):(encN x).length=4:=rfl
theorem gfp_lenN (xs:List (Nd)) (i:Nat) (h:i<xs.length) (m:Nat) (hm:m≤4):getV ((xs.flatMap encN).drop (i*4)) 0 m=getV (encN xs[i]) 0 m:=get_flat_part lenN xs i h m hm
theorem gfd_lenN (xs:List (Nd)) (i:Nat) (h:i<xs.length) (o m:Nat) (hm:o+m≤4):getV (((xs.flatMap encN).drop (i*4)).drop o) 0 m=getV (encN xs[i]) o m:=get_flat_drop lenN xs i h o m hm
theorem lfl_lenN (xs:List (Nd)):(xs.flatMap encN).length=xs.length*4:=len_flat lenN xs
@[simp] theorem belN {n:Nat} (x:Nd):belAll n (encN x)=true:=rfl
@[simp] theorem belF {n:Nat} (x:Fl):belAll n (encF x)=true:=rfl
@[simp] theorem bel_Ns {n:Nat} (xs:List Nd):belAll n (xs.flatMap encN)=true:=belAll_flat belN xs
@[simp] theorem bel_slN {n:Nat} (l:List Nd):(slN l).bel n=true:=by unfold slN;rw [bel_sl];exact bel_Ns l
def arity (o:Int):Int:=if o=1∨o=2∨o=3 then 0 else if o=4 then 1 else if o=5∨o=6 then 2 else -1
attribute [local push_cast] encF encN slN cfg0 gfp_lenN gfd_lenN lfl_lenN
theorem pc142 (o:Int):PC Tryz.prog 142 [.int .i64 o] (.int .i64 (arity o)):=by
 refine PC.walk tok mixed cfg0 Tryz.func142 rfl Tryz.call142 (by simp) (by first | rfl | simp) ?_;refine vms1 Tryz.ntmps142 ?_
 refine ⟨fun h=>?_,fun h1=>⟨fun h=>?_,fun h2=>⟨fun h=>?_,fun h3=>⟨fun h=>?_,fun h4=>⟨fun h=>?_,fun h5=>⟨fun h=>?_,fun h6=>?_⟩⟩⟩⟩⟩⟩
 ·refine endK.retA ?_;simp [evRes,getT,retV,Tryz.f142]
  rfl
 ·refine endK.retA ?_;simp [evRes,getT,retV,Tryz.f142]
  rfl
 ·refine endK.retA ?_;simp [evRes,getT,retV,Tryz.f142]
  rfl
 ·refine endK.retA ?_;simp [evRes,getT,retV,Tryz.f142]
  rfl
 ·refine endK.retA ?_;simp [evRes,getT,retV,Tryz.f142]
  rfl
 ·refine endK.retA ?_;simp [evRes,getT,retV,Tryz.f142]
  rfl
 ·refine endK.retA ?_;simp [evRes,getT,retV,Tryz.f142,arity,h1,h2,h3,h4,h5,h6,or_self,if_false]
def fval (f:Fl) (i:Int):UInt8:=if i=0 then f.s else if i=1 then f.d else f.t
theorem pc145 (f:Fl) (i:Int):PC Tryz.prog 145 [.agg (encF f),.int .i64 i] (.int .u8 (fval f i).toNat):=by
 refine PC.walk tok mixed cfg0 Tryz.func145 rfl Tryz.call145 (by simp) (by first | rfl | simp) ?_;refine vms1 Tryz.ntmps145 ?_
 refine ⟨fun h=>?_,fun h1=>⟨fun h=>?_,fun h2=>?_⟩⟩
 ·refine endK.retA ?_;simp [evRes,getT,retV,Tryz.f145]
  rfl
 ·refine endK.retA ?_;simp [evRes,getT,retV,Tryz.f145]
  rfl
 ·refine endK.retA ?_;simp [evRes,getT,retV,Tryz.f145,fval,h1,h2,if_false]
theorem pc109 (f:Fl) (i:Int):PC Tryz.prog 109 [.agg (encF f),.int .i64 i] (.int .u8 (fval f i).toNat):=by
 refine PC.walk tok mixed cfg0 Tryz.func109 rfl Tryz.call109 (by simp) (by first | rfl | simp) ?_;refine vms1 Tryz.ntmps109 ?_
 refine ⟨fun h=>?_,fun h1=>⟨fun h=>?_,fun h2=>?_⟩⟩
 ·refine endK.retA ?_;simp [evRes,getT,retV,Tryz.f109]
  rfl
 ·refine endK.retA ?_;simp [evRes,getT,retV,Tryz.f109]
  rfl
 ·refine endK.retA ?_;simp [evRes,getT,retV,Tryz.f109,fval,h1,h2,if_false]
end
section
theorem fmN (x:Nd) (l:List Nd):List.flatMap encN (x::l)=.int .i64 x.op::.int .i64 x.fd::.int .u8 x.v.toNat::.int .u8 x.m.toNat::l.flatMap encN:=rfl
theorem fm0:List.flatMap encN []=[]:=rfl
theorem slN_nil:slN []=.sl false [] 0:=rfl
theorem take_N {xs:List Nd}:(xs.flatMap encN).take (xs.length*4)=xs.flatMap encN:=by
 rw [List.take_of_length_le (by rw [len_flat lenN];exact Nat.le_refl _)]
theorem toN1 (n:Nat):((n:Int)+1).toNat-1=n:=by omega
theorem b8 (v:UInt8):BitVec.ofInt 8 (v.toNat:Int)=v.toBitVec:=by
 rw [BitVec.ofInt_natCast]
 exact BitVec.eq_of_toNat_eq (by rw [BitVec.toNat_ofNat,Nat.mod_eq_of_lt v.toNat_lt];rfl)
theorem w8 (b:BitVec 8):IntKind.u8.wrap (b.toNat:Int)=b.toNat:=u8_id (by have:=b.isLt;omega)
theorem and8 (v m:UInt8):ibits .and .u8 v.toNat m.toNat=((v &&& m).toNat:Int):=by
 have h:ibits .and .u8 v.toNat m.toNat=IntKind.u8.wrap ((BitVec.ofInt 8 v.toNat &&& BitVec.ofInt 8 m.toNat).toNat:Int):=rfl
 rw [h,b8,b8,w8]
 rfl
theorem xor8 (v m:UInt8):ibits .xor .u8 v.toNat m.toNat=((v ^^^ m).toNat:Int):=by
 have h:ibits .xor .u8 v.toNat m.toNat=IntKind.u8.wrap ((BitVec.ofInt 8 v.toNat ^^^ BitVec.ofInt 8 m.toNat).toNat:Int):=rfl
 rw [h,b8,b8,w8]
 rfl
theorem andNot8 (v m:UInt8):ibits .andNot .u8 v.toNat m.toNat=((v &&& ~~~ m).toNat:Int):=by
 have h:ibits .andNot .u8 v.toNat m.toNat=IntKind.u8.wrap ((BitVec.ofInt 8 v.toNat &&& ~~~ BitVec.ofInt 8 m.toNat).toNat:Int):=rfl
 rw [h,b8,b8,w8]
 rfl
theorem zero8 (v:UInt8):((v.toNat:Int)=0)=(v=0):=by
 apply propext
 constructor
 ·intro h
  exact UInt8.toNat_inj.1 (by simpa using h)
 ·rintro rfl
  rfl
def rep (f:List Nd→List Nd × Int):Nat→List Nd→List Nd × Int
 | 0,l=>(l,0)
 | n+1,l=>if (f l).2≠0 then ([],(f l).2) else rep f n (f l).1
def badN (x:Nd):Bool:=decide (x.v &&& ~~~ x.m≠0)
def chk1 (x:Nd):Int:=if arity x.op<0 then 11 else if x.op=3∧(x.fd<0∨2<x.fd) then 9 else if x.op=3∧badN x=true then 5 else 0
def chk:Nat→List Nd→List Nd × Int
 | _,[]=>([],3)
 | 0,_::_=>([],3)
 | k+1,x::l=>if chk1 x≠0 then ([],chk1 x) else rep (chk k) (arity x.op).toNat l
theorem rep_len {f:List Nd→List Nd × Int} (h:∀l,(f l).1.length≤l.length):∀n l,(rep f n l).1.length≤l.length
 | 0,l=>Nat.le_refl _
 | n+1,l=>by
  rw [rep]
  split
  ·exact Nat.zero_le _
  ·exact Nat.le_trans (rep_len h n _) (h l)
theorem chk_len:∀k l,(chk k l).1.length≤l.length
 | 0,[]=>Nat.le_refl _
 | 0,_::_=>Nat.zero_le _
 | k+1,[]=>Nat.le_refl _
 | k+1,x::l=>by
  rw [chk]
  split
  ·exact Nat.zero_le _
  ·exact Nat.le_trans (rep_len (chk_len k) _ _) (Nat.le_succ _)
def encLN (r:List Nd × Int):V:=.tup [if r.2≠0 then .sl true [] 0 else slN r.1,.int .i64 r.2]
theorem encLN_ok {r:List Nd × Int} (h:r.2=0):encLN r=.tup [slN r.1,.int .i64 0]:=by
 rw [encLN,if_neg (fun e=>e h),h]
theorem encLN_err {r:List Nd × Int} (h:¬r.2=0):encLN r=.tup [.sl true [] 0,.int .i64 r.2]:=by
 rw [encLN,if_pos h]
theorem arity_le (o:Int):arity o≤2:=by
 unfold arity
 split
 ·decide
 split
 ·decide
 split<;>decide
@[simp] theorem bel_LN {n:Nat} (r:List Nd × Int):(encLN r).bel n=true:=by
 unfold encLN
 by_cases h:r.2≠0
 ·rw [if_pos h]
  rfl
 ·rw [if_neg h,bel_tup,belAll_cons,bel_slN]
  rfl
attribute [local push_cast] fmN fm0 take_N toN1 slN_nil encF encN slN cfg0 gfp_lenN gfd_lenN lfl_lenN
theorem pc91:∀(k:Nat) (l:List Nd),l.length≤k→l.length≤4000000→PC Tryz.prog 91 [slN l] (encLN (chk k l)):=by
 intro k
 induction k with
 | zero =>
  intro l hl _
  have hl0:l=[]:=List.length_eq_zero_iff.1 (by omega)
  subst hl0
  refine PC.walk tok mixed cfg0 Tryz.func91 rfl Tryz.call91 (by simp [fmN,fm0]) (by first | rfl | simp [fmN,fm0]) ?_;refine vms1 Tryz.ntmps91 ?_
  refine endK.ret ?_ (by first | rfl | simp [fmN,fm0]);simp [evRes,getT,retV,Tryz.f91,chk,encLN,fm0]
 | succ k ih =>
  intro l hl hm
  cases l with
  | nil =>
   refine PC.walk tok mixed cfg0 Tryz.func91 rfl Tryz.call91 (by simp [fmN,fm0]) (by first | rfl | simp [fmN,fm0]) ?_;refine vms1 Tryz.ntmps91 ?_
   refine endK.ret ?_ (by first | rfl | simp [fmN,fm0]);simp [evRes,getT,retV,Tryz.f91,chk,encLN]
  | cons x l =>
   refine PC.walk tok mixed cfg0 Tryz.func91 rfl Tryz.call91 (by simp [fmN,fm0]) (by first | rfl | simp [fmN,fm0]) ?_;refine vms1 Tryz.ntmps91 ?_
   have hm2:l.length≤4000000:=by simp only [List.length_cons] at hm;omega
   have hk2:l.length≤k:=by simp only [List.length_cons] at hl;omega
   refine callO.pc (pc142 x.op) ?_
   by_cases ha:arity x.op<0
   ·have hc:chk1 x=11:=by rw [chk1,if_pos ha]
    refine vms1 ha ?_
    refine endK.ret ?_ (by first | rfl | simp [fmN,fm0]);simp [evRes,getT,retV,Tryz.f91,chk,hc,encLN]
   by_cases h3:x.op=3
   case neg =>
    have hc:chk1 x=0:=by rw [chk1,if_neg ha,if_neg (fun h=>h3 h.1),if_neg (fun h=>h3 h.1)]
    refine vms2 ha h3 ?_
    refine callO.pc (pc142 x.op) ?_
    refine vms0 ?_
    have hle:=arity_le x.op
    obtain ⟨a,hA⟩:∃a:Nat,arity x.op=(a:Int):=⟨(arity x.op).toNat,by omega⟩
    have hr0:chk (k+1) (x::l)=rep (chk k) a l:=by
     rw [chk,hc,if_neg (by decide),hA,Int.toNat_natCast]
    rw [hr0]
    refine T.lp tok mixed cfg0 (fun ((i,r):Nat × List Nd)=>dd 5 (sv (slN r) (dd 42 (sv (.int .i64 a) (sv (.int .i64 i) (dd 11 (nl))))))) (fun H0 ((i,r):Nat × List Nd)=>[.cells 0 [.int .i64 x.op,.int .i64 x.fd,.int .u8 x.v.toNat,.int .u8 x.m.toNat]]) (fun ((i,r):Nat × List Nd)=>i≤a∧r.length≤l.length∧rep (chk k) (a-i) r=rep (chk k) a l) (fun ((i,r):Nat × List Nd)=>a-i) ((0,l)) ?_ ?_ ?_
    ·exact ⟨Nat.zero_le _,Nat.le_refl _,rfl⟩
    ·rw [hA]
     exact Gn.canon (J:=[]) (by first | rfl | (simp [List.append_nil];done) | (simp [List.append_nil];rfl)) (by simp [wk,slN,putT,kp,dd,sv,nl]) (by simp [List.length_append]) (by simp [fmN,fm0,kp,dd,sv,nl]) (by simp [fmN,fm0])
    rintro ⟨i,r⟩ ⟨hi,hrl,hr⟩
    refine vms0 ?_
    refine ⟨fun hlt=>?_,fun hge=>?_⟩
    ·rw [show a-i=(a-(i+1))+1 by omega,rep] at hr
     refine callO.pc (ih r (by omega) (by omega)) ?_
     by_cases he:(chk k r).2=0
     ·rw [if_neg (fun h=>h he)] at hr
      rw [encLN_ok he]
      have hcl:=chk_len k r
      refine vms1 he ?_
      refine ⟨(i+1,(chk k r).1),⟨by simp only;omega,by simp only;omega,hr⟩,by (try simp only);omega,?_⟩;exact Gn.canon (by first | rfl | (simp [List.append_nil];rfl)) (by simp [wk,slN]) (by simp [List.length_append]) (by simp [fmN,fm0]) (by simp [fmN,fm0])
     ·rw [if_pos he] at hr
      rw [encLN_err he]
      refine vms1 he ?_
      rw [←hr,encLN_err (r:=([],(chk k r).2)) he]
      refine endK.ret ?_ (by first | rfl | simp [fmN,fm0]);simp [evRes,getT,retV,Tryz.f91]
    ·rw [show a-i=0 by omega,rep] at hr
     rw [←hr,encLN_ok rfl]
     refine endK.ret ?_ (by first | rfl | simp [fmN,fm0]);simp [evRes,getT,retV,Tryz.f91,slN]
   by_cases hf:x.fd<0
   ·have hc:chk1 x=9:=by rw [chk1,if_neg ha,if_pos ⟨h3,Or.inl hf⟩]
    refine vms3 ha h3 hf ?_
    refine endK.ret ?_ (by first | rfl | simp [fmN,fm0]);simp [evRes,getT,retV,Tryz.f91,chk,hc,encLN]
   by_cases hf2:2<x.fd
   ·have hc:chk1 x=9:=by rw [chk1,if_neg ha,if_pos ⟨h3,Or.inr hf2⟩]
    refine vms4 ha h3 hf hf2 ?_
    refine endK.ret ?_ (by first | rfl | simp [fmN,fm0]);simp [evRes,getT,retV,Tryz.f91,chk,hc,encLN]
   have hb:∀h:badN x=true,chk1 x=5:=fun h=>by rw [chk1,if_neg ha,if_neg (fun h=>h.2.elim hf hf2),if_pos ⟨h3,h⟩]
   have hn:badN x=decide (ibits BinOp.andNot IntKind.u8 x.v.toNat x.m.toNat≠0):=by
    rw [badN,andNot8]
    congr 1
    rw [Ne,Ne,zero8]
   by_cases hbd:ibits BinOp.andNot IntKind.u8 x.v.toNat x.m.toNat=0
   case neg =>
    have hc:=hb (by rw [hn];simpa using hbd)
    refine vms5 ha h3 hf hf2 hbd ?_
    refine endK.ret ?_ (by first | rfl | simp [fmN,fm0]);simp [evRes,getT,retV,Tryz.f91,chk,hc,encLN]
   have hc:chk1 x=0:=by
    rw [chk1,if_neg ha,if_neg (fun h=>h.2.elim hf hf2),if_neg]
    rintro ⟨_,h⟩
    rw [hn] at h
    simp [hbd] at h
   refine vms5 ha h3 hf hf2 hbd ?_
   rw [←h3]
   refine callO.pc (pc142 x.op) ?_
   refine vms0 ?_
   have hle:=arity_le x.op
   obtain ⟨a,hA⟩:∃a:Nat,arity x.op=(a:Int):=⟨(arity x.op).toNat,by omega⟩
   have hr0:chk (k+1) (x::l)=rep (chk k) a l:=by
    rw [chk,hc,if_neg (by decide),hA,Int.toNat_natCast]
   rw [hr0]
   refine T.lp tok mixed cfg0 (fun ((i,r):Nat × List Nd)=>dd 5 (sv (slN r) (dd 42 (sv (.int .i64 a) (sv (.int .i64 i) (dd 11 (nl))))))) (fun H0 ((i,r):Nat × List Nd)=>[.cells 0 [.int .i64 x.op,.int .i64 x.fd,.int .u8 x.v.toNat,.int .u8 x.m.toNat]]) (fun ((i,r):Nat × List Nd)=>i≤a∧r.length≤l.length∧rep (chk k) (a-i) r=rep (chk k) a l) (fun ((i,r):Nat × List Nd)=>a-i) ((0,l)) ?_ ?_ ?_
   ·exact ⟨Nat.zero_le _,Nat.le_refl _,rfl⟩
   ·rw [hA]
    exact Gn.canon (J:=[]) (by first | rfl | (simp [List.append_nil];done) | (simp [List.append_nil];rfl)) (by simp [wk,slN,putT,kp,dd,sv,nl]) (by simp [List.length_append]) (by simp [fmN,fm0,kp,dd,sv,nl]) (by simp [fmN,fm0])
   rintro ⟨i,r⟩ ⟨hi,hrl,hr⟩
   refine vms0 ?_
   refine ⟨fun hlt=>?_,fun hge=>?_⟩
   ·rw [show a-i=(a-(i+1))+1 by omega,rep] at hr
    refine callO.pc (ih r (by omega) (by omega)) ?_
    by_cases he:(chk k r).2=0
    ·rw [if_neg (fun h=>h he)] at hr
     rw [encLN_ok he]
     have hcl:=chk_len k r
     refine vms1 he ?_
     refine ⟨(i+1,(chk k r).1),⟨by simp only;omega,by simp only;omega,hr⟩,by (try simp only);omega,?_⟩;exact Gn.canon (by first | rfl | (simp [List.append_nil];rfl)) (by simp [wk,slN]) (by simp [List.length_append]) (by simp [fmN,fm0]) (by simp [fmN,fm0])
    ·rw [if_pos he] at hr
     rw [encLN_err he]
     refine vms1 he ?_
     rw [←hr,encLN_err (r:=([],(chk k r).2)) he]
     refine endK.ret ?_ (by first | rfl | simp [fmN,fm0]);simp [evRes,getT,retV,Tryz.f91]
   ·rw [show a-i=0 by omega,rep] at hr
    rw [←hr,encLN_ok rfl]
    refine endK.ret ?_ (by first | rfl | simp [fmN,fm0]);simp [evRes,getT,retV,Tryz.f91,slN]
def checkP (l:List Nd):Int:=if 24<l.length then 12 else if (chk l.length l).2=0∧(chk l.length l).1≠[] then 4 else (chk l.length l).2
theorem pc55 (l:List Nd) (hl:l.length≤4000000):PC Tryz.prog 55 [slN l] (.int .i64 (checkP l)):=by
 by_cases h:24<l.length
 ·refine PC.walk tok mixed cfg0 Tryz.func55 rfl Tryz.call55 (by simp [fmN,fm0]) (by first | rfl | simp [fmN,fm0]) ?_;refine vms1 Tryz.ntmps55 ?_
  refine endK.ret ?_ (by first | rfl | simp [fmN,fm0]);simp [evRes,getT,retV,Tryz.f55,checkP,h]
 refine PC.walk tok mixed cfg0 Tryz.func55 rfl Tryz.call55 (by simp [fmN,fm0]) (by first | rfl | simp [fmN,fm0]) ?_;refine vms1 Tryz.ntmps55 ?_
 refine callO.pc (pc91 l.length l (Nat.le_refl _) hl) ?_
 by_cases he:(chk l.length l).2=0
 ·rw [encLN_ok he]
  by_cases hn:(chk l.length l).1=[]
  ·rw [hn]
   refine vms0 ?_
   refine endK.ret ?_ (by first | rfl | simp [fmN,fm0]);simp [evRes,getT,retV,Tryz.f55,checkP,h,he,hn]
  ·have hp:0<(chk l.length l).1.length:=List.length_pos_iff.2 hn
   refine vms1 hp ?_
   refine endK.ret ?_ (by first | rfl | simp [fmN,fm0]);simp [evRes,getT,retV,Tryz.f55,checkP,h,he,hn]
 ·rw [encLN_err he]
  refine vms1 he ?_
  refine endK.ret ?_ (by first | rfl | simp [fmN,fm0]);simp [evRes,getT,retV,Tryz.f55,checkP,h,he]
end
section
def repS (f:Nat→Nat × Int):Nat→Nat→Nat × Int
 | 0,a=>(a,0)
 | n+1,a=>if (f a).2≠0 then f a else repS f n (f a).1
def scan:Nat→List Nd→Nat→Nat × Int
 | 0,_,a=>(a,3)
 | k+1,l,a=>match l[a]? with
  | none=>(a,3)
  | some x=>if chk1 x≠0 then (a,chk1 x) else repS (scan k l) (arity x.op).toNat (a+1)
theorem repS_le {f:Nat→Nat × Int} {m:Nat} (h:∀a,a≤m→(f a).1≤m):∀n a,a≤m→(repS f n a).1≤m
 | 0,a,ha=>ha
 | n+1,a,ha=>by
  rw [repS]
  split
  ·exact h a ha
  ·exact repS_le h n _ (h a ha)
theorem scan_le:∀k l a,a≤l.length→(scan k l a).1≤l.length
 | 0,l,a,h=>h
 | k+1,l,a,h=>by
  rw [scan]
  split
  ·exact h
  ·rename_i x hx
   split
   ·exact h
   ·exact repS_le (scan_le k l) _ _ (List.getElem?_eq_some_iff.1 hx).1
theorem repS_ge {f:Nat→Nat × Int} (h:∀a,a≤(f a).1):∀n a,a≤(repS f n a).1
 | 0,a=>Nat.le_refl _
 | n+1,a=>by
  rw [repS]
  split
  ·exact h a
  ·exact Nat.le_trans (h a) (repS_ge h n _)
theorem scan_ge:∀k l a,a≤(scan k l a).1
 | 0,l,a=>Nat.le_refl _
 | k+1,l,a=>by
  rw [scan]
  split
  ·exact Nat.le_refl _
  ·split
   ·exact Nat.le_refl _
   ·exact Nat.le_trans (Nat.le_succ _) (repS_ge (scan_ge k l) _ _)
theorem arity_mid {o:Int} {n:Nat} (h:1≤o∧o≤6) (hn:arity o=n) (i:Nat):i<n↔i<2∧(4<o∨o=4∧i=0):=by
 unfold arity at hn
 split at hn
 ·omega
 split at hn
 ·omega
 split at hn<;>omega
theorem repS_rep {l:List Nd} {f:Nat→Nat × Int} {g:List Nd→List Nd × Int} (h:∀a,a≤l.length→(f a).1≤l.length∧(f a).2=(g (l.drop a)).2∧((f a).2=0→l.drop (f a).1=(g (l.drop a)).1)) :
  ∀n a,a≤l.length→(repS f n a).2=(rep g n (l.drop a)).2∧((repS f n a).2=0→l.drop (repS f n a).1=(rep g n (l.drop a)).1)
 | 0,a,ha=>⟨rfl,fun _=>rfl⟩
 | n+1,a,ha=>by
  obtain ⟨h1,h2,h3⟩:=h a ha
  rw [repS,rep,←h2]
  by_cases he:(f a).2=0
  ·rw [if_neg (fun h=>h he),if_neg (fun h=>h he),←h3 he]
   exact repS_rep h n _ h1
  ·rw [if_pos he,if_pos he]
   exact ⟨rfl,fun h=>absurd h he⟩
theorem scan_chk:∀k l a,a≤l.length→(scan k l a).2=(chk k (l.drop a)).2∧((scan k l a).2=0→l.drop (scan k l a).1=(chk k (l.drop a)).1)
 | 0,l,a,ha=>by
  have:(chk 0 (l.drop a)).2=3:=by cases l.drop a<;>rfl
  rw [this]
  exact ⟨rfl,fun h=>by simp [scan] at h⟩
 | k+1,l,a,ha=>by
  by_cases h:a<l.length
  ·rw [List.drop_eq_getElem_cons h,scan,List.getElem?_eq_getElem h,chk]
   simp only
   by_cases hc:chk1 l[a]=0
   ·rw [if_neg (fun h=>h hc),if_neg (fun h=>h hc)]
    exact repS_rep (fun b hb=>⟨scan_le k l b hb,scan_chk k l b hb⟩) _ _ h
   ·rw [if_pos hc,if_pos hc]
    exact ⟨rfl,fun h=>absurd h hc⟩
  ·rw [List.drop_of_length_le (by omega),scan,List.getElem?_eq_none (by omega)]
   exact ⟨rfl,fun h=>by simp at h⟩
def encIE (r:Nat × Int):V:=.tup [.int .i64 r.1,.int .i64 r.2]
theorem encIE_d (r:Nat × Int):encIE r=.tup [.int .i64 r.1,.int .i64 r.2]:=rfl
theorem encIE_ok {r:Nat × Int} (h:r.2=0):encIE r=.tup [.int .i64 r.1,.int .i64 0]:=by
 rw [encIE,h]
theorem and_self_iff8 (v m:UInt8):(v &&& m=v)↔(v &&& ~~~ m=0):=by
 constructor
 ·intro h
  apply UInt8.toBitVec_inj.1
  have h':=UInt8.toBitVec_inj.2 h
  simp only [UInt8.toBitVec_and,UInt8.toBitVec_not] at h' ⊢
  apply BitVec.eq_of_getLsbD_eq
  intro i hi
  have hb:=congrArg (fun x=>x.getLsbD i) h'
  simp only [BitVec.getLsbD_and,BitVec.getLsbD_not] at hb ⊢
  simp only [hi,decide_true,Bool.true_and]
  revert hb
  cases v.toBitVec.getLsbD i<;>cases m.toBitVec.getLsbD i<;>simp
 ·intro h
  apply UInt8.toBitVec_inj.1
  have h':=UInt8.toBitVec_inj.2 h
  simp only [UInt8.toBitVec_and,UInt8.toBitVec_not] at h' ⊢
  apply BitVec.eq_of_getLsbD_eq
  intro i hi
  have hb:=congrArg (fun x=>x.getLsbD i) h'
  simp only [BitVec.getLsbD_and,BitVec.getLsbD_not] at hb ⊢
  simp only [hi,decide_true,Bool.true_and] at hb
  revert hb
  cases v.toBitVec.getLsbD i<;>cases m.toBitVec.getLsbD i<;>simp
attribute [local push_cast] encF encN slN cfg0 gfp_lenN gfd_lenN lfl_lenN
theorem pc95:∀(k:Nat) (l:List Nd) (a:Nat),a≤l.length→l.length-a≤k→l.length≤4000000→PC Tryz.prog 95 [slN l,.int .i64 a] (encIE (scan k l a)):=by
 intro k
 induction k with
 | zero =>
  intro l a ha hl _
  have hla:(l.length:Int)≤a:=by omega
  refine PC.walk tok mixed cfg0 Tryz.func95 rfl Tryz.call95 (by simp) (by first | rfl | simp) ?_;refine vms1 Tryz.ntmps95 ?_
  refine endK.retA ?_;simp [evRes,getT,retV,Tryz.f95,scan,encIE]
 | succ k ih =>
  intro l a ha hl hm
  by_cases hlt:a<l.length
  case neg =>
   have hla:(l.length:Int)≤a:=by omega
   have hn:l[a]? = none:=List.getElem?_eq_none (by omega)
   refine PC.walk tok mixed cfg0 Tryz.func95 rfl Tryz.call95 (by simp) (by first | rfl | simp) ?_;refine vms1 Tryz.ntmps95 ?_
   refine endK.retA ?_;simp [evRes,getT,retV,Tryz.f95,scan,encIE,hn]
  have hx:l[a]? = some l[a]:=List.getElem?_eq_getElem hlt
  have hs:scan (k+1) l a=if chk1 l[a]≠0 then (a,chk1 l[a]) else repS (scan k l) (arity l[a].op).toNat (a+1):=by
   rw [scan,hx]
  rw [hs]
  have har:¬arity l[a].op<0↔1≤l[a].op∧l[a].op≤6:=by
   unfold arity
   split
   ·omega
   split
   ·omega
   split<;>omega
  generalize hX:l[a]=x at hs har hx ⊢
  obtain ⟨op,fd,v,m⟩:=x
  simp only at hs har hx
  by_cases ha1:arity op<0
  ·have hc:chk1 ⟨op,fd,v,m⟩=11:=by rw [chk1,if_pos ha1]
   rw [hc,if_pos (by decide)]
   by_cases h1:op<1
   ·refine PC.walk tok mixed cfg0 Tryz.func95 rfl Tryz.call95 (by simp) (by first | rfl | simp) ?_;refine vms1 Tryz.ntmps95 ?_
    refine vms2 hX h1 ?_
    refine endK.retA ?_;simp [evRes,getT,retV,Tryz.f95,encIE]
   ·have h6:6<op:=by omega
    refine PC.walk tok mixed cfg0 Tryz.func95 rfl Tryz.call95 (by simp) (by first | rfl | simp) ?_;refine vms1 Tryz.ntmps95 ?_
    refine vms3 hX h1 h6 ?_
    refine endK.retA ?_;simp [evRes,getT,retV,Tryz.f95,encIE]
  have h16:=har.1 ha1
  have h1:¬op<1:=by omega
  have h6:¬6<op:=by omega
  obtain ⟨n,hA⟩:∃n:Nat,arity op=(n:Int):=⟨(arity op).toNat,by omega⟩
  have hz:(ibits BinOp.and IntKind.u8 v.toNat m.toNat=v.toNat)=(badN ⟨op,fd,v,m⟩=false):=by
   rw [badN,and8]
   apply propext
   simp only [decide_eq_false_iff_not,Ne,Decidable.not_not]
   rw [←and_self_iff8]
   constructor
   ·intro h
    exact UInt8.toNat_inj.1 (by omega)
   ·intro h
    rw [h]
  by_cases h3:op=3
  case neg =>
   have hc:chk1 ⟨op,fd,v,m⟩=0:=by rw [chk1,if_neg ha1,if_neg (fun h=>h3 h.1),if_neg (fun h=>h3 h.1)]
   rw [hc,if_neg (fun h=>h rfl),hA,Int.toNat_natCast]
   refine PC.walk tok mixed cfg0 Tryz.func95 rfl Tryz.call95 (by simp) (by first | rfl | simp) ?_;refine vms1 Tryz.ntmps95 ?_
   refine vms4 hX h1 h6 h3 ?_
   refine T.lp tok mixed cfg0 (fun ((i,b):Nat × Nat)=>kp 1 (dd 5 (kp 1 (sv (.int .i64 b) (sv (.int .i64 i) (dd 80 (nl))))))) (fun H0 ((i,b):Nat × Nat)=>[.cells 0 [.int .i64 op,.int .i64 fd,.int .u8 v.toNat,.int .u8 m.toNat]]) (fun ((i,b):Nat × Nat)=>i≤n∧b≤l.length∧a<b∧repS (scan k l) (n-i) b=repS (scan k l) n (a+1)) (fun ((i,b):Nat × Nat)=>n-i) ((0,a+1)) ?_ ?_ ?_
   ·exact ⟨Nat.zero_le _,hlt,Nat.lt_succ_self _,rfl⟩
   ·exact Gn.canon (J:=[]) (by first | rfl | (simp [List.append_nil];done) | (simp [List.append_nil];rfl)) (by simp [wk,slN,putT,kp,dd,sv,nl]) (by simp [List.length_append]) (by simp [kp,dd,sv,nl]) (by simp)
   rintro ⟨i,b⟩ ⟨hi,hb,hab,hr⟩
   have hmid:=arity_mid h16 hA i
   by_cases hin:i<n
   ·obtain ⟨hi2,hop⟩:=hmid.1 hin
    rw [show n-i=(n-(i+1))+1 by omega,repS] at hr
    have hge:=scan_ge k l b
    have hle:=scan_le k l b hb
    by_cases h4:4<op
    ·refine vms2 hi2 h4 ?_
     refine callO.pc (ih l b hb (by omega) hm) ?_
     by_cases he:(scan k l b).2=0
     ·rw [if_neg (fun h=>h he)] at hr
      rw [encIE_ok he]
      refine vms1 he ?_
      refine ⟨(i+1,(scan k l b).1),⟨by (try simp only);omega,by (try simp only);omega,by (try simp only);omega,hr⟩,by (try simp only);omega,?_⟩;exact Gn.canon (by first | rfl | (simp [List.append_nil];rfl)) (by simp [wk,slN]) (by simp [List.length_append]) (by simp) (by simp)
     ·rw [if_pos he] at hr
      rw [encIE_d (scan k l b)]
      refine vms1 he ?_
      rw [←hr,encIE]
      refine endK.retA ?_;simp [evRes,getT,retV,Tryz.f95]
    ·have h4':op=4:=by omega
     have hi0:i=0:=by omega
     subst hi0
     refine vms3 hi2 h4 h4' ?_
     refine callO.pc (ih l b hb (by omega) hm) ?_
     by_cases he:(scan k l b).2=0
     ·rw [if_neg (fun h=>h he)] at hr
      rw [encIE_ok he]
      refine vms1 he ?_
      subst h4'
      refine ⟨(0+1,(scan k l b).1),⟨by (try simp only);omega,by (try simp only);omega,by (try simp only);omega,hr⟩,by (try simp only);omega,?_⟩;exact Gn.canon (by first | rfl | (simp [List.append_nil];rfl)) (by simp [wk,slN]) (by simp [List.length_append]) (by simp) (by simp)
     ·rw [if_pos he] at hr
      rw [encIE_d (scan k l b)]
      refine vms1 he ?_
      rw [←hr,encIE]
      refine endK.retA ?_;simp [evRes,getT,retV,Tryz.f95]
   ·rw [show n-i=0 by omega,repS] at hr
    have hno:¬(i<2∧(4<op∨op=4∧i=0)):=fun h=>hin (hmid.2 h)
    by_cases hi2:i<2
    ·have h4:¬4<op:=by omega
     by_cases h4':op=4
     ·have hi0:¬i=0:=by omega
      refine vms4 hi2 h4 h4' hi0 ?_
      rw [←hr,encIE]
      refine endK.retA ?_;simp [evRes,getT,retV,Tryz.f95]
     ·refine vms3 hi2 h4 h4' ?_
      rw [←hr,encIE]
      refine endK.retA ?_;simp [evRes,getT,retV,Tryz.f95]
    ·refine vms1 hi2 ?_
     rw [←hr]
     refine endK.retA ?_;simp [evRes,getT,retV,Tryz.f95,encIE]
  by_cases hf:fd<0
  ·have hc:chk1 ⟨op,fd,v,m⟩=9:=by rw [chk1,if_neg ha1,if_pos ⟨h3,Or.inl hf⟩]
   rw [hc,if_pos (by decide)]
   refine PC.walk tok mixed cfg0 Tryz.func95 rfl Tryz.call95 (by simp) (by first | rfl | simp) ?_;refine vms1 Tryz.ntmps95 ?_
   refine vms5 hX h1 h6 h3 hf ?_
   refine endK.retA ?_;simp [evRes,getT,retV,Tryz.f95,encIE]
  by_cases hf2:2<fd
  ·have hc:chk1 ⟨op,fd,v,m⟩=9:=by rw [chk1,if_neg ha1,if_pos ⟨h3,Or.inr hf2⟩]
   rw [hc,if_pos (by decide)]
   refine PC.walk tok mixed cfg0 Tryz.func95 rfl Tryz.call95 (by simp) (by first | rfl | simp) ?_;refine vms1 Tryz.ntmps95 ?_
   refine vms6 hX h1 h6 h3 hf hf2 ?_
   refine endK.retA ?_;simp [evRes,getT,retV,Tryz.f95,encIE]
  by_cases hbd:ibits BinOp.and IntKind.u8 v.toNat m.toNat=v.toNat
  case neg =>
   have hc:chk1 ⟨op,fd,v,m⟩=5:=by
    rw [hz] at hbd
    have hb1:badN ⟨op,fd,v,m⟩=true:=by simpa using hbd
    rw [chk1,if_neg ha1,if_neg (fun h=>h.2.elim hf hf2),if_pos ⟨h3,hb1⟩]
   rw [hc,if_pos (by decide)]
   refine PC.walk tok mixed cfg0 Tryz.func95 rfl Tryz.call95 (by simp) (by first | rfl | simp) ?_;refine vms1 Tryz.ntmps95 ?_
   refine vms7 hX h1 h6 h3 hf hf2 hbd ?_
   refine endK.retA ?_;simp [evRes,getT,retV,Tryz.f95,encIE]
  have hc:chk1 ⟨op,fd,v,m⟩=0:=by
   rw [hz] at hbd
   rw [chk1,if_neg ha1,if_neg (fun h=>h.2.elim hf hf2),if_neg (fun h=>by rw [hbd] at h;cases h.2)]
  rw [hc,if_neg (fun h=>h rfl),hA,Int.toNat_natCast]
  refine PC.walk tok mixed cfg0 Tryz.func95 rfl Tryz.call95 (by simp) (by first | rfl | simp) ?_;refine vms1 Tryz.ntmps95 ?_
  refine vms7 hX h1 h6 h3 hf hf2 hbd ?_
  have hn0:n=0:=by
   rw [h3] at hA
   have:arity 3=0:=rfl
   omega
  subst hn0
  refine T.lp tok mixed cfg0 (fun (i:Nat)=>kp 1 (dd 5 (kp 1 (sv (.int .i64 (a+1)) (sv (.int .i64 i) (dd 80 (nl))))))) (fun H0 (i:Nat)=>[.cells 0 [.int .i64 3,.int .i64 fd,.int .u8 v.toNat,.int .u8 m.toNat]]) (fun (i:Nat)=>i=0) (fun (i:Nat)=>0) (0) ?_ ?_ ?_
  ·rfl
  ·exact Gn.canon (J:=[]) (by first | rfl | (simp [List.append_nil];done) | (simp [List.append_nil];rfl)) (by simp [wk,slN,putT,kp,dd,sv,nl]) (by simp [List.length_append]) (by simp [kp,dd,sv,nl]) (by simp)
  intro i hi
  subst hi
  refine vms0 ?_
  refine endK.retA ?_;simp [evRes,getT,retV,Tryz.f95,encIE,repS]
end
section
inductive Pr where
 | leaf (x:Nd)
 | un (x:Nd) (p:Pr)
 | bin (x:Nd) (p q:Pr)
def flat:Pr→List Nd
 | .leaf x=>[x]
 | .un x p=>x::flat p
 | .bin x p q=>x::(flat p++flat q)
def okP:Pr→Prop
 | .leaf x=>(x.op=1∨x.op=2∨x.op=3)∧chk1 x=0
 | .un x p=>x.op=4∧okP p
 | .bin x p q=>(x.op=5∨x.op=6)∧okP p∧okP q
def top:Pr→Nd
 | .leaf x=>x
 | .un x _=>x
 | .bin x _ _=>x
theorem flat_top:∀p,∃t,flat p=top p::t
 | .leaf x=>⟨[],rfl⟩
 | .un x p=>⟨flat p,rfl⟩
 | .bin x p q=>⟨flat p++flat q,rfl⟩
theorem flat_pos (p:Pr):0<(flat p).length:=by
 obtain ⟨t,ht⟩:=flat_top p
 rw [ht]
 exact Nat.succ_pos _
theorem chk1_op {x:Nd} (h:x.op=4∨x.op=5∨x.op=6):chk1 x=0:=by
 rcases h with h | h | h
 ·rw [chk1,h]
  rfl
 ·rw [chk1,h]
  rfl
 ·rw [chk1,h]
  rfl
theorem chk_tree:∀k l,(chk k l).2=0→∃p,okP p∧l=flat p++(chk k l).1
 | 0,[],h=>by simp [chk] at h
 | 0,_::_,h=>by simp [chk] at h
 | _+1,[],h=>by simp [chk] at h
 | k+1,x::l,h=>by
  rw [chk] at h ⊢
  by_cases hc:chk1 x=0
  case neg =>
   rw [if_pos hc] at h
   exact absurd h hc
  rw [if_neg (fun g=>g hc)] at h ⊢
  by_cases h0:x.op=1∨x.op=2∨x.op=3
  ·have ha:arity x.op=0:=by rw [arity,if_pos h0]
   rw [ha] at h ⊢
   exact ⟨.leaf x,⟨h0,hc⟩,rfl⟩
  by_cases h4:x.op=4
  ·have ha:arity x.op=1:=by rw [arity,if_neg h0,if_pos h4]
   rw [ha,show (1:Int).toNat=0+1 from rfl,rep] at h ⊢
   by_cases he:(chk k l).2=0
   ·rw [if_neg (fun g=>g he)] at h ⊢
    obtain ⟨p,hp,hl⟩:=chk_tree k l he
    refine ⟨.un x p,⟨h4,hp⟩,?_⟩
    rw [flat,List.cons_append]
    exact congrArg (x::·) hl
   ·rw [if_pos he] at h
    exact absurd h he
  by_cases h56:x.op=5∨x.op=6
  ·have ha:arity x.op=2:=by rw [arity,if_neg h0,if_neg h4,if_pos h56]
   rw [ha,show (2:Int).toNat=0+1+1 from rfl,rep] at h ⊢
   by_cases he:(chk k l).2=0
   ·rw [if_neg (fun g=>g he)] at h ⊢
    rw [rep] at h ⊢
    by_cases he2:(chk k (chk k l).1).2=0
    ·rw [if_neg (fun g=>g he2)] at h ⊢
     obtain ⟨p,hp,hl⟩:=chk_tree k l he
     obtain ⟨q,hq,hl2⟩:=chk_tree k _ he2
     refine ⟨.bin x p q,⟨h56,hp,hq⟩,?_⟩
     rw [flat,List.cons_append,List.append_assoc]
     refine congrArg (x::·) ?_
     rw [rep,←hl2]
     exact hl
    ·rw [if_pos he2] at h
     exact absurd h he2
   ·rw [if_pos he] at h
    exact absurd h he
  ·exfalso
   have ha:arity x.op=-1:=by rw [arity,if_neg h0,if_neg h4,if_neg h56]
   rw [chk1,ha,if_pos (by decide)] at hc
   exact absurd hc (by decide)
theorem drop_cons {α:Type} {l r:List α} {a:Nat} {x:α} (h:l.drop a=x::r):∃ha:a<l.length,l[a]=x∧l.drop (a+1)=r:=by
 have ha:a<l.length:=by
  have:=congrArg List.length h
  rw [List.length_drop,List.length_cons] at this
  omega
 rw [List.drop_eq_getElem_cons ha] at h
 injection h with h1 h2
 exact ⟨ha,h1,h2⟩
theorem drop_app {α:Type} {l p r:List α} {a:Nat} (h:l.drop a=p++r):l.drop (a+p.length)=r:=by
 rw [←List.drop_drop,h,List.drop_left]
theorem drop_len {α:Type} {l p r:List α} {a:Nat} (ha:a≤l.length) (h:l.drop a=p++r):a+p.length+r.length=l.length:=by
 have:=congrArg List.length h
 rw [List.length_drop,List.length_append] at this
 omega
theorem scan_tree:∀(p:Pr) (k:Nat) (l:List Nd) (a:Nat) (r:List Nd),okP p→l.drop a=flat p++r→(flat p).length≤k→scan k l a=(a+(flat p).length,0)
 | p,0,l,a,r,_,_,hk=>by
  have:=flat_pos p
  omega
 | .leaf x,k+1,l,a,r,hp,hl,hk=>by
  obtain ⟨ha,hx,_⟩:=drop_cons (x:=x) (r:=r) hl
  obtain ⟨h0,hc⟩:=hp
  have har:arity x.op=0:=by rw [arity,if_pos h0]
  rw [scan,List.getElem?_eq_getElem ha]
  simp only [hx]
  rw [if_neg (fun g=>g hc),har]
  rfl
 | .un x p,k+1,l,a,r,hp,hl,hk=>by
  obtain ⟨ha,hx,h2⟩:=drop_cons (x:=x) (r:=flat p++r) hl
  obtain ⟨h4,hp⟩:=hp
  have har:arity x.op=1:=by rw [h4];rfl
  have i1:=scan_tree p k l (a+1) r hp h2 (by rw [flat,List.length_cons] at hk;omega)
  rw [scan,List.getElem?_eq_getElem ha]
  simp only [hx]
  rw [if_neg (fun g=>g (chk1_op (.inl h4))),har,show (1:Int).toNat=0+1 from rfl,repS,i1,if_neg (fun g=>g rfl),repS,flat,List.length_cons]
  congr 1
  omega
 | .bin x p q,k+1,l,a,r,hp,hl,hk=>by
  obtain ⟨ha,hx,h2⟩:=drop_cons (x:=x) (r:=flat p++(flat q++r)) (by rw [hl,flat,List.cons_append,List.append_assoc])
  obtain ⟨h4,hp,hq⟩:=hp
  have har:arity x.op=2:=by rcases h4 with h4 | h4<;>rw [h4]<;>rfl
  rw [flat,List.length_cons,List.length_append] at hk
  have i1:=scan_tree p k l (a+1) _ hp h2 (by omega)
  have i2:=scan_tree q k l (a+1+(flat p).length) r hq (drop_app h2) (by omega)
  rw [scan,List.getElem?_eq_getElem ha]
  simp only [hx]
  rw [if_neg (fun g=>g (chk1_op (.inr h4))),har,show (2:Int).toNat=0+1+1 from rfl,repS,i1,if_neg (fun g=>g rfl),repS,i2,if_neg (fun g=>g rfl),repS,flat,List.length_cons,List.length_append]
  congr 1
  omega
attribute [local push_cast] fmN fm0 take_N toN1 slN_nil encF encN slN cfg0 gfp_lenN gfd_lenN lfl_lenN
theorem pc110 (p:Pr) (l:List Nd) (a:Nat) (r:List Nd) (hp:okP p) (h:l.drop a=flat p++r) (ha:a≤l.length) (hl:l.length≤4000000) :
  PC Tryz.prog 110 [slN l,.int .i64 a] (.int .i64 ((a:Int)+(flat p).length)):=by
 have hn:=drop_len ha h
 have hs:=pc95 (l.length-a) l a ha (Nat.le_refl _) hl
 rw [scan_tree p _ l a r hp h (by omega),encIE] at hs
 refine PC.walk tok mixed cfg0 Tryz.func110 rfl Tryz.call110 (by simp [fmN,fm0]) (by first | rfl | simp [fmN,fm0]) ?_;refine vms1 Tryz.ntmps110 ?_
 refine callO.pc hs ?_
 refine vms0 ?_
 refine endK.ret ?_ (by first | rfl | simp [fmN,fm0]);simp [evRes,getT,retV,Tryz.f110,Int.natCast_add]
theorem pc58 (l:List Nd) (hl:l.length≤4000000):PC Tryz.prog 58 [slN l] (.int .i64 (checkP l)):=by
 by_cases h:24<l.length
 ·refine PC.walk tok mixed cfg0 Tryz.func58 rfl Tryz.call58 (by simp [fmN,fm0]) (by first | rfl | simp [fmN,fm0]) ?_;refine vms1 Tryz.ntmps58 ?_
  refine endK.ret ?_ (by first | rfl | simp [fmN,fm0]);simp [evRes,getT,retV,Tryz.f58,checkP,h]
 refine PC.walk tok mixed cfg0 Tryz.func58 rfl Tryz.call58 (by simp [fmN,fm0]) (by first | rfl | simp [fmN,fm0]) ?_;refine vms1 Tryz.ntmps58 ?_
 have hs:=scan_chk l.length l 0 (Nat.zero_le _)
 rw [List.drop_zero] at hs
 refine callO.pc (pc95 l.length l 0 (Nat.zero_le _) (Nat.sub_le _ _) hl) ?_
 have hle:=scan_le l.length l 0 (Nat.zero_le _)
 rw [checkP,if_neg h,←hs.1]
 by_cases he:(scan l.length l 0).2=0
 ·rw [encIE_ok he]
  have h2:=hs.2 he
  by_cases hn:(scan l.length l 0).1<l.length
  ·rw [if_pos ⟨he,fun e=>by rw [e] at h2;have:=List.drop_eq_nil_iff.1 h2;omega⟩]
   refine vms1 hn ?_
   refine endK.ret ?_ (by first | rfl | simp [fmN,fm0]);simp [evRes,getT,retV,Tryz.f58]
  ·rw [if_neg (fun g=>g.2 (by rw [←h2];exact List.drop_eq_nil_iff.2 (by omega))),he]
   refine vms1 hn ?_
   refine endK.ret ?_ (by first | rfl | simp [fmN,fm0]);simp [evRes,getT,retV,Tryz.f58]
 ·rw [if_neg (fun g=>he g.1),encIE]
  refine vms1 he ?_
  refine endK.ret ?_ (by first | rfl | simp [fmN,fm0]);simp [evRes,getT,retV,Tryz.f58]
theorem checkP_tree {l:List Nd} (h:checkP l=0):l.length≤24∧∃p,okP p∧l=flat p:=by
 unfold checkP at h
 split at h
 ·omega
 split at h
 ·omega
 rename_i h1 h2
 refine ⟨by omega,?_⟩
 obtain ⟨p,hp,hl⟩:=chk_tree l.length l h
 refine ⟨p,hp,?_⟩
 have:(chk l.length l).1=[]:=Decidable.not_not.1 (fun g=>h2 ⟨h,g⟩)
 rw [this,List.append_nil] at hl
 exact hl
end
section
theorem eq8 (a b:UInt8):((a.toNat:Int)=b.toNat)=(a=b):=propext ⟨fun h=>UInt8.toNat_inj.1 (by omega),fun h=>by rw [h]⟩
attribute [local push_cast] fmN fm0 take_N toN1 slN_nil encN slN cfg0 gfp_lenN gfd_lenN lfl_lenN
end
section
def evP (f:Fl):Pr→Bool
 | .leaf x=>if x.op=1 then true else if x.op=2 then false else decide ((fval f x.fd ^^^ x.v) &&& x.m=0)
 | .un _ p=>!evP f p
 | .bin x p q=>if x.op=5 then evP f p&&evP f q else evP f p||evP f q
theorem xz8 (a v m:UInt8):((((a.toNat ^^^ v.toNat) &&& m.toNat:Nat):Int)==0)=decide ((a ^^^ v) &&& m=0):=by
 rw [←UInt8.toNat_xor,←UInt8.toNat_and,Bool.eq_iff_iff,beq_iff_eq,decide_eq_true_eq,zero8]
theorem az8 (a v m:UInt8):((((a.toNat &&& m.toNat:Nat):Int))==(v.toNat:Int))=decide (a &&& m=v):=by
 rw [←UInt8.toNat_and,Bool.eq_iff_iff,beq_iff_eq,decide_eq_true_eq,eq8]
attribute [local push_cast] fmN fm0 take_N toN1 slN_nil xor8 and8 zero8 encF encN slN cfg0 gfp_lenN gfd_lenN lfl_lenN
theorem pc97 (f:Fl):∀(p:Pr) (r:List Nd),okP p→(flat p++r).length≤4000000→PC Tryz.prog 97 [slN (flat p++r),.agg (encF f)] (.tup [.bool (evP f p),slN r])
 | .leaf x,r,hp,hl=>by
  obtain ⟨h0,hc⟩:=hp
  have hl':r.length+1≤4000000:=hl
  show PC Tryz.prog 97 [slN (x::r),.agg (encF f)] _
  rcases h0 with h | h | h
  ·refine PC.walk tok mixed cfg0 Tryz.func97 rfl Tryz.call97 (by simp [fmN,fm0]) (by first | rfl | simp [fmN,fm0]) ?_;refine vms1 Tryz.ntmps97 ?_
   refine vms1 h ?_
   refine endK.ret ?_ (by first | rfl | simp [fmN,fm0]);simp [evRes,getT,retV,Tryz.f97,evP,h]
  ·refine PC.walk tok mixed cfg0 Tryz.func97 rfl Tryz.call97 (by simp [fmN,fm0]) (by first | rfl | simp [fmN,fm0]) ?_;refine vms1 Tryz.ntmps97 ?_
   refine vms1 h ?_
   refine endK.ret ?_ (by first | rfl | simp [fmN,fm0]);simp [evRes,getT,retV,Tryz.f97,evP,h]
  ·refine PC.walk tok mixed cfg0 Tryz.func97 rfl Tryz.call97 (by simp [fmN,fm0]) (by first | rfl | simp [fmN,fm0]) ?_;refine vms1 Tryz.ntmps97 ?_
   refine vms1 h ?_
   refine callG.pc1 (pc145 f x.fd) ?_
   refine vms1 h ?_
   refine endK.ret ?_ (by first | rfl | simp [fmN,fm0]);simp [evRes,getT,retV,Tryz.f97,evP,h,xz8]
 | .un x p,r,hp,hl=>by
  obtain ⟨h4,hp⟩:=hp
  rw [flat,List.cons_append,List.length_cons] at hl
  rw [flat,List.cons_append]
  have i1:=pc97 f p r hp (by omega)
  generalize flat p++r=t at hl i1 ⊢
  refine PC.walk tok mixed cfg0 Tryz.func97 rfl Tryz.call97 (by simp [fmN,fm0]) (by first | rfl | simp [fmN,fm0]) ?_;refine vms1 Tryz.ntmps97 ?_
  refine vms1 h4 ?_
  refine callO.pc i1 ?_
  refine vms1 h4 ?_
  refine endK.ret ?_ (by first | rfl | simp [fmN,fm0]);simp [evRes,getT,retV,Tryz.f97,evP]
 | .bin x p q,r,hp,hl=>by
  obtain ⟨h4,hp,hq⟩:=hp
  rw [flat,List.cons_append,List.length_cons,List.append_assoc] at hl
  rw [flat,List.cons_append,List.append_assoc]
  have i1:=pc97 f p (flat q++r) hp (by omega)
  have i2:=pc97 f q r hq (by rw [List.length_append] at hl;omega)
  have hl2:(flat q++r).length≤4000000:=by rw [List.length_append] at hl;omega
  generalize flat q++r=u at hl hl2 i1 i2 ⊢
  generalize flat p++u=t at hl i1 ⊢
  rcases h4 with h | h
  ·refine PC.walk tok mixed cfg0 Tryz.func97 rfl Tryz.call97 (by simp [fmN,fm0]) (by first | rfl | simp [fmN,fm0]) ?_;refine vms1 Tryz.ntmps97 ?_
   refine vms1 h ?_
   refine callO.pc i1 ?_
   refine vms1 h ?_
   refine callO.pc i2 ?_
   cases hb:evP f p
   ·refine vms1 h ?_
    refine endK.ret ?_ (by first | rfl | simp [fmN,fm0]);simp [evRes,getT,retV,Tryz.f97,evP,h,hb]
   ·refine vms1 h ?_
    refine endK.ret ?_ (by first | rfl | simp [fmN,fm0]);simp [evRes,getT,retV,Tryz.f97,evP,h,hb]
  ·refine PC.walk tok mixed cfg0 Tryz.func97 rfl Tryz.call97 (by simp [fmN,fm0]) (by first | rfl | simp [fmN,fm0]) ?_;refine vms1 Tryz.ntmps97 ?_
   refine vms1 h ?_
   refine callO.pc i1 ?_
   refine vms1 h ?_
   refine callO.pc i2 ?_
   cases hb:evP f p
   ·refine vms1 h ?_
    refine endK.ret ?_ (by first | rfl | simp [fmN,fm0]);simp [evRes,getT,retV,Tryz.f97,evP,h,hb]
   ·refine vms1 h ?_
    refine endK.ret ?_ (by first | rfl | simp [fmN,fm0]);simp [evRes,getT,retV,Tryz.f97,evP,h,hb]
theorem mask8 (a v m:UInt8) (h:v &&& ~~~ m=0):((a ^^^ v) &&& m=0)↔(a &&& m=v):=by
 have h':=UInt8.toBitVec_inj.2 h
 simp only [UInt8.toBitVec_and,UInt8.toBitVec_not] at h'
 have hq:∀i,i<8→(v.toBitVec.getLsbD i && !m.toBitVec.getLsbD i)=false:=by
  intro i hi
  have hb:=congrArg (fun x=>x.getLsbD i) h'
  simp only [BitVec.getLsbD_and,BitVec.getLsbD_not] at hb
  simp only [hi,decide_true,Bool.true_and] at hb
  simpa using hb
 constructor
 ·intro h
  apply UInt8.toBitVec_inj.1
  have h2:=UInt8.toBitVec_inj.2 h
  simp only [UInt8.toBitVec_and,UInt8.toBitVec_xor] at h2 ⊢
  apply BitVec.eq_of_getLsbD_eq
  intro i hi
  have hb:=congrArg (fun x=>x.getLsbD i) h2
  have hc:=hq i hi
  simp only [BitVec.getLsbD_and,BitVec.getLsbD_xor] at hb ⊢
  revert hb hc
  cases v.toBitVec.getLsbD i<;>cases m.toBitVec.getLsbD i<;>cases a.toBitVec.getLsbD i<;>simp
 ·intro h
  apply UInt8.toBitVec_inj.1
  have h2:=UInt8.toBitVec_inj.2 h
  simp only [UInt8.toBitVec_and,UInt8.toBitVec_xor] at h2 ⊢
  apply BitVec.eq_of_getLsbD_eq
  intro i hi
  have hb:=congrArg (fun x=>x.getLsbD i) h2
  have hc:=hq i hi
  simp only [BitVec.getLsbD_and,BitVec.getLsbD_xor] at hb ⊢
  revert hb hc
  cases v.toBitVec.getLsbD i<;>cases m.toBitVec.getLsbD i<;>cases a.toBitVec.getLsbD i<;>simp
theorem leaf_bad {x:Nd} (h:x.op=3) (hc:chk1 x=0):(0≤x.fd∧x.fd≤2)∧x.v &&& ~~~ x.m=0:=by
 rw [chk1,h,if_neg (by decide)] at hc
 split at hc
 ·cases hc
 split at hc
 ·cases hc
 rename_i h1 h2
 refine ⟨?_,?_⟩
 ·by_cases h3:x.fd<0
  ·exact absurd ⟨rfl,.inl h3⟩ h1
  ·by_cases h4:2<x.fd
   ·exact absurd ⟨rfl,.inr h4⟩ h1
   ·omega
 ·have:¬badN x=true:=fun h=>h2 ⟨rfl,h⟩
  rw [badN] at this
  simpa using this
theorem pc66 (f:Fl) (l:List Nd) (hm:l.length≤4000000):∀(p:Pr) (a:Nat) (r:List Nd),okP p→l.drop a=flat p++r→PC Tryz.prog 66 [slN l,.int .i64 a,.agg (encF f)] (.bool (evP f p))
 | .leaf x,a,r,hp,hl=>by
  obtain ⟨h0,hc⟩:=hp
  obtain ⟨hlt,hX,h2⟩:=drop_cons (x:=x) (r:=r) hl
  rcases h0 with h | h | h
  ·refine PC.walk tok mixed cfg0 Tryz.func66 rfl Tryz.call66 (by simp [fmN,fm0]) (by first | rfl | simp [fmN,fm0]) ?_;refine vms1 Tryz.ntmps66 ?_
   refine vms2 hX h ?_
   refine endK.ret ?_ (by first | rfl | simp [fmN,fm0]);simp [evRes,getT,retV,Tryz.f66,evP,h]
  ·refine PC.walk tok mixed cfg0 Tryz.func66 rfl Tryz.call66 (by simp [fmN,fm0]) (by first | rfl | simp [fmN,fm0]) ?_;refine vms1 Tryz.ntmps66 ?_
   refine vms2 hX h ?_
   refine endK.ret ?_ (by first | rfl | simp [fmN,fm0]);simp [evRes,getT,retV,Tryz.f66,evP,h]
  ·have hb:=mask8 (fval f x.fd) x.v x.m (leaf_bad h hc).2
   refine PC.walk tok mixed cfg0 Tryz.func66 rfl Tryz.call66 (by simp [fmN,fm0]) (by first | rfl | simp [fmN,fm0]) ?_;refine vms1 Tryz.ntmps66 ?_
   refine vms2 hX h ?_
   refine callG.pc1 (pc109 f x.fd) ?_
   refine vms1 h ?_
   refine endK.ret ?_ (by first | rfl | simp [fmN,fm0]);simp [evRes,getT,retV,Tryz.f66,evP,h,hb,az8]
 | .un x p,a,r,hp,hl=>by
  obtain ⟨h4,hp⟩:=hp
  obtain ⟨hlt,hX,h2⟩:=drop_cons (x:=x) (r:=flat p++r) (by rw [hl,flat,List.cons_append])
  have i1:=pc66 f l hm p (a+1) r hp h2
  rw [show ((a+1:Nat):Int)=a+1 from rfl] at i1
  refine PC.walk tok mixed cfg0 Tryz.func66 rfl Tryz.call66 (by simp [fmN,fm0]) (by first | rfl | simp [fmN,fm0]) ?_;refine vms1 Tryz.ntmps66 ?_
  refine vms2 hX h4 ?_
  refine callO.pc i1 ?_
  refine vms1 h4 ?_
  refine endK.ret ?_ (by first | rfl | simp [fmN,fm0]);simp [evRes,getT,retV,Tryz.f66,evP]
 | .bin x p q,a,r,hp,hl=>by
  obtain ⟨h4,hp,hq⟩:=hp
  obtain ⟨hlt,hX,h2⟩:=drop_cons (x:=x) (r:=flat p++(flat q++r)) (by rw [hl,flat,List.cons_append,List.append_assoc])
  have i1:=pc66 f l hm p (a+1) _ hp h2
  have i2:=pc66 f l hm q (a+1+(flat p).length) r hq (drop_app h2)
  have i3:=pc110 p l (a+1) _ hp h2 hlt hm
  have hn:=drop_len hlt h2
  have hnn:(flat p).length≤4000000:=by omega
  rw [show ((a+1+(flat p).length:Nat):Int)=(a:Int)+1+((flat p).length:Nat) by omega] at i2
  rw [show ((a+1:Nat):Int)=a+1 from rfl] at i1 i3
  rcases h4 with h | h
  ·refine PC.walk tok mixed cfg0 Tryz.func66 rfl Tryz.call66 (by simp [fmN,fm0]) (by first | rfl | simp [fmN,fm0]) ?_;refine vms1 Tryz.ntmps66 ?_
   refine vms2 hX h ?_
   refine callG.pc1 i1 ?_
   cases hb:evP f p
   ·refine vms0 ?_
    refine endK.ret ?_ (by first | rfl | simp [fmN,fm0]);simp [evRes,getT,retV,Tryz.f66,evP,h,hb]
   ·refine vms0 ?_
    refine callG.pc1 i3 ?_
    refine vms0 ?_
    refine callG.pc1 i2 ?_
    refine vms0 ?_
    refine endK.ret ?_ (by first | rfl | simp [fmN,fm0]);simp [evRes,getT,retV,Tryz.f66,evP,h,hb]
  ·refine PC.walk tok mixed cfg0 Tryz.func66 rfl Tryz.call66 (by simp [fmN,fm0]) (by first | rfl | simp [fmN,fm0]) ?_;refine vms1 Tryz.ntmps66 ?_
   refine vms2 hX h ?_
   refine callG.pc1 i1 ?_
   cases hb:evP f p
   ·refine vms0 ?_
    refine callG.pc1 i3 ?_
    refine vms0 ?_
    refine callG.pc1 i2 ?_
    refine vms0 ?_
    refine endK.ret ?_ (by first | rfl | simp [fmN,fm0]);simp [evRes,getT,retV,Tryz.f66,evP,h,hb]
   ·refine vms0 ?_
    refine endK.ret ?_ (by first | rfl | simp [fmN,fm0]);simp [evRes,getT,retV,Tryz.f66,evP,h,hb]
def evalL (f:Fl) (l:List Nd) (b:Bool):Prop:=(checkP l=0∧∃p,okP p∧l=flat p∧b=evP f p)∨(checkP l≠0∧b=false)
theorem pc60 (f:Fl) (l:List Nd) (hl:l.length≤4000000) (b:Bool) (h:evalL f l b):PC Tryz.prog 60 [slN l,.agg (encF f)] (.bool b):=by
 rcases h with ⟨hc,p,hp,e,hb⟩ | ⟨hc,hb⟩
 ·have i1:=pc97 f p [] hp (by rw [List.append_nil,←e];exact hl)
  rw [List.append_nil,←e] at i1
  have i0:=pc55 l hl
  rw [hc] at i0
  refine PC.walk tok mixed cfg0 Tryz.func60 rfl Tryz.call60 (by simp [fmN,fm0]) (by first | rfl | simp [fmN,fm0]) ?_;refine vms1 Tryz.ntmps60 ?_
  refine callO.pc i0 ?_
  refine vms0 ?_
  refine callO.pc i1 ?_
  refine vms0 ?_
  refine endK.ret ?_ (by first | rfl | simp [fmN,fm0]);simp [evRes,getT,retV,Tryz.f60,hb]
 ·refine PC.walk tok mixed cfg0 Tryz.func60 rfl Tryz.call60 (by simp [fmN,fm0]) (by first | rfl | simp [fmN,fm0]) ?_;refine vms1 Tryz.ntmps60 ?_
  refine callO.pc (pc55 l hl) ?_
  refine vms1 hc ?_
  refine endK.ret ?_ (by first | rfl | simp [fmN,fm0]);simp [evRes,getT,retV,Tryz.f60,hb]
theorem pc28 (f:Fl) (l:List Nd) (hl:l.length≤4000000) (b:Bool) (h:evalL f l b):PC Tryz.prog 28 [slN l,.agg (encF f)] (.bool b):=by
 rcases h with ⟨hc,p,hp,e,hb⟩ | ⟨hc,hb⟩
 ·have i1:=pc66 f l hl p 0 [] hp (by rw [List.append_nil,←e,List.drop_zero])
  have i0:=pc58 l hl
  rw [hc] at i0
  refine PC.walk tok mixed cfg0 Tryz.func28 rfl Tryz.call28 (by simp [fmN,fm0]) (by first | rfl | simp [fmN,fm0]) ?_;refine vms1 Tryz.ntmps28 ?_
  refine callO.pc i0 ?_
  refine vms0 ?_
  refine callO.pc i1 ?_
  refine vms0 ?_
  refine endK.ret ?_ (by first | rfl | simp [fmN,fm0]);simp [evRes,getT,retV,Tryz.f28,hb]
 ·refine PC.walk tok mixed cfg0 Tryz.func28 rfl Tryz.call28 (by simp [fmN,fm0]) (by first | rfl | simp [fmN,fm0]) ?_;refine vms1 Tryz.ntmps28 ?_
  refine callO.pc (pc58 l hl) ?_
  refine vms1 hc ?_
  refine endK.ret ?_ (by first | rfl | simp [fmN,fm0]);simp [evRes,getT,retV,Tryz.f28,hb]
end
end Go.Proofs.YtlbmbbaefncleaaGreatDoor.Pd

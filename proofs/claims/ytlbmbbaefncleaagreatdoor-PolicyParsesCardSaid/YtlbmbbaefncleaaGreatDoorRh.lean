/-
  Joined by a program from the texts PdChk PdRef PdTree PdJoin PdPrs PdPrn PdPrl PdPrm PdMisc PdEval PdTxt PdPar PdTxt2 PdFrm.
-/
import Derived.Test.YtlbmbbaefncleaaGreatDoorRc
import Derived.Test.YtlbmbbaefncleaaGreatDoorRe
import Derived.Test.YtlbmbbaefncleaaGreatDoorRf
set_option maxRecDepth 100000
set_option maxHeartbeats 4000000
set_option linter.all false
namespace Go.Proofs.YtlbmbbaefncleaaGreatDoor.Pd
open Go.Vm Px
section
theorem fmN (x:Nd) (l:List Nd):List.flatMap encN (x::l)=.int .i64 x.op::.int .i64 x.fd::.int .u8 x.v.toNat::.int .u8 x.m.toNat::l.flatMap encN:=rfl
theorem fm0:List.flatMap encN []=[]:=rfl
theorem slN_nil:slN []=.sl false [] 0:=rfl
theorem take_N {xs:List Nd}:(xs.flatMap encN).take (xs.length*4)=xs.flatMap encN:=by
 rw [List.take_of_length_le (by rw [len_flat lenN];exact Nat.le_refl _)]
theorem toN1 (n:Nat):((n:Int)+1).toNat-1=n:=by omega
theorem b8 (v:UInt8):BitVec.ofInt 8 (v.toNat:Int)=v.toBitVec:=by
 rw [BitVec.ofInt_natCast]
 exact BitVec.eq_of_toNat_eq (by rw [BitVec.toNat_ofNat,Nat.mod_eq_of_lt v.toNat_lt];rfl)
theorem w8 (b:BitVec 8):IntKind.u8.wrap (b.toNat:Int)=b.toNat:=u8_id (by have:=b.isLt;omega)
theorem and8 (v m:UInt8):ibits .and .u8 v.toNat m.toNat=((v &&& m).toNat:Int):=by
 have h:ibits .and .u8 v.toNat m.toNat=IntKind.u8.wrap ((BitVec.ofInt 8 v.toNat &&& BitVec.ofInt 8 m.toNat).toNat:Int):=rfl
 rw [h,b8,b8,w8]
 rfl
theorem xor8 (v m:UInt8):ibits .xor .u8 v.toNat m.toNat=((v ^^^ m).toNat:Int):=by
 have h:ibits .xor .u8 v.toNat m.toNat=IntKind.u8.wrap ((BitVec.ofInt 8 v.toNat ^^^ BitVec.ofInt 8 m.toNat).toNat:Int):=rfl
 rw [h,b8,b8,w8]
 rfl
theorem andNot8 (v m:UInt8):ibits .andNot .u8 v.toNat m.toNat=((v &&& ~~~ m).toNat:Int):=by
 have h:ibits .andNot .u8 v.toNat m.toNat=IntKind.u8.wrap ((BitVec.ofInt 8 v.toNat &&& ~~~ BitVec.ofInt 8 m.toNat).toNat:Int):=rfl
 rw [h,b8,b8,w8]
 rfl
theorem zero8 (v:UInt8):((v.toNat:Int)=0)=(v=0):=by
 apply propext
 constructor
 ·intro h
  exact UInt8.toNat_inj.1 (by simpa using h)
 ·rintro rfl
  rfl
def rep (f:List Nd→List Nd × Int):Nat→List Nd→List Nd × Int
 | 0,l=>(l,0)
 | n+1,l=>if (f l).2≠0 then ([],(f l).2) else rep f n (f l).1
def badN (x:Nd):Bool:=decide (x.v &&& ~~~ x.m≠0)
def chk1 (x:Nd):Int:=if arity x.op<0 then 11 else if x.op=3∧(x.fd<0∨2<x.fd) then 9 else if x.op=3∧badN x=true then 5 else 0
def chk:Nat→List Nd→List Nd × Int
 | _,[]=>([],3)
 | 0,_::_=>([],3)
 | k+1,x::l=>if chk1 x≠0 then ([],chk1 x) else rep (chk k) (arity x.op).toNat l
theorem rep_len {f:List Nd→List Nd × Int} (h:∀l,(f l).1.length≤l.length):∀n l,(rep f n l).1.length≤l.length
 | 0,l=>Nat.le_refl _
 | n+1,l=>by
  rw [rep]
  split
  ·exact Nat.zero_le _
  ·exact Nat.le_trans (rep_len h n _) (h l)
theorem chk_len:∀k l,(chk k l).1.length≤l.length
 | 0,[]=>Nat.le_refl _
 | 0,_::_=>Nat.zero_le _
 | k+1,[]=>Nat.le_refl _
 | k+1,x::l=>by
  rw [chk]
  split
  ·exact Nat.zero_le _
  ·exact Nat.le_trans (rep_len (chk_len k) _ _) (Nat.le_succ _)
def encLN (r:List Nd × Int):V:=.tup [if r.2≠0 then .sl true [] 0 else slN r.1,.int .i64 r.2]
theorem encLN_ok {r:List Nd × Int} (h:r.2=0):encLN r=.tup [slN r.1,.int .i64 0]:=by
 rw [encLN,if_neg (fun e=>e h),h]
theorem encLN_err {r:List Nd × Int} (h:¬r.2=0):encLN r=.tup [.sl true [] 0,.int .i64 r.2]:=by
 rw [encLN,if_pos h]
theorem arity_le (o:Int):arity o≤2:=by
 unfold arity
 split
 ·decide
 split
 ·decide
 split<;>decide
@[simp] theorem bel_LN {n:Nat} (r:List Nd × Int):(encLN r).bel n=true:=by
 unfold encLN
 by_cases h:r.2≠0
 ·rw [if_pos h]
  rfl
 ·rw [if_neg h,bel_tup,belAll_cons,bel_slN]
  rfl
attribute [local push_cast] fmN fm0 take_N toN1 slN_nil encF encN slN cfg0 gfp_lenN gfd_lenN lfl_lenN
theorem pc91:∀(k:Nat) (l:List Nd),l.length≤k→l.length≤4000000→PC Tryz.prog 91 [slN l] (encLN (chk k l)):=by
 intro k
 induction k with
 | zero =>
  intro l hl _
  have hl0:l=[]:=List.length_eq_zero_iff.1 (by omega)
  subst hl0
  refine PC.walk tok mixed cfg0 Tryz.func91 rfl Tryz.call91 (by simp [fmN,fm0]) (by first | rfl | simp [fmN,fm0]) ?_;refine vms1 Tryz.ntmps91 ?_
  refine endK.ret ?_ (by first | rfl | simp [fmN,fm0]);simp [evRes,getT,retV,Tryz.f91,chk,encLN,fm0]
 | succ k ih =>
  intro l hl hm
  cases l with
  | nil =>
   refine PC.walk tok mixed cfg0 Tryz.func91 rfl Tryz.call91 (by simp [fmN,fm0]) (by first | rfl | simp [fmN,fm0]) ?_;refine vms1 Tryz.ntmps91 ?_
   refine endK.ret ?_ (by first | rfl | simp [fmN,fm0]);simp [evRes,getT,retV,Tryz.f91,chk,encLN]
  | cons x l =>
   refine PC.walk tok mixed cfg0 Tryz.func91 rfl Tryz.call91 (by simp [fmN,fm0]) (by first | rfl | simp [fmN,fm0]) ?_;refine vms1 Tryz.ntmps91 ?_
   have hm2:l.length≤4000000:=by simp only [List.length_cons] at hm;omega
   have hk2:l.length≤k:=by simp only [List.length_cons] at hl;omega
   refine callO.pc (pc142 x.op) ?_
   by_cases ha:arity x.op<0
   ·have hc:chk1 x=11:=by rw [chk1,if_pos ha]
    refine vms1 ha ?_
    refine endK.ret ?_ (by first | rfl | simp [fmN,fm0]);simp [evRes,getT,retV,Tryz.f91,chk,hc,encLN]
   by_cases h3:x.op=3
   case neg =>
    have hc:chk1 x=0:=by rw [chk1,if_neg ha,if_neg (fun h=>h3 h.1),if_neg (fun h=>h3 h.1)]
    refine vms2 ha h3 ?_
    refine callO.pc (pc142 x.op) ?_
    refine vms0 ?_
    have hle:=arity_le x.op
    obtain ⟨a,hA⟩:∃a:Nat,arity x.op=(a:Int):=⟨(arity x.op).toNat,by omega⟩
    have hr0:chk (k+1) (x::l)=rep (chk k) a l:=by
     rw [chk,hc,if_neg (by decide),hA,Int.toNat_natCast]
    rw [hr0]
    refine T.lp tok mixed cfg0 (fun ((i,r):Nat × List Nd)=>dd 5 (sv (slN r) (dd 42 (sv (.int .i64 a) (sv (.int .i64 i) (dd 11 (nl))))))) (fun H0 ((i,r):Nat × List Nd)=>[.cells 0 [.int .i64 x.op,.int .i64 x.fd,.int .u8 x.v.toNat,.int .u8 x.m.toNat]]) (fun ((i,r):Nat × List Nd)=>i≤a∧r.length≤l.length∧rep (chk k) (a-i) r=rep (chk k) a l) (fun ((i,r):Nat × List Nd)=>a-i) ((0,l)) ?_ ?_ ?_
    ·exact ⟨Nat.zero_le _,Nat.le_refl _,rfl⟩
    ·rw [hA]
     exact Gn.canon (J:=[]) (by first | rfl | (simp [List.append_nil];done) | (simp [List.append_nil];rfl)) (by simp [wk,slN,putT,kp,dd,sv,nl]) (by simp [List.length_append]) (by simp [fmN,fm0,kp,dd,sv,nl]) (by simp [fmN,fm0])
    rintro ⟨i,r⟩ ⟨hi,hrl,hr⟩
    refine vms0 ?_
    refine ⟨fun hlt=>?_,fun hge=>?_⟩
    ·rw [show a-i=(a-(i+1))+1 by omega,rep] at hr
     refine callO.pc (ih r (by omega) (by omega)) ?_
     by_cases he:(chk k r).2=0
     ·rw [if_neg (fun h=>h he)] at hr
      rw [encLN_ok he]
      have hcl:=chk_len k r
      refine vms1 he ?_
      refine ⟨(i+1,(chk k r).1),⟨by simp only;omega,by simp only;omega,hr⟩,by (try simp only);omega,?_⟩;exact Gn.canon (by first | rfl | (simp [List.append_nil];rfl)) (by simp [wk,slN]) (by simp [List.length_append]) (by simp [fmN,fm0]) (by simp [fmN,fm0])
     ·rw [if_pos he] at hr
      rw [encLN_err he]
      refine vms1 he ?_
      rw [←hr,encLN_err (r:=([],(chk k r).2)) he]
      refine endK.ret ?_ (by first | rfl | simp [fmN,fm0]);simp [evRes,getT,retV,Tryz.f91]
    ·rw [show a-i=0 by omega,rep] at hr
     rw [←hr,encLN_ok rfl]
     refine endK.ret ?_ (by first | rfl | simp [fmN,fm0]);simp [evRes,getT,retV,Tryz.f91,slN]
   by_cases hf:x.fd<0
   ·have hc:chk1 x=9:=by rw [chk1,if_neg ha,if_pos ⟨h3,Or.inl hf⟩]
    refine vms3 ha h3 hf ?_
    refine endK.ret ?_ (by first | rfl | simp [fmN,fm0]);simp [evRes,getT,retV,Tryz.f91,chk,hc,encLN]
   by_cases hf2:2<x.fd
   ·have hc:chk1 x=9:=by rw [chk1,if_neg ha,if_pos ⟨h3,Or.inr hf2⟩]
    refine vms4 ha h3 hf hf2 ?_
    refine endK.ret ?_ (by first | rfl | simp [fmN,fm0]);simp [evRes,getT,retV,Tryz.f91,chk,hc,encLN]
   have hb:∀h:badN x=true,chk1 x=5:=fun h=>by rw [chk1,if_neg ha,if_neg (fun h=>h.2.elim hf hf2),if_pos ⟨h3,h⟩]
   have hn:badN x=decide (ibits BinOp.andNot IntKind.u8 x.v.toNat x.m.toNat≠0):=by
    rw [badN,andNot8]
    congr 1
    rw [Ne,Ne,zero8]
   by_cases hbd:ibits BinOp.andNot IntKind.u8 x.v.toNat x.m.toNat=0
   case neg =>
    have hc:=hb (by rw [hn];simpa using hbd)
    refine vms5 ha h3 hf hf2 hbd ?_
    refine endK.ret ?_ (by first | rfl | simp [fmN,fm0]);simp [evRes,getT,retV,Tryz.f91,chk,hc,encLN]
   have hc:chk1 x=0:=by
    rw [chk1,if_neg ha,if_neg (fun h=>h.2.elim hf hf2),if_neg]
    rintro ⟨_,h⟩
    rw [hn] at h
    simp [hbd] at h
   refine vms5 ha h3 hf hf2 hbd ?_
   rw [←h3]
   refine callO.pc (pc142 x.op) ?_
   refine vms0 ?_
   have hle:=arity_le x.op
   obtain ⟨a,hA⟩:∃a:Nat,arity x.op=(a:Int):=⟨(arity x.op).toNat,by omega⟩
   have hr0:chk (k+1) (x::l)=rep (chk k) a l:=by
    rw [chk,hc,if_neg (by decide),hA,Int.toNat_natCast]
   rw [hr0]
   refine T.lp tok mixed cfg0 (fun ((i,r):Nat × List Nd)=>dd 5 (sv (slN r) (dd 42 (sv (.int .i64 a) (sv (.int .i64 i) (dd 11 (nl))))))) (fun H0 ((i,r):Nat × List Nd)=>[.cells 0 [.int .i64 x.op,.int .i64 x.fd,.int .u8 x.v.toNat,.int .u8 x.m.toNat]]) (fun ((i,r):Nat × List Nd)=>i≤a∧r.length≤l.length∧rep (chk k) (a-i) r=rep (chk k) a l) (fun ((i,r):Nat × List Nd)=>a-i) ((0,l)) ?_ ?_ ?_
   ·exact ⟨Nat.zero_le _,Nat.le_refl _,rfl⟩
   ·rw [hA]
    exact Gn.canon (J:=[]) (by first | rfl | (simp [List.append_nil];done) | (simp [List.append_nil];rfl)) (by simp [wk,slN,putT,kp,dd,sv,nl]) (by simp [List.length_append]) (by simp [fmN,fm0,kp,dd,sv,nl]) (by simp [fmN,fm0])
   rintro ⟨i,r⟩ ⟨hi,hrl,hr⟩
   refine vms0 ?_
   refine ⟨fun hlt=>?_,fun hge=>?_⟩
   ·rw [show a-i=(a-(i+1))+1 by omega,rep] at hr
    refine callO.pc (ih r (by omega) (by omega)) ?_
    by_cases he:(chk k r).2=0
    ·rw [if_neg (fun h=>h he)] at hr
     rw [encLN_ok he]
     have hcl:=chk_len k r
     refine vms1 he ?_
     refine ⟨(i+1,(chk k r).1),⟨by simp only;omega,by simp only;omega,hr⟩,by (try simp only);omega,?_⟩;exact Gn.canon (by first | rfl | (simp [List.append_nil];rfl)) (by simp [wk,slN]) (by simp [List.length_append]) (by simp [fmN,fm0]) (by simp [fmN,fm0])
    ·rw [if_pos he] at hr
     rw [encLN_err he]
     refine vms1 he ?_
     rw [←hr,encLN_err (r:=([],(chk k r).2)) he]
     refine endK.ret ?_ (by first | rfl | simp [fmN,fm0]);simp [evRes,getT,retV,Tryz.f91]
   ·rw [show a-i=0 by omega,rep] at hr
    rw [←hr,encLN_ok rfl]
    refine endK.ret ?_ (by first | rfl | simp [fmN,fm0]);simp [evRes,getT,retV,Tryz.f91,slN]
def checkP (l:List Nd):Int:=if 24<l.length then 12 else if (chk l.length l).2=0∧(chk l.length l).1≠[] then 4 else (chk l.length l).2
theorem pc55 (l:List Nd) (hl:l.length≤4000000):PC Tryz.prog 55 [slN l] (.int .i64 (checkP l)):=by
 by_cases h:24<l.length
 ·refine PC.walk tok mixed cfg0 Tryz.func55 rfl Tryz.call55 (by simp [fmN,fm0]) (by first | rfl | simp [fmN,fm0]) ?_;refine vms1 Tryz.ntmps55 ?_
  refine endK.ret ?_ (by first | rfl | simp [fmN,fm0]);simp [evRes,getT,retV,Tryz.f55,checkP,h]
 refine PC.walk tok mixed cfg0 Tryz.func55 rfl Tryz.call55 (by simp [fmN,fm0]) (by first | rfl | simp [fmN,fm0]) ?_;refine vms1 Tryz.ntmps55 ?_
 refine callO.pc (pc91 l.length l (Nat.le_refl _) hl) ?_
 by_cases he:(chk l.length l).2=0
 ·rw [encLN_ok he]
  by_cases hn:(chk l.length l).1=[]
  ·rw [hn]
   refine vms0 ?_
   refine endK.ret ?_ (by first | rfl | simp [fmN,fm0]);simp [evRes,getT,retV,Tryz.f55,checkP,h,he,hn]
  ·have hp:0<(chk l.length l).1.length:=List.length_pos_iff.2 hn
   refine vms1 hp ?_
   refine endK.ret ?_ (by first | rfl | simp [fmN,fm0]);simp [evRes,getT,retV,Tryz.f55,checkP,h,he,hn]
 ·rw [encLN_err he]
  refine vms1 he ?_
  refine endK.ret ?_ (by first | rfl | simp [fmN,fm0]);simp [evRes,getT,retV,Tryz.f55,checkP,h,he]
end
section
def repS (f:Nat→Nat × Int):Nat→Nat→Nat × Int
 | 0,a=>(a,0)
 | n+1,a=>if (f a).2≠0 then f a else repS f n (f a).1
def scan:Nat→List Nd→Nat→Nat × Int
 | 0,_,a=>(a,3)
 | k+1,l,a=>match l[a]? with
  | none=>(a,3)
  | some x=>if chk1 x≠0 then (a,chk1 x) else repS (scan k l) (arity x.op).toNat (a+1)
theorem repS_le {f:Nat→Nat × Int} {m:Nat} (h:∀a,a≤m→(f a).1≤m):∀n a,a≤m→(repS f n a).1≤m
 | 0,a,ha=>ha
 | n+1,a,ha=>by
  rw [repS]
  split
  ·exact h a ha
  ·exact repS_le h n _ (h a ha)
theorem scan_le:∀k l a,a≤l.length→(scan k l a).1≤l.length
 | 0,l,a,h=>h
 | k+1,l,a,h=>by
  rw [scan]
  split
  ·exact h
  ·rename_i x hx
   split
   ·exact h
   ·exact repS_le (scan_le k l) _ _ (List.getElem?_eq_some_iff.1 hx).1
theorem repS_ge {f:Nat→Nat × Int} (h:∀a,a≤(f a).1):∀n a,a≤(repS f n a).1
 | 0,a=>Nat.le_refl _
 | n+1,a=>by
  rw [repS]
  split
  ·exact h a
  ·exact Nat.le_trans (h a) (repS_ge h n _)
theorem scan_ge:∀k l a,a≤(scan k l a).1
 | 0,l,a=>Nat.le_refl _
 | k+1,l,a=>by
  rw [scan]
  split
  ·exact Nat.le_refl _
  ·split
   ·exact Nat.le_refl _
   ·exact Nat.le_trans (Nat.le_succ _) (repS_ge (scan_ge k l) _ _)
theorem arity_mid {o:Int} {n:Nat} (h:1≤o∧o≤6) (hn:arity o=n) (i:Nat):i<n↔i<2∧(4<o∨o=4∧i=0):=by
 unfold arity at hn
 split at hn
 ·omega
 split at hn
 ·omega
 split at hn<;>omega
theorem repS_rep {l:List Nd} {f:Nat→Nat × Int} {g:List Nd→List Nd × Int} (h:∀a,a≤l.length→(f a).1≤l.length∧(f a).2=(g (l.drop a)).2∧((f a).2=0→l.drop (f a).1=(g (l.drop a)).1)) :
  ∀n a,a≤l.length→(repS f n a).2=(rep g n (l.drop a)).2∧((repS f n a).2=0→l.drop (repS f n a).1=(rep g n (l.drop a)).1)
 | 0,a,ha=>⟨rfl,fun _=>rfl⟩
 | n+1,a,ha=>by
  obtain ⟨h1,h2,h3⟩:=h a ha
  rw [repS,rep,←h2]
  by_cases he:(f a).2=0
  ·rw [if_neg (fun h=>h he),if_neg (fun h=>h he),←h3 he]
   exact repS_rep h n _ h1
  ·rw [if_pos he,if_pos he]
   exact ⟨rfl,fun h=>absurd h he⟩
theorem scan_chk:∀k l a,a≤l.length→(scan k l a).2=(chk k (l.drop a)).2∧((scan k l a).2=0→l.drop (scan k l a).1=(chk k (l.drop a)).1)
 | 0,l,a,ha=>by
  have:(chk 0 (l.drop a)).2=3:=by cases l.drop a<;>rfl
  rw [this]
  exact ⟨rfl,fun h=>by simp [scan] at h⟩
 | k+1,l,a,ha=>by
  by_cases h:a<l.length
  ·rw [List.drop_eq_getElem_cons h,scan,List.getElem?_eq_getElem h,chk]
   simp only
   by_cases hc:chk1 l[a]=0
   ·rw [if_neg (fun h=>h hc),if_neg (fun h=>h hc)]
    exact repS_rep (fun b hb=>⟨scan_le k l b hb,scan_chk k l b hb⟩) _ _ h
   ·rw [if_pos hc,if_pos hc]
    exact ⟨rfl,fun h=>absurd h hc⟩
  ·rw [List.drop_of_length_le (by omega),scan,List.getElem?_eq_none (by omega)]
   exact ⟨rfl,fun h=>by simp at h⟩
def encIE (r:Nat × Int):V:=.tup [.int .i64 r.1,.int .i64 r.2]
theorem encIE_d (r:Nat × Int):encIE r=.tup [.int .i64 r.1,.int .i64 r.2]:=rfl
theorem encIE_ok {r:Nat × Int} (h:r.2=0):encIE r=.tup [.int .i64 r.1,.int .i64 0]:=by
 rw [encIE,h]
theorem and_self_iff8 (v m:UInt8):(v &&& m=v)↔(v &&& ~~~ m=0):=by
 constructor
 ·intro h
  apply UInt8.toBitVec_inj.1
  have h':=UInt8.toBitVec_inj.2 h
  simp only [UInt8.toBitVec_and,UInt8.toBitVec_not] at h' ⊢
  apply BitVec.eq_of_getLsbD_eq
  intro i hi
  have hb:=congrArg (fun x=>x.getLsbD i) h'
  simp only [BitVec.getLsbD_and,BitVec.getLsbD_not] at hb ⊢
  simp only [hi,decide_true,Bool.true_and]
  revert hb
  cases v.toBitVec.getLsbD i<;>cases m.toBitVec.getLsbD i<;>simp
 ·intro h
  apply UInt8.toBitVec_inj.1
  have h':=UInt8.toBitVec_inj.2 h
  simp only [UInt8.toBitVec_and,UInt8.toBitVec_not] at h' ⊢
  apply BitVec.eq_of_getLsbD_eq
  intro i hi
  have hb:=congrArg (fun x=>x.getLsbD i) h'
  simp only [BitVec.getLsbD_and,BitVec.getLsbD_not] at hb ⊢
  simp only [hi,decide_true,Bool.true_and] at hb
  revert hb
  cases v.toBitVec.getLsbD i<;>cases m.toBitVec.getLsbD i<;>simp
attribute [local push_cast] encF encN slN cfg0 gfp_lenN gfd_lenN lfl_lenN
theorem pc95:∀(k:Nat) (l:List Nd) (a:Nat),a≤l.length→l.length-a≤k→l.length≤4000000→PC Tryz.prog 95 [slN l,.int .i64 a] (encIE (scan k l a)):=by
 intro k
 induction k with
 | zero =>
  intro l a ha hl _
  have hla:(l.length:Int)≤a:=by omega
  refine PC.walk tok mixed cfg0 Tryz.func95 rfl Tryz.call95 (by simp) (by first | rfl | simp) ?_;simp (maxSteps:=2000000) -implicitDefEqProofs +contextual (disch:=first | assumption | omega | decide +kernel) only [push_cast,↓capI,seval,Nat.reduceLeDiff,Nat.reduceEqDiff,reduceCtorEq,↓reduceIte,Tryz.ntmps95]
  refine endK.retA ?_;simp [evRes,getT,retV,Tryz.f95,scan,encIE]
 | succ k ih =>
  intro l a ha hl hm
  by_cases hlt:a<l.length
  case neg =>
   have hla:(l.length:Int)≤a:=by omega
   have hn:l[a]? = none:=List.getElem?_eq_none (by omega)
   refine PC.walk tok mixed cfg0 Tryz.func95 rfl Tryz.call95 (by simp) (by first | rfl | simp) ?_;simp (maxSteps:=2000000) -implicitDefEqProofs +contextual (disch:=first | assumption | omega | decide +kernel) only [push_cast,↓capI,seval,Nat.reduceLeDiff,Nat.reduceEqDiff,reduceCtorEq,↓reduceIte,Tryz.ntmps95]
   refine endK.retA ?_;simp [evRes,getT,retV,Tryz.f95,scan,encIE,hn]
  have hx:l[a]? = some l[a]:=List.getElem?_eq_getElem hlt
  have hs:scan (k+1) l a=if chk1 l[a]≠0 then (a,chk1 l[a]) else repS (scan k l) (arity l[a].op).toNat (a+1):=by
   rw [scan,hx]
  rw [hs]
  have har:¬arity l[a].op<0↔1≤l[a].op∧l[a].op≤6:=by
   unfold arity
   split
   ·omega
   split
   ·omega
   split<;>omega
  generalize hX:l[a]=x at hs har hx ⊢
  obtain ⟨op,fd,v,m⟩:=x
  simp only at hs har hx
  by_cases ha1:arity op<0
  ·have hc:chk1 ⟨op,fd,v,m⟩=11:=by rw [chk1,if_pos ha1]
   rw [hc,if_pos (by decide)]
   by_cases h1:op<1
   ·refine PC.walk tok mixed cfg0 Tryz.func95 rfl Tryz.call95 (by simp) (by first | rfl | simp) ?_;simp (maxSteps:=2000000) -implicitDefEqProofs +contextual (disch:=first | assumption | omega | decide +kernel) only [push_cast,↓capI,seval,Nat.reduceLeDiff,Nat.reduceEqDiff,reduceCtorEq,↓reduceIte,Tryz.ntmps95]
    simp (maxSteps:=2000000) -implicitDefEqProofs +contextual (disch:=first | assumption | omega | decide +kernel) only [push_cast,↓capI,seval,Nat.reduceLeDiff,Nat.reduceEqDiff,reduceCtorEq,↓reduceIte,hX,h1]
    refine endK.retA ?_;simp [evRes,getT,retV,Tryz.f95,encIE]
   ·have h6:6<op:=by omega
    refine PC.walk tok mixed cfg0 Tryz.func95 rfl Tryz.call95 (by simp) (by first | rfl | simp) ?_;simp (maxSteps:=2000000) -implicitDefEqProofs +contextual (disch:=first | assumption | omega | decide +kernel) only [push_cast,↓capI,seval,Nat.reduceLeDiff,Nat.reduceEqDiff,reduceCtorEq,↓reduceIte,Tryz.ntmps95]
    simp (maxSteps:=2000000) -implicitDefEqProofs +contextual (disch:=first | assumption | omega | decide +kernel) only [push_cast,↓capI,seval,Nat.reduceLeDiff,Nat.reduceEqDiff,reduceCtorEq,↓reduceIte,hX,h1,h6]
    refine endK.retA ?_;simp [evRes,getT,retV,Tryz.f95,encIE]
  have h16:=har.1 ha1
  have h1:¬op<1:=by omega
  have h6:¬6<op:=by omega
  obtain ⟨n,hA⟩:∃n:Nat,arity op=(n:Int):=⟨(arity op).toNat,by omega⟩
  have hz:(ibits BinOp.and IntKind.u8 v.toNat m.toNat=v.toNat)=(badN ⟨op,fd,v,m⟩=false):=by
   rw [badN,and8]
   apply propext
   simp only [decide_eq_false_iff_not,Ne,Decidable.not_not]
   rw [←and_self_iff8]
   constructor
   ·intro h
    exact UInt8.toNat_inj.1 (by omega)
   ·intro h
    rw [h]
  by_cases h3:op=3
  case neg =>
   have hc:chk1 ⟨op,fd,v,m⟩=0:=by rw [chk1,if_neg ha1,if_neg (fun h=>h3 h.1),if_neg (fun h=>h3 h.1)]
   rw [hc,if_neg (fun h=>h rfl),hA,Int.toNat_natCast]
   refine PC.walk tok mixed cfg0 Tryz.func95 rfl Tryz.call95 (by simp) (by first | rfl | simp) ?_;simp (maxSteps:=2000000) -implicitDefEqProofs +contextual (disch:=first | assumption | omega | decide +kernel) only [push_cast,↓capI,seval,Nat.reduceLeDiff,Nat.reduceEqDiff,reduceCtorEq,↓reduceIte,Tryz.ntmps95]
   simp (maxSteps:=2000000) -implicitDefEqProofs +contextual (disch:=first | assumption | omega | decide +kernel) only [push_cast,↓capI,seval,Nat.reduceLeDiff,Nat.reduceEqDiff,reduceCtorEq,↓reduceIte,hX,h1,h6,h3]
   refine T.lp tok mixed cfg0 (fun ((i,b):Nat × Nat)=>kp 1 (dd 5 (kp 1 (sv (.int .i64 b) (sv (.int .i64 i) (dd 80 (nl))))))) (fun H0 ((i,b):Nat × Nat)=>[.cells 0 [.int .i64 op,.int .i64 fd,.int .u8 v.toNat,.int .u8 m.toNat]]) (fun ((i,b):Nat × Nat)=>i≤n∧b≤l.length∧a<b∧repS (scan k l) (n-i) b=repS (scan k l) n (a+1)) (fun ((i,b):Nat × Nat)=>n-i) ((0,a+1)) ?_ ?_ ?_
   ·exact ⟨Nat.zero_le _,hlt,Nat.lt_succ_self _,rfl⟩
   ·exact Gn.canon (J:=[]) (by first | rfl | (simp [List.append_nil];done) | (simp [List.append_nil];rfl)) (by simp [wk,slN,putT,kp,dd,sv,nl]) (by simp [List.length_append]) (by simp [kp,dd,sv,nl]) (by simp)
   rintro ⟨i,b⟩ ⟨hi,hb,hab,hr⟩
   have hmid:=arity_mid h16 hA i
   by_cases hin:i<n
   ·obtain ⟨hi2,hop⟩:=hmid.1 hin
    rw [show n-i=(n-(i+1))+1 by omega,repS] at hr
    have hge:=scan_ge k l b
    have hle:=scan_le k l b hb
    by_cases h4:4<op
    ·simp (maxSteps:=2000000) -implicitDefEqProofs +contextual (disch:=first | assumption | omega | decide +kernel) only [push_cast,↓capI,seval,Nat.reduceLeDiff,Nat.reduceEqDiff,reduceCtorEq,↓reduceIte,hi2,h4]
     refine callO.pc (ih l b hb (by omega) hm) ?_
     by_cases he:(scan k l b).2=0
     ·rw [if_neg (fun h=>h he)] at hr
      rw [encIE_ok he]
      simp (maxSteps:=2000000) -implicitDefEqProofs +contextual (disch:=first | assumption | omega | decide +kernel) only [push_cast,↓capI,seval,Nat.reduceLeDiff,Nat.reduceEqDiff,reduceCtorEq,↓reduceIte,he]
      refine ⟨(i+1,(scan k l b).1),⟨by (try simp only);omega,by (try simp only);omega,by (try simp only);omega,hr⟩,by (try simp only);omega,?_⟩;exact Gn.canon (by first | rfl | (simp [List.append_nil];rfl)) (by simp [wk,slN]) (by simp [List.length_append]) (by simp) (by simp)
     ·rw [if_pos he] at hr
      rw [encIE_d (scan k l b)]
      simp (maxSteps:=2000000) -implicitDefEqProofs +contextual (disch:=first | assumption | omega | decide +kernel) only [push_cast,↓capI,seval,Nat.reduceLeDiff,Nat.reduceEqDiff,reduceCtorEq,↓reduceIte,he]
      rw [←hr,encIE]
      refine endK.retA ?_;simp [evRes,getT,retV,Tryz.f95]
    ·have h4':op=4:=by omega
     have hi0:i=0:=by omega
     subst hi0
     simp (maxSteps:=2000000) -implicitDefEqProofs +contextual (disch:=first | assumption | omega | decide +kernel) only [push_cast,↓capI,seval,Nat.reduceLeDiff,Nat.reduceEqDiff,reduceCtorEq,↓reduceIte,hi2,h4,h4']
     refine callO.pc (ih l b hb (by omega) hm) ?_
     by_cases he:(scan k l b).2=0
     ·rw [if_neg (fun h=>h he)] at hr
      rw [encIE_ok he]
      simp (maxSteps:=2000000) -implicitDefEqProofs +contextual (disch:=first | assumption | omega | decide +kernel) only [push_cast,↓capI,seval,Nat.reduceLeDiff,Nat.reduceEqDiff,reduceCtorEq,↓reduceIte,he]
      subst h4'
      refine ⟨(0+1,(scan k l b).1),⟨by (try simp only);omega,by (try simp only);omega,by (try simp only);omega,hr⟩,by (try simp only);omega,?_⟩;exact Gn.canon (by first | rfl | (simp [List.append_nil];rfl)) (by simp [wk,slN]) (by simp [List.length_append]) (by simp) (by simp)
     ·rw [if_pos he] at hr
      rw [encIE_d (scan k l b)]
      simp (maxSteps:=2000000) -implicitDefEqProofs +contextual (disch:=first | assumption | omega | decide +kernel) only [push_cast,↓capI,seval,Nat.reduceLeDiff,Nat.reduceEqDiff,reduceCtorEq,↓reduceIte,he]
      rw [←hr,encIE]
      refine endK.retA ?_;simp [evRes,getT,retV,Tryz.f95]
   ·rw [show n-i=0 by omega,repS] at hr
    have hno:¬(i<2∧(4<op∨op=4∧i=0)):=fun h=>hin (hmid.2 h)
    by_cases hi2:i<2
    ·have h4:¬4<op:=by omega
     by_cases h4':op=4
     ·have hi0:¬i=0:=by omega
      simp (maxSteps:=2000000) -implicitDefEqProofs +contextual (disch:=first | assumption | omega | decide +kernel) only [push_cast,↓capI,seval,Nat.reduceLeDiff,Nat.reduceEqDiff,reduceCtorEq,↓reduceIte,hi2,h4,h4',hi0]
      rw [←hr,encIE]
      refine endK.retA ?_;simp [evRes,getT,retV,Tryz.f95]
     ·simp (maxSteps:=2000000) -implicitDefEqProofs +contextual (disch:=first | assumption | omega | decide +kernel) only [push_cast,↓capI,seval,Nat.reduceLeDiff,Nat.reduceEqDiff,reduceCtorEq,↓reduceIte,hi2,h4,h4']
      rw [←hr,encIE]
      refine endK.retA ?_;simp [evRes,getT,retV,Tryz.f95]
    ·simp (maxSteps:=2000000) -implicitDefEqProofs +contextual (disch:=first | assumption | omega | decide +kernel) only [push_cast,↓capI,seval,Nat.reduceLeDiff,Nat.reduceEqDiff,reduceCtorEq,↓reduceIte,hi2]
     rw [←hr]
     refine endK.retA ?_;simp [evRes,getT,retV,Tryz.f95,encIE]
  by_cases hf:fd<0
  ·have hc:chk1 ⟨op,fd,v,m⟩=9:=by rw [chk1,if_neg ha1,if_pos ⟨h3,Or.inl hf⟩]
   rw [hc,if_pos (by decide)]
   refine PC.walk tok mixed cfg0 Tryz.func95 rfl Tryz.call95 (by simp) (by first | rfl | simp) ?_;simp (maxSteps:=2000000) -implicitDefEqProofs +contextual (disch:=first | assumption | omega | decide +kernel) only [push_cast,↓capI,seval,Nat.reduceLeDiff,Nat.reduceEqDiff,reduceCtorEq,↓reduceIte,Tryz.ntmps95]
   simp (maxSteps:=2000000) -implicitDefEqProofs +contextual (disch:=first | assumption | omega | decide +kernel) only [push_cast,↓capI,seval,Nat.reduceLeDiff,Nat.reduceEqDiff,reduceCtorEq,↓reduceIte,hX,h1,h6,h3,hf]
   refine endK.retA ?_;simp [evRes,getT,retV,Tryz.f95,encIE]
  by_cases hf2:2<fd
  ·have hc:chk1 ⟨op,fd,v,m⟩=9:=by rw [chk1,if_neg ha1,if_pos ⟨h3,Or.inr hf2⟩]
   rw [hc,if_pos (by decide)]
   refine PC.walk tok mixed cfg0 Tryz.func95 rfl Tryz.call95 (by simp) (by first | rfl | simp) ?_;simp (maxSteps:=2000000) -implicitDefEqProofs +contextual (disch:=first | assumption | omega | decide +kernel) only [push_cast,↓capI,seval,Nat.reduceLeDiff,Nat.reduceEqDiff,reduceCtorEq,↓reduceIte,Tryz.ntmps95]
   simp (maxSteps:=2000000) -implicitDefEqProofs +contextual (disch:=first | assumption | omega | decide +kernel) only [push_cast,↓capI,seval,Nat.reduceLeDiff,Nat.reduceEqDiff,reduceCtorEq,↓reduceIte,hX,h1,h6,h3,hf,hf2]
   refine endK.retA ?_;simp [evRes,getT,retV,Tryz.f95,encIE]
  by_cases hbd:ibits BinOp.and IntKind.u8 v.toNat m.toNat=v.toNat
  case neg =>
   have hc:chk1 ⟨op,fd,v,m⟩=5:=by
    rw [hz] at hbd
    have hb1:badN ⟨op,fd,v,m⟩=true:=by simpa using hbd
    rw [chk1,if_neg ha1,if_neg (fun h=>h.2.elim hf hf2),if_pos ⟨h3,hb1⟩]
   rw [hc,if_pos (by decide)]
   refine PC.walk tok mixed cfg0 Tryz.func95 rfl Tryz.call95 (by simp) (by first | rfl | simp) ?_;simp (maxSteps:=2000000) -implicitDefEqProofs +contextual (disch:=first | assumption | omega | decide +kernel) only [push_cast,↓capI,seval,Nat.reduceLeDiff,Nat.reduceEqDiff,reduceCtorEq,↓reduceIte,Tryz.ntmps95]
   simp (maxSteps:=2000000) -implicitDefEqProofs +contextual (disch:=first | assumption | omega | decide +kernel) only [push_cast,↓capI,seval,Nat.reduceLeDiff,Nat.reduceEqDiff,reduceCtorEq,↓reduceIte,hX,h1,h6,h3,hf,hf2,hbd]
   refine endK.retA ?_;simp [evRes,getT,retV,Tryz.f95,encIE]
  have hc:chk1 ⟨op,fd,v,m⟩=0:=by
   rw [hz] at hbd
   rw [chk1,if_neg ha1,if_neg (fun h=>h.2.elim hf hf2),if_neg (fun h=>by rw [hbd] at h;cases h.2)]
  rw [hc,if_neg (fun h=>h rfl),hA,Int.toNat_natCast]
  refine PC.walk tok mixed cfg0 Tryz.func95 rfl Tryz.call95 (by simp) (by first | rfl | simp) ?_;simp (maxSteps:=2000000) -implicitDefEqProofs +contextual (disch:=first | assumption | omega | decide +kernel) only [push_cast,↓capI,seval,Nat.reduceLeDiff,Nat.reduceEqDiff,reduceCtorEq,↓reduceIte,Tryz.ntmps95]
  simp (maxSteps:=2000000) -implicitDefEqProofs +contextual (disch:=first | assumption | omega | decide +kernel) only [push_cast,↓capI,seval,Nat.reduceLeDiff,Nat.reduceEqDiff,reduceCtorEq,↓reduceIte,hX,h1,h6,h3,hf,hf2,hbd]
  have hn0:n=0:=by
   rw [h3] at hA
   have:arity 3=0:=rfl
   omega
  subst hn0
  refine T.lp tok mixed cfg0 (fun (i:Nat)=>kp 1 (dd 5 (kp 1 (sv (.int .i64 (a+1)) (sv (.int .i64 i) (dd 80 (nl))))))) (fun H0 (i:Nat)=>[.cells 0 [.int .i64 3,.int .i64 fd,.int .u8 v.toNat,.int .u8 m.toNat]]) (fun (i:Nat)=>i=0) (fun (i:Nat)=>0) (0) ?_ ?_ ?_
  ·rfl
  ·exact Gn.canon (J:=[]) (by first | rfl | (simp [List.append_nil];done) | (simp [List.append_nil];rfl)) (by simp [wk,slN,putT,kp,dd,sv,nl]) (by simp [List.length_append]) (by simp [kp,dd,sv,nl]) (by simp)
  intro i hi
  subst hi
  simp (maxSteps:=2000000) -implicitDefEqProofs +contextual (disch:=first | assumption | omega | decide +kernel) only [push_cast,↓capI,seval,Nat.reduceLeDiff,Nat.reduceEqDiff,reduceCtorEq,↓reduceIte]
  refine endK.retA ?_;simp [evRes,getT,retV,Tryz.f95,encIE,repS]
end
section
inductive Pr where
 | leaf (x:Nd)
 | un (x:Nd) (p:Pr)
 | bin (x:Nd) (p q:Pr)
def flat:Pr→List Nd
 | .leaf x=>[x]
 | .un x p=>x::flat p
 | .bin x p q=>x::(flat p++flat q)
def okP:Pr→Prop
 | .leaf x=>(x.op=1∨x.op=2∨x.op=3)∧chk1 x=0
 | .un x p=>x.op=4∧okP p
 | .bin x p q=>(x.op=5∨x.op=6)∧okP p∧okP q
def top:Pr→Nd
 | .leaf x=>x
 | .un x _=>x
 | .bin x _ _=>x
theorem flat_top:∀p,∃t,flat p=top p::t
 | .leaf x=>⟨[],rfl⟩
 | .un x p=>⟨flat p,rfl⟩
 | .bin x p q=>⟨flat p++flat q,rfl⟩
theorem flat_pos (p:Pr):0<(flat p).length:=by
 obtain ⟨t,ht⟩:=flat_top p
 rw [ht]
 exact Nat.succ_pos _
theorem chk1_op {x:Nd} (h:x.op=4∨x.op=5∨x.op=6):chk1 x=0:=by
 rcases h with h | h | h
 ·rw [chk1,h]
  rfl
 ·rw [chk1,h]
  rfl
 ·rw [chk1,h]
  rfl
theorem drop_cons {α:Type} {l r:List α} {a:Nat} {x:α} (h:l.drop a=x::r):∃ha:a<l.length,l[a]=x∧l.drop (a+1)=r:=by
 have ha:a<l.length:=by
  have:=congrArg List.length h
  rw [List.length_drop,List.length_cons] at this
  omega
 rw [List.drop_eq_getElem_cons ha] at h
 injection h with h1 h2
 exact ⟨ha,h1,h2⟩
theorem drop_app {α:Type} {l p r:List α} {a:Nat} (h:l.drop a=p++r):l.drop (a+p.length)=r:=by
 rw [←List.drop_drop,h,List.drop_left]
theorem drop_len {α:Type} {l p r:List α} {a:Nat} (ha:a≤l.length) (h:l.drop a=p++r):a+p.length+r.length=l.length:=by
 have:=congrArg List.length h
 rw [List.length_drop,List.length_append] at this
 omega
theorem scan_tree:∀(p:Pr) (k:Nat) (l:List Nd) (a:Nat) (r:List Nd),okP p→l.drop a=flat p++r→(flat p).length≤k→scan k l a=(a+(flat p).length,0)
 | p,0,l,a,r,_,_,hk=>by
  have:=flat_pos p
  omega
 | .leaf x,k+1,l,a,r,hp,hl,hk=>by
  obtain ⟨ha,hx,_⟩:=drop_cons (x:=x) (r:=r) hl
  obtain ⟨h0,hc⟩:=hp
  have har:arity x.op=0:=by rw [arity,if_pos h0]
  rw [scan,List.getElem?_eq_getElem ha]
  simp only [hx]
  rw [if_neg (fun g=>g hc),har]
  rfl
 | .un x p,k+1,l,a,r,hp,hl,hk=>by
  obtain ⟨ha,hx,h2⟩:=drop_cons (x:=x) (r:=flat p++r) hl
  obtain ⟨h4,hp⟩:=hp
  have har:arity x.op=1:=by rw [h4];rfl
  have i1:=scan_tree p k l (a+1) r hp h2 (by rw [flat,List.length_cons] at hk;omega)
  rw [scan,List.getElem?_eq_getElem ha]
  simp only [hx]
  rw [if_neg (fun g=>g (chk1_op (.inl h4))),har,show (1:Int).toNat=0+1 from rfl,repS,i1,if_neg (fun g=>g rfl),repS,flat,List.length_cons]
  congr 1
  omega
 | .bin x p q,k+1,l,a,r,hp,hl,hk=>by
  obtain ⟨ha,hx,h2⟩:=drop_cons (x:=x) (r:=flat p++(flat q++r)) (by rw [hl,flat,List.cons_append,List.append_assoc])
  obtain ⟨h4,hp,hq⟩:=hp
  have har:arity x.op=2:=by rcases h4 with h4 | h4<;>rw [h4]<;>rfl
  rw [flat,List.length_cons,List.length_append] at hk
  have i1:=scan_tree p k l (a+1) _ hp h2 (by omega)
  have i2:=scan_tree q k l (a+1+(flat p).length) r hq (drop_app h2) (by omega)
  rw [scan,List.getElem?_eq_getElem ha]
  simp only [hx]
  rw [if_neg (fun g=>g (chk1_op (.inr h4))),har,show (2:Int).toNat=0+1+1 from rfl,repS,i1,if_neg (fun g=>g rfl),repS,i2,if_neg (fun g=>g rfl),repS,flat,List.length_cons,List.length_append]
  congr 1
  omega
attribute [local push_cast] fmN fm0 take_N toN1 slN_nil encF encN slN cfg0 gfp_lenN gfd_lenN lfl_lenN
theorem pc110 (p:Pr) (l:List Nd) (a:Nat) (r:List Nd) (hp:okP p) (h:l.drop a=flat p++r) (ha:a≤l.length) (hl:l.length≤4000000) :
  PC Tryz.prog 110 [slN l,.int .i64 a] (.int .i64 ((a:Int)+(flat p).length)):=by
 have hn:=drop_len ha h
 have hs:=pc95 (l.length-a) l a ha (Nat.le_refl _) hl
 rw [scan_tree p _ l a r hp h (by omega),encIE] at hs
 refine PC.walk tok mixed cfg0 Tryz.func110 rfl Tryz.call110 (by simp [fmN,fm0]) (by first | rfl | simp [fmN,fm0]) ?_;refine vms1 Tryz.ntmps110 ?_
 refine callO.pc hs ?_
 refine vms0 ?_
 refine endK.ret ?_ (by first | rfl | simp [fmN,fm0]);simp [evRes,getT,retV,Tryz.f110,Int.natCast_add]
theorem tree_checkP:∀ {p:Pr},okP p→(flat p).length≤24→checkP (flat p)=0:=by
 intro p hp hl
 have hs:=scan_chk (flat p).length (flat p) 0 (Nat.zero_le _)
 rw [List.drop_zero,scan_tree p _ (flat p) 0 [] hp (by rw [List.drop_zero,List.append_nil]) (Nat.le_refl _)] at hs
 rw [checkP,if_neg (by omega),←hs.1,if_neg]
 rintro ⟨_,h⟩
 apply h
 rw [←hs.2 rfl]
 exact List.drop_eq_nil_iff.2 (by simp)
end
section
theorem ones_N:∀ {xs:List Nd},ones true (xs.flatMap encN) True=True
 | []=>rfl
 | x::xs=>by simp only [List.flatMap_cons,encN,List.cons_append,List.nil_append,ones,V.one];exact ones_N
def cfgJ:Cfg:={ lv:=[10],ef:=[],ord:=[],em:=[] }
def jn (o:Int) (a b:List Nd):List Nd:=⟨o,0,0,0⟩::(a++b)
theorem jn_len (o:Int) (a b:List Nd):(jn o a b).length=a.length+b.length+1:=by
 rw [jn,List.length_cons,List.length_append]
def slM (l:List Nd):V:=if l=[] then .sl true [] 0 else slN l
@[simp] theorem bel_slM {n:Nat} (l:List Nd):(slM l).bel n=true:=by
 unfold slM
 split
 ·rfl
 ·exact bel_slN l
attribute [local push_cast] fmN fm0 ones_N take_N toN1 slN_nil encN slN cfg0 cfgJ gfp_lenN gfd_lenN lfl_lenN
theorem pc167 (o:Int) (a b:List Nd) (ha:a.length≤4000000) (hb:b.length≤4000000):PC Tryz.prog 167 [.int .i64 o,slN a,slN b] (slN (jn o a b)):=by
 refine PC.walk tok mixed cfgJ Tryz.func167 rfl Tryz.call167 (by simp [fmN,fm0,belAll_append]) (by first | rfl | simp [fmN,fm0,belAll_append]) ?_;simp (maxSteps:=2000000) -implicitDefEqProofs +contextual (disch:=first | assumption | omega | decide +kernel) only [push_cast,↓capI,seval,Nat.reduceLeDiff,Nat.reduceEqDiff,reduceCtorEq,↓reduceIte,Tryz.ntmps167,cfgJ]
 refine endK.gn (Gn.freeze (id:=0) rfl) ?_;refine endK.ret ?_ (by first | rfl | simp [fmN,fm0,belAll_append]);simp [fmN,fm0,belAll_append,fzs_ok,imp,lenOK_iff,List.take_of_length_le,evRes,getT,getO,setO,fzs,fz,fzH,Nat.beq,retV,Res.then,ldT,ldR,mkV,getV,fmN,fm0,ones_N,take_N,toN1,slN_nil,tt_3,tt_4,tt_5,tt_9,tt_54,tt_42,tt_25,tt_128,tt_104,tt_116,encN,slN,cfg0,cfgJ,get_flat_part lenN,get_flat_drop lenN,len_flat lenN,Tryz.f167,slN,jn]
 exact ⟨List.take_of_length_le (by simp [len_flat lenN];omega),by omega⟩
theorem pc138 (o:Int) (a b:List Nd) (ha:a.length≤4000000) (hb:b.length≤4000000):PC Tryz.prog 138 [.int .i64 o,slN a,slN b] (slN (jn o a b)):=by
 refine PC.walk tok mixed cfgJ Tryz.func138 rfl Tryz.call138 (by simp [fmN,fm0,belAll_append]) (by first | rfl | simp [fmN,fm0,belAll_append]) ?_;simp (maxSteps:=2000000) -implicitDefEqProofs +contextual (disch:=first | assumption | omega | decide +kernel) only [push_cast,↓capI,seval,Nat.reduceLeDiff,Nat.reduceEqDiff,reduceCtorEq,↓reduceIte,Tryz.ntmps138,cfgJ]
 refine endK.gn (Gn.freeze (id:=0) rfl) ?_;refine endK.ret ?_ (by first | rfl | simp [fmN,fm0,belAll_append]);simp [fmN,fm0,belAll_append,fzs_ok,imp,lenOK_iff,List.take_of_length_le,evRes,getT,getO,setO,fzs,fz,fzH,Nat.beq,retV,Res.then,ldT,ldR,mkV,getV,fmN,fm0,ones_N,take_N,toN1,slN_nil,tt_3,tt_4,tt_5,tt_9,tt_54,tt_42,tt_25,tt_128,tt_104,tt_116,encN,slN,cfg0,cfgJ,get_flat_part lenN,get_flat_drop lenN,len_flat lenN,Tryz.f138,slN,jn]
 exact ⟨List.take_of_length_le (by simp [len_flat lenN];omega),by omega⟩
theorem slM_cons {l:List Nd} (h:l≠[]):slM l=slN l:=by rw [slM,if_neg h]
end
section
abbrev PR:=Option (Pr × List UInt8)
def op0 (o:Int):Nd:=⟨o,0,0,0⟩
def lst (nx:List UInt8→PR) (o:Int) (c:UInt8):Nat→Pr→List UInt8→PR
 | 0,_,_=>none
 | k+1,x,s=>if begins s [c]=true then
   match nx (s.drop 1) with
   | none=>none
   | some (y,r)=>lst nx o c k (.bin (op0 o) x y) r
  else some (x,s)
def lstP (nx:List UInt8→PR) (o:Int) (c:UInt8) (s:List UInt8):PR :=
 match nx s with
 | none=>none
 | some (x,r)=>lst nx o c (r.length+1) x r
def pnum (s:List UInt8):Option UInt8:=if (parseI (digs s)).2=true∧(parseI (digs s)).1≤255 then some (UInt8.ofNat (parseI (digs s)).1.toNat) else none
def pTest (i:Int) (s:List UInt8):PR :=
 match pnum s with
 | none=>none
 | some v=>if begins (dropD s) [47]=true then
   match pnum ((dropD s).drop 1) with
   | none=>none
   | some m=>if v &&& ~~~ m=0 then some (.leaf ⟨3,i,v,m⟩,dropD ((dropD s).drop 1)) else none
  else some (.leaf ⟨3,i,v,255⟩,dropD s)
def pFld (s:List UInt8):PR :=
 if begins s (fname 0++[61])=true then pTest 0 (s.drop 4)
 else if begins s (fname 1++[61])=true then pTest 1 (s.drop 4)
 else if begins s (fname 2++[61])=true then pTest 2 (s.drop 5)
 else none
def pNot:Nat→List UInt8→PR
 | 0,_=>none
 | k+1,s =>
  if begins s [33]=true then
   (pNot k (s.drop 1)).map fun q=>(.un (op0 4) q.1,q.2)
  else if begins s [116,114,117,101]=true then some (.leaf (op0 1),s.drop 4)
  else if begins s [102,97,108,115,101]=true then some (.leaf (op0 2),s.drop 5)
  else if begins s [40]=true then
   match lstP (lstP (pNot k) 5 38) 6 124 (s.drop 1) with
   | none=>none
   | some (p,r)=>if begins r [41]=true then some (p,r.drop 1) else none
  else pFld s
def pAnd (k:Nat):List UInt8→PR:=lstP (pNot k) 5 38
def pOr (k:Nat):List UInt8→PR:=lstP (pAnd k) 6 124
def Eats (f:List UInt8→PR):Prop:=∀s p r,f s=some (p,r)→(flat p).length+r.length≤s.length∧okP p
theorem lst_eats {nx:List UInt8→PR} (h:Eats nx) {o:Int} (ho:o=5∨o=6) {c:UInt8}:∀k x s p r,okP x→lst nx o c k x s=some (p,r)→(flat p).length+r.length≤(flat x).length+s.length∧okP p
 | 0,x,s,p,r,_,e=>by cases e
 | k+1,x,s,p,r,hx,e=>by
  rw [lst] at e
  split at e
  ·rename_i hb
   have hl:=begins_le hb
   simp only [List.length_cons,List.length_nil] at hl
   cases hn:nx (s.drop 1) with
   | none=>rw [hn] at e;cases e
   | some q =>
    obtain ⟨y,t⟩:=q
    rw [hn] at e
    have h1:=h _ _ _ hn
    rw [List.length_drop] at h1
    have h2:=lst_eats h ho k (.bin (op0 o) x y) t p r ⟨ho,hx,h1.2⟩ e
    rw [flat,List.length_cons,List.length_append] at h2
    exact ⟨by omega,h2.2⟩
  ·injection e with e
   injection e with e1 e2
   subst e1 e2
   exact ⟨Nat.le_refl _,hx⟩
theorem lstP_eats {nx:List UInt8→PR} (h:Eats nx) {o:Int} (ho:o=5∨o=6) {c:UInt8}:Eats (lstP nx o c):=by
 intro s p r e
 rw [lstP] at e
 cases hn:nx s with
 | none=>rw [hn] at e;cases e
 | some q =>
  obtain ⟨y,t⟩:=q
  rw [hn] at e
  have h1:=h _ _ _ hn
  have h2:=lst_eats h ho _ _ _ _ _ h1.2 e
  exact ⟨by omega,h2.2⟩
theorem chk1_leaf {i:Int} {v m:UInt8} (hi:0≤i∧i≤2) (h:v &&& ~~~ m=0):chk1 ⟨3,i,v,m⟩=0:=by
 have ha:arity 3=0:=rfl
 rw [chk1]
 simp only [ha]
 rw [if_neg (by decide),if_neg (by omega),if_neg]
 rintro ⟨_,h2⟩
 rw [badN] at h2
 simp [h] at h2
theorem pTest_eats {i:Int} (hi:0≤i∧i≤2) {s:List UInt8} {p:Pr} {r:List UInt8} (e:pTest i s=some (p,r)):r.length≤s.length∧okP p∧(flat p).length=1:=by
 rw [pTest] at e
 have h1:=dropD_len s
 cases hv:pnum s with
 | none=>rw [hv] at e;cases e
 | some v =>
  rw [hv] at e
  simp only at e
  split at e
  ·have h2:=dropD_len ((dropD s).drop 1)
   rw [List.length_drop] at h2
   cases hm:pnum ((dropD s).drop 1) with
   | none=>rw [hm] at e;cases e
   | some m =>
    rw [hm] at e
    simp only at e
    split at e
    ·rename_i hz
     injection e with e
     injection e with e1 e2
     subst e1 e2
     exact ⟨by omega,⟨.inr (.inr rfl),chk1_leaf hi hz⟩,rfl⟩
    ·cases e
  ·injection e with e
   injection e with e1 e2
   subst e1 e2
   refine ⟨by omega,⟨.inr (.inr rfl),chk1_leaf hi ?_⟩,rfl⟩
   show v &&& 0=0
   exact UInt8.and_zero
theorem pFld_eats:Eats pFld:=by
 intro s p r e
 rw [pFld] at e
 split at e
 ·rename_i hb
  have hl:=begins_le hb
  have h:=pTest_eats (by decide) e
  rw [List.length_drop] at h
  simp [fname] at hl
  exact ⟨by omega,h.2.1⟩
 split at e
 ·rename_i hb
  have hl:=begins_le hb
  have h:=pTest_eats (by decide) e
  rw [List.length_drop] at h
  simp [fname] at hl
  exact ⟨by omega,h.2.1⟩
 split at e
 ·rename_i hb
  have hl:=begins_le hb
  have h:=pTest_eats (by decide) e
  rw [List.length_drop] at h
  simp [fname] at hl
  exact ⟨by omega,h.2.1⟩
 ·cases e
theorem pNot_eats:∀k,Eats (pNot k)
 | 0=>by intro s p r e;cases e
 | k+1=>by
  have ih:=pNot_eats k
  intro s p r e
  rw [pNot] at e
  split at e
  ·rename_i hb
   have hl:=begins_le hb
   simp only [List.length_cons,List.length_nil] at hl
   cases hn:pNot k (s.drop 1) with
   | none=>rw [hn] at e;cases e
   | some q =>
    obtain ⟨y,t⟩:=q
    rw [hn] at e
    have h1:=ih _ _ _ hn
    rw [List.length_drop] at h1
    injection e with e
    injection e with e1 e2
    subst e1 e2
    simp only [flat,List.length_cons]
    exact ⟨by omega,rfl,h1.2⟩
  split at e
  ·rename_i hb
   have hl:=begins_le hb
   simp only [List.length_cons,List.length_nil] at hl
   injection e with e
   injection e with e1 e2
   subst e1 e2
   rw [List.length_drop,flat,List.length_singleton]
   exact ⟨by omega,.inl rfl,rfl⟩
  split at e
  ·rename_i hb
   have hl:=begins_le hb
   simp only [List.length_cons,List.length_nil] at hl
   injection e with e
   injection e with e1 e2
   subst e1 e2
   rw [List.length_drop,flat,List.length_singleton]
   exact ⟨by omega,.inr (.inl rfl),rfl⟩
  split at e
  ·rename_i hb
   have hl:=begins_le hb
   simp only [List.length_cons,List.length_nil] at hl
   cases hn:lstP (lstP (pNot k) 5 38) 6 124 (s.drop 1) with
   | none=>rw [hn] at e;cases e
   | some q =>
    obtain ⟨y,t⟩:=q
    rw [hn] at e
    have h1:=lstP_eats (lstP_eats ih (.inl rfl)) (.inr rfl) _ _ _ hn
    rw [List.length_drop] at h1
    simp only at e
    split at e
    ·injection e with e
     injection e with e1 e2
     subst e1 e2
     rw [List.length_drop]
     exact ⟨by omega,h1.2⟩
    ·cases e
  ·exact pFld_eats s p r e
theorem pAnd_eats (k:Nat):Eats (pAnd k):=lstP_eats (pNot_eats k) (.inl rfl)
theorem pOr_eats (k:Nat):Eats (pOr k):=lstP_eats (pAnd_eats k) (.inr rfl)
end
section
theorem digs_all (s:List UInt8):∀c,c ∈ digs s→isDig c=true:=by
 intro c hc
 induction s with
 | nil=>cases hc
 | cons x s ih =>
  rw [digs,List.takeWhile_cons] at hc
  split at hc
  ·rename_i h
   rcases List.mem_cons.1 hc with e | h2
   ·rw [e];exact h
   ·exact ih h2
  ·cases hc
theorem begins_cons {x c:UInt8} {l:List UInt8}:begins (x::l) [c]=(x==c):=by simp [begins]
theorem no_minus {d:List UInt8} (h:∀c,c ∈ d→isDig c=true):begins d [45]=false:=by
 cases d with
 | nil=>rfl
 | cons x d =>
  rw [begins_cons,beq_eq_false_iff_ne]
  intro e
  have:=h x (List.mem_cons_self ..)
  rw [e] at this
  exact absurd this (by decide)
theorem parseI_nn {d:List UInt8} (h:begins d [45]=false):0≤(parseI d).1:=by
 rw [parseI,if_neg (by rw [h];simp)]
 split
 ·exact Int.le_refl _
 ·split
  ·exact Int.natCast_nonneg _
  ·exact Int.le_refl _
def numV (o:Option UInt8):V:=.tup [.int .u8 (o.getD 0).toNat,.bool o.isSome]
attribute [local push_cast] fmN fm0 take_N toN1 slN_nil encN slN cfg0 gfp_lenN gfd_lenN lfl_lenN V.rn rns qn setPs rnOs Ob.rn List.set_cons_zero List.size_toArray
theorem pg76 (s:List UInt8) (hs:s.length≤4000000000):GCall Tryz.prog 215 [.ptr 0 0 0] [.cells 0 [.str s]] (numV (pnum s)) [.cells 0 [.str (dropD s)]]:=by
 have hl:=dropD_len s
 have ht:=(take_digs s).1
 have hd:=(take_digs s).2
 have hk:(s.length:Int)-(dropD s).length=((s.length-(dropD s).length:Nat):Int):=by omega
 have hk2:s.length-(dropD s).length≤s.length:=Nat.sub_le _ _
 generalize s.length-(dropD s).length=k at ht hd hk hk2
 have hpi:=pc82 (digs s) (by omega)
 have hnn:=parseI_nn (no_minus (digs_all s))
 have htl:min s.length (s.length-k)=s.length-k:=by omega
 have hdt:(dropD s).take (s.length-k)=dropD s:=List.take_of_length_le (by omega)
 have h83:=pc216 s
 unfold digs0 at h83
 rw [encIB] at hpi
 rw [pnum]
 generalize parseI (digs s)=pi at hpi hnn ⊢
 obtain ⟨n,ok⟩:=pi
 simp only at hpi hnn ⊢
 refine GC.walk tok mixed cfg0 Tryz.func215 rfl Tryz.call215 ?_;refine vms1 Tryz.ntmps215 ?_
 refine callG.pc1 h83 ?_
 simp (maxSteps:=2000000) -implicitDefEqProofs +contextual (disch:=first | assumption | omega | decide +kernel) only [push_cast,↓capI,seval,Nat.reduceLeDiff,Nat.reduceEqDiff,reduceCtorEq,↓reduceIte,hk,ht,hd,Nat.sub_zero]
 refine callO.pc hpi ?_
 refine vms3 ht hd hdt ?_
 cases ok
 ·refine vms3 ht hd hdt ?_
  refine endG.ret ([]) (by first | rfl | simp [fmN,fm0,fzs_ok,getO,setO,fzs,fz,fzH,Nat.beq,fmN,fm0,take_N,toN1,slN_nil,tt_3,tt_4,tt_5,tt_9,tt_54,tt_42,tt_25,tt_128,tt_104,tt_116,tt_131,tt_133,encN,slN,cfg0,get_flat_part lenN,get_flat_drop lenN,len_flat lenN,V.rn,rns,qn,setPs,rnOs,Ob.rn,List.set_cons_zero,List.size_toArray,numV]) (by simp) (by simp [fmN,fm0,fzs_ok,imp,lenOK_iff,List.take_of_length_le,evRes,getT,getO,setO,fzs,fz,fzH,Nat.beq,retV,Res.then,ldT,ldR,mkV,getV,fmN,fm0,take_N,toN1,slN_nil,tt_3,tt_4,tt_5,tt_9,tt_54,tt_42,tt_25,tt_128,tt_104,tt_116,tt_131,tt_133,encN,slN,cfg0,get_flat_part lenN,get_flat_drop lenN,len_flat lenN,V.rn,rns,qn,setPs,rnOs,Ob.rn,List.set_cons_zero,List.size_toArray,Tryz.f215,numV]) (by first | rfl | simp [fmN,fm0,numV]) (by first | rfl | simp [fmN,fm0,numV])
 by_cases hn:n≤255
 ·have hu:=u8_id (x:=n) (by omega)
  have hv:(UInt8.ofNat n.toNat).toNat=n.toNat:=by rw [UInt8.toNat_ofNat'];omega
  have hg:¬255<n:=by omega
  have hm:((n.toNat:Nat):Int)=n:=Int.toNat_of_nonneg hnn
  refine vms5 ht hd hdt hg hu ?_
  refine endG.ret ([]) (by first | rfl | simp [fmN,fm0,fzs_ok,getO,setO,fzs,fz,fzH,Nat.beq,fmN,fm0,take_N,toN1,slN_nil,tt_3,tt_4,tt_5,tt_9,tt_54,tt_42,tt_25,tt_128,tt_104,tt_116,tt_131,tt_133,encN,slN,cfg0,get_flat_part lenN,get_flat_drop lenN,len_flat lenN,V.rn,rns,qn,setPs,rnOs,Ob.rn,List.set_cons_zero,List.size_toArray,numV,hn,hv,hm,hu]) (by simp) (by simp [fmN,fm0,fzs_ok,imp,lenOK_iff,List.take_of_length_le,evRes,getT,getO,setO,fzs,fz,fzH,Nat.beq,retV,Res.then,ldT,ldR,mkV,getV,fmN,fm0,take_N,toN1,slN_nil,tt_3,tt_4,tt_5,tt_9,tt_54,tt_42,tt_25,tt_128,tt_104,tt_116,tt_131,tt_133,encN,slN,cfg0,get_flat_part lenN,get_flat_drop lenN,len_flat lenN,V.rn,rns,qn,setPs,rnOs,Ob.rn,List.set_cons_zero,List.size_toArray,Tryz.f215,numV,hn,hv,hm,hu]) (by first | rfl | simp [fmN,fm0,numV,hn,hv,hm,hu]) (by first | rfl | simp [fmN,fm0,numV,hn,hv,hm,hu])
 ·have hg:255<n:=by omega
  refine vms4 ht hd hdt hg ?_
  refine endG.ret ([]) (by first | rfl | simp [fmN,fm0,fzs_ok,getO,setO,fzs,fz,fzH,Nat.beq,fmN,fm0,take_N,toN1,slN_nil,tt_3,tt_4,tt_5,tt_9,tt_54,tt_42,tt_25,tt_128,tt_104,tt_116,tt_131,tt_133,encN,slN,cfg0,get_flat_part lenN,get_flat_drop lenN,len_flat lenN,V.rn,rns,qn,setPs,rnOs,Ob.rn,List.set_cons_zero,List.size_toArray,numV,hn]) (by simp) (by simp [fmN,fm0,fzs_ok,imp,lenOK_iff,List.take_of_length_le,evRes,getT,getO,setO,fzs,fz,fzH,Nat.beq,retV,Res.then,ldT,ldR,mkV,getV,fmN,fm0,take_N,toN1,slN_nil,tt_3,tt_4,tt_5,tt_9,tt_54,tt_42,tt_25,tt_128,tt_104,tt_116,tt_131,tt_133,encN,slN,cfg0,get_flat_part lenN,get_flat_drop lenN,len_flat lenN,V.rn,rns,qn,setPs,rnOs,Ob.rn,List.set_cons_zero,List.size_toArray,Tryz.f215,numV,hn]) (by first | rfl | simp [fmN,fm0,numV,hn]) (by first | rfl | simp [fmN,fm0,numV,hn])
def Ans (f:Nat) (xs:List V) (s:List UInt8) (R:PR):Prop :=
 ∃(l:List Nd) (r:List UInt8),GCall Tryz.prog f (.ptr 0 0 0::xs) [.cells 0 [.str s]] (.tup [slM l,.bool R.isSome]) [.cells 0 [.str r]]∧l.length+r.length≤s.length∧∀p t,R=some (p,t)→l=flat p∧r=t
theorem and255 (v:UInt8):ibits BinOp.andNot IntKind.u8 v.toNat 255=0:=by
 have h:=andNot8 v 255
 rw [show ((255:UInt8).toNat:Int)=255 from rfl] at h
 rw [h,zero8]
 show v &&& 0=0
 exact UInt8.and_zero
theorem pg68 (i:Int) (s:List UInt8) (hs:s.length≤100000):∃(l:List Nd) (r:List UInt8),GCall Tryz.prog 193 [.ptr 0 0 0,.int .i64 i] [.cells 0 [.str s]] (.tup [slM l,.bool (pTest i s).isSome]) [.cells 0 [.str r]]∧l.length≤1∧r.length≤s.length∧∀p t,pTest i s=some (p,t)→l=flat p∧r=t:=by
 have h1:=dropD_len s
 have h2:=dropD_len ((dropD s).drop 1)
 rw [List.length_drop] at h2
 have g1:=pg76 s (by omega)
 have g2:=pc166 (dropD s) [47]
 have g3:=pg76 ((dropD s).drop 1) (by rw [List.length_drop];omega)
 rw [pTest]
 cases hv:pnum s with
 | none =>
  rw [hv] at g1
  refine ⟨[⟨3,i,0,255⟩],dropD s,?_,by simp,by omega,fun p t e=>by cases e⟩
  refine GC.walk tok mixed cfg0 Tryz.func193 rfl Tryz.call193 ?_;refine vms1 Tryz.ntmps193 ?_
  refine callO.part0 [0] g1 (by decide) rfl rfl ⟨by rfl,by simp,trivial⟩ ?_
  simp (maxSteps:=2000000) -implicitDefEqProofs +contextual (disch:=first | assumption | omega | decide +kernel) only [push_cast,↓capI,seval,Nat.reduceLeDiff,Nat.reduceEqDiff,reduceCtorEq,↓reduceIte,numV]
  refine endG.gn (Gn.freeze (id:=1) rfl) ?_;refine endG.ret ([.dead]) (by first | rfl | simp [fmN,fm0,fzs_ok,getO,setO,fzs,fz,fzH,Nat.beq,fmN,fm0,take_N,toN1,slN_nil,tt_3,tt_4,tt_5,tt_9,tt_54,tt_42,tt_25,tt_128,tt_104,tt_116,tt_131,tt_133,encN,slN,cfg0,get_flat_part lenN,get_flat_drop lenN,len_flat lenN,V.rn,rns,qn,setPs,rnOs,Ob.rn,List.set_cons_zero,List.size_toArray,slM,slN,encN]) (by simp) (by simp [fmN,fm0,fzs_ok,imp,lenOK_iff,List.take_of_length_le,evRes,getT,getO,setO,fzs,fz,fzH,Nat.beq,retV,Res.then,ldT,ldR,mkV,getV,fmN,fm0,take_N,toN1,slN_nil,tt_3,tt_4,tt_5,tt_9,tt_54,tt_42,tt_25,tt_128,tt_104,tt_116,tt_131,tt_133,encN,slN,cfg0,get_flat_part lenN,get_flat_drop lenN,len_flat lenN,V.rn,rns,qn,setPs,rnOs,Ob.rn,List.set_cons_zero,List.size_toArray,Tryz.f193,slM,slN,encN]) (by first | rfl | simp [fmN,fm0,slM,slN,encN]) (by first | rfl | simp [fmN,fm0,slM,slN,encN])
 | some v =>
  rw [hv] at g1
  simp only
  cases hb:begins (dropD s) [47]
  ·have e2:cutP (dropD s) [47]=(dropD s,false):=by simp [cutP,hb]
   rw [hb,e2] at g2
   rw [if_neg (by simp)]
   have hz:=and255 v
   refine ⟨[⟨3,i,v,255⟩],dropD s,?_,by simp,by omega,fun p t e=>by cases e;exact ⟨rfl,rfl⟩⟩
   refine GC.walk tok mixed cfg0 Tryz.func193 rfl Tryz.call193 ?_;refine vms1 Tryz.ntmps193 ?_
   refine callO.part0 [0] g1 (by decide) rfl rfl ⟨by rfl,by simp,trivial⟩ ?_
   simp (maxSteps:=2000000) -implicitDefEqProofs +contextual (disch:=first | assumption | omega | decide +kernel) only [push_cast,↓capI,seval,Nat.reduceLeDiff,Nat.reduceEqDiff,reduceCtorEq,↓reduceIte,numV]
   refine callO.part0 [0] g2 (by decide) rfl rfl ⟨by rfl,by simp,trivial⟩ ?_
   simp (maxSteps:=2000000) -implicitDefEqProofs +contextual (disch:=first | assumption | omega | decide +kernel) only [push_cast,↓capI,seval,Nat.reduceLeDiff,Nat.reduceEqDiff,reduceCtorEq,↓reduceIte,numV,hz]
   refine endG.gn (Gn.freeze (id:=1) rfl) ?_;refine endG.ret ([.dead]) (by first | rfl | simp [fmN,fm0,fzs_ok,getO,setO,fzs,fz,fzH,Nat.beq,fmN,fm0,take_N,toN1,slN_nil,tt_3,tt_4,tt_5,tt_9,tt_54,tt_42,tt_25,tt_128,tt_104,tt_116,tt_131,tt_133,encN,slN,cfg0,get_flat_part lenN,get_flat_drop lenN,len_flat lenN,V.rn,rns,qn,setPs,rnOs,Ob.rn,List.set_cons_zero,List.size_toArray,slM,slN,encN]) (by simp) (by simp [fmN,fm0,fzs_ok,imp,lenOK_iff,List.take_of_length_le,evRes,getT,getO,setO,fzs,fz,fzH,Nat.beq,retV,Res.then,ldT,ldR,mkV,getV,fmN,fm0,take_N,toN1,slN_nil,tt_3,tt_4,tt_5,tt_9,tt_54,tt_42,tt_25,tt_128,tt_104,tt_116,tt_131,tt_133,encN,slN,cfg0,get_flat_part lenN,get_flat_drop lenN,len_flat lenN,V.rn,rns,qn,setPs,rnOs,Ob.rn,List.set_cons_zero,List.size_toArray,Tryz.f193,slM,slN,encN]) (by first | rfl | simp [fmN,fm0,slM,slN,encN]) (by first | rfl | simp [fmN,fm0,slM,slN,encN])
  ·have e2:cutP (dropD s) [47]=((dropD s).drop 1,true):=by simp [cutP,hb]
   rw [hb,e2] at g2
   rw [if_pos rfl]
   cases hm:pnum ((dropD s).drop 1) with
   | none =>
    rw [hm] at g3
    refine ⟨[⟨3,i,v,0⟩],dropD ((dropD s).drop 1),?_,by simp,by omega,fun p t e=>by cases e⟩
    refine GC.walk tok mixed cfg0 Tryz.func193 rfl Tryz.call193 ?_;refine vms1 Tryz.ntmps193 ?_
    refine callO.part0 [0] g1 (by decide) rfl rfl ⟨by rfl,by simp,trivial⟩ ?_
    simp (maxSteps:=2000000) -implicitDefEqProofs +contextual (disch:=first | assumption | omega | decide +kernel) only [push_cast,↓capI,seval,Nat.reduceLeDiff,Nat.reduceEqDiff,reduceCtorEq,↓reduceIte,numV]
    refine callO.part0 [0] g2 (by decide) rfl rfl ⟨by rfl,by simp,trivial⟩ ?_
    simp (maxSteps:=2000000) -implicitDefEqProofs +contextual (disch:=first | assumption | omega | decide +kernel) only [push_cast,↓capI,seval,Nat.reduceLeDiff,Nat.reduceEqDiff,reduceCtorEq,↓reduceIte,numV]
    refine callO.part0 [0] g3 (by decide) rfl rfl ⟨by rfl,by simp,trivial⟩ ?_
    simp (maxSteps:=2000000) -implicitDefEqProofs +contextual (disch:=first | assumption | omega | decide +kernel) only [push_cast,↓capI,seval,Nat.reduceLeDiff,Nat.reduceEqDiff,reduceCtorEq,↓reduceIte,numV]
    refine endG.gn (Gn.freeze (id:=1) rfl) ?_;refine endG.ret ([.dead]) (by first | rfl | simp [fmN,fm0,fzs_ok,getO,setO,fzs,fz,fzH,Nat.beq,fmN,fm0,take_N,toN1,slN_nil,tt_3,tt_4,tt_5,tt_9,tt_54,tt_42,tt_25,tt_128,tt_104,tt_116,tt_131,tt_133,encN,slN,cfg0,get_flat_part lenN,get_flat_drop lenN,len_flat lenN,V.rn,rns,qn,setPs,rnOs,Ob.rn,List.set_cons_zero,List.size_toArray,slM,slN,encN]) (by simp) (by simp [fmN,fm0,fzs_ok,imp,lenOK_iff,List.take_of_length_le,evRes,getT,getO,setO,fzs,fz,fzH,Nat.beq,retV,Res.then,ldT,ldR,mkV,getV,fmN,fm0,take_N,toN1,slN_nil,tt_3,tt_4,tt_5,tt_9,tt_54,tt_42,tt_25,tt_128,tt_104,tt_116,tt_131,tt_133,encN,slN,cfg0,get_flat_part lenN,get_flat_drop lenN,len_flat lenN,V.rn,rns,qn,setPs,rnOs,Ob.rn,List.set_cons_zero,List.size_toArray,Tryz.f193,slM,slN,encN]) (by first | rfl | simp [fmN,fm0,slM,slN,encN]) (by first | rfl | simp [fmN,fm0,slM,slN,encN])
   | some m =>
    rw [hm] at g3
    simp only
    have hz:(ibits BinOp.andNot IntKind.u8 v.toNat m.toNat=0)=(v &&& ~~~ m=0):=by rw [andNot8,zero8]
    by_cases h0:v &&& ~~~ m=0
    ·rw [if_pos h0]
     refine ⟨[⟨3,i,v,m⟩],dropD ((dropD s).drop 1),?_,by simp,by omega,fun p t e=>by cases e;exact ⟨rfl,rfl⟩⟩
     refine GC.walk tok mixed cfg0 Tryz.func193 rfl Tryz.call193 ?_;refine vms1 Tryz.ntmps193 ?_
     refine callO.part0 [0] g1 (by decide) rfl rfl ⟨by rfl,by simp,trivial⟩ ?_
     simp (maxSteps:=2000000) -implicitDefEqProofs +contextual (disch:=first | assumption | omega | decide +kernel) only [push_cast,↓capI,seval,Nat.reduceLeDiff,Nat.reduceEqDiff,reduceCtorEq,↓reduceIte,numV]
     refine callO.part0 [0] g2 (by decide) rfl rfl ⟨by rfl,by simp,trivial⟩ ?_
     simp (maxSteps:=2000000) -implicitDefEqProofs +contextual (disch:=first | assumption | omega | decide +kernel) only [push_cast,↓capI,seval,Nat.reduceLeDiff,Nat.reduceEqDiff,reduceCtorEq,↓reduceIte,numV]
     refine callO.part0 [0] g3 (by decide) rfl rfl ⟨by rfl,by simp,trivial⟩ ?_
     simp (maxSteps:=2000000) -implicitDefEqProofs +contextual (disch:=first | assumption | omega | decide +kernel) only [push_cast,↓capI,seval,Nat.reduceLeDiff,Nat.reduceEqDiff,reduceCtorEq,↓reduceIte,numV,hz,h0]
     refine endG.gn (Gn.freeze (id:=1) rfl) ?_;refine endG.ret ([.dead]) (by first | rfl | simp [fmN,fm0,fzs_ok,getO,setO,fzs,fz,fzH,Nat.beq,fmN,fm0,take_N,toN1,slN_nil,tt_3,tt_4,tt_5,tt_9,tt_54,tt_42,tt_25,tt_128,tt_104,tt_116,tt_131,tt_133,encN,slN,cfg0,get_flat_part lenN,get_flat_drop lenN,len_flat lenN,V.rn,rns,qn,setPs,rnOs,Ob.rn,List.set_cons_zero,List.size_toArray,slM,slN,encN,hz,h0]) (by simp) (by simp [fmN,fm0,fzs_ok,imp,lenOK_iff,List.take_of_length_le,evRes,getT,getO,setO,fzs,fz,fzH,Nat.beq,retV,Res.then,ldT,ldR,mkV,getV,fmN,fm0,take_N,toN1,slN_nil,tt_3,tt_4,tt_5,tt_9,tt_54,tt_42,tt_25,tt_128,tt_104,tt_116,tt_131,tt_133,encN,slN,cfg0,get_flat_part lenN,get_flat_drop lenN,len_flat lenN,V.rn,rns,qn,setPs,rnOs,Ob.rn,List.set_cons_zero,List.size_toArray,Tryz.f193,slM,slN,encN,hz,h0]) (by first | rfl | simp [fmN,fm0,slM,slN,encN,hz,h0]) (by first | rfl | simp [fmN,fm0,slM,slN,encN,hz,h0])
    ·rw [if_neg h0]
     refine ⟨[⟨3,i,v,m⟩],dropD ((dropD s).drop 1),?_,by simp,by omega,fun p t e=>by cases e⟩
     refine GC.walk tok mixed cfg0 Tryz.func193 rfl Tryz.call193 ?_;refine vms1 Tryz.ntmps193 ?_
     refine callO.part0 [0] g1 (by decide) rfl rfl ⟨by rfl,by simp,trivial⟩ ?_
     simp (maxSteps:=2000000) -implicitDefEqProofs +contextual (disch:=first | assumption | omega | decide +kernel) only [push_cast,↓capI,seval,Nat.reduceLeDiff,Nat.reduceEqDiff,reduceCtorEq,↓reduceIte,numV]
     refine callO.part0 [0] g2 (by decide) rfl rfl ⟨by rfl,by simp,trivial⟩ ?_
     simp (maxSteps:=2000000) -implicitDefEqProofs +contextual (disch:=first | assumption | omega | decide +kernel) only [push_cast,↓capI,seval,Nat.reduceLeDiff,Nat.reduceEqDiff,reduceCtorEq,↓reduceIte,numV]
     refine callO.part0 [0] g3 (by decide) rfl rfl ⟨by rfl,by simp,trivial⟩ ?_
     simp (maxSteps:=2000000) -implicitDefEqProofs +contextual (disch:=first | assumption | omega | decide +kernel) only [push_cast,↓capI,seval,Nat.reduceLeDiff,Nat.reduceEqDiff,reduceCtorEq,↓reduceIte,numV,hz,h0]
     refine endG.gn (Gn.freeze (id:=1) rfl) ?_;refine endG.ret ([.dead]) (by first | rfl | simp [fmN,fm0,fzs_ok,getO,setO,fzs,fz,fzH,Nat.beq,fmN,fm0,take_N,toN1,slN_nil,tt_3,tt_4,tt_5,tt_9,tt_54,tt_42,tt_25,tt_128,tt_104,tt_116,tt_131,tt_133,encN,slN,cfg0,get_flat_part lenN,get_flat_drop lenN,len_flat lenN,V.rn,rns,qn,setPs,rnOs,Ob.rn,List.set_cons_zero,List.size_toArray,slM,slN,encN,hz,h0]) (by simp) (by simp [fmN,fm0,fzs_ok,imp,lenOK_iff,List.take_of_length_le,evRes,getT,getO,setO,fzs,fz,fzH,Nat.beq,retV,Res.then,ldT,ldR,mkV,getV,fmN,fm0,take_N,toN1,slN_nil,tt_3,tt_4,tt_5,tt_9,tt_54,tt_42,tt_25,tt_128,tt_104,tt_116,tt_131,tt_133,encN,slN,cfg0,get_flat_part lenN,get_flat_drop lenN,len_flat lenN,V.rn,rns,qn,setPs,rnOs,Ob.rn,List.set_cons_zero,List.size_toArray,Tryz.f193,slM,slN,encN,hz,h0]) (by first | rfl | simp [fmN,fm0,slM,slN,encN,hz,h0]) (by first | rfl | simp [fmN,fm0,slM,slN,encN,hz,h0])
end
section
theorem st_M {l:List Nd}:(slM l).st=slM l:=by unfold slM;split<;>rfl
theorem os_M {g:Bool} {l:List Nd} {xs:List V} {p:Prop}:optSide g (slM l::xs) p=optSide g xs p:=by unfold slM;split<;>rfl
theorem rn_slM {q:Nat→Nat} {l:List Nd}:(slM l).rn q=slM l:=by
 unfold slM
 split
 ·rfl
 ·rw [slN,V.rn,rns_ok (bel_Ns l)]
theorem laxs_N:∀l:List Nd,laxs (l.flatMap encN)=l.flatMap encN
 | []=>rfl
 | x::l=>by rw [List.flatMap_cons,laxs_append,laxs_N l];rfl
theorem lax_M (l:List Nd):lax (slM l)=slN l:=by
 unfold slM
 split
 ·rename_i h
  rw [h]
  rfl
 ·rw [slN,Go.Vm.lax,laxs_N]
theorem pc38m (o:Int) (a b:List Nd) (ha:a.length≤4000000) (hb:b.length≤4000000):PC Tryz.prog 167 [.int .i64 o,slM a,slM b] (slM (jn o a b)):=by
 have h:=pc167 o a b ha hb
 rw [slM_cons (l:=jn o a b) (List.cons_ne_nil _ _)]
 refine PC.lax ?_
 rw [laxs,laxs,laxs,lax_M,lax_M]
 exact h
theorem acc_no {s p:List UInt8} (h:begins s p=false):GCall Tryz.prog 166 [.ptr 0 0 0,.str p] [.cells 0 [.str s]] (.bool false) [.cells 0 [.str s]]:=by
 have:=pc166 s p
 rw [h,cutP,if_neg (by rw [h];simp)] at this
 exact this
theorem acc_yes {s p:List UInt8} (h:begins s p=true):GCall Tryz.prog 166 [.ptr 0 0 0,.str p] [.cells 0 [.str s]] (.bool true) [.cells 0 [.str (s.drop p.length)]]:=by
 have:=pc166 s p
 rw [h,cutP,if_pos h] at this
 exact this
def lstF (nx:List UInt8→PR) (fl:List UInt8→List Nd) (fr:List UInt8→List UInt8) (o:Int) (c:UInt8):Nat→List Nd→Bool→List UInt8→List Nd × List UInt8 × Bool
 | 0,l,ok,r=>(l,r,ok)
 | k+1,l,ok,r=>if ok=true∧begins r [c]=true then lstF nx fl fr o c k (jn o l (fl (r.drop 1))) ((nx (r.drop 1)).isSome) (fr (r.drop 1)) else (l,r,ok)
theorem lstF_law {nx:List UInt8→PR} {fl:List UInt8→List Nd} {fr:List UInt8→List UInt8} {o:Int} {c:UInt8} {n:Nat}
  (h:∀s,s.length<n→(fl s).length+(fr s).length≤s.length∧∀p t,nx s=some (p,t)→fl s=flat p∧fr s=t) :
  ∀(k:Nat) (l:List Nd) (x:PR) (r:List UInt8),(∀p t,x=some (p,t)→l=flat p∧r=t)→r.length<k→r.length≤n →
  (lstF nx fl fr o c k l x.isSome r).1.length+(lstF nx fl fr o c k l x.isSome r).2.1.length≤l.length+r.length ∧
  (lstF nx fl fr o c k l x.isSome r).2.2=(x.bind fun q=>lst nx o c k q.1 q.2).isSome ∧
  ∀p t,(x.bind fun q=>lst nx o c k q.1 q.2)=some (p,t)→(lstF nx fl fr o c k l x.isSome r).1=flat p∧(lstF nx fl fr o c k l x.isSome r).2.1=t
 | 0,l,x,r,_,hk,_=>absurd hk (Nat.not_lt_zero _)
 | k+1,l,x,r,hx,hk,hn=>by
  cases x with
  | none =>
   rw [lstF,if_neg (by simp)]
   exact ⟨Nat.le_refl _,rfl,fun p t e=>by cases e⟩
  | some q =>
   obtain ⟨p,t⟩:=q
   obtain ⟨rfl,rfl⟩:=hx p t rfl
   rw [lstF]
   show _∧_=(lst nx o c (k+1) p r).isSome∧∀p' t',lst nx o c (k+1) p r=some (p',t')→_
   rw [lst]
   by_cases hb:begins r [c]=true
   ·have hl:=begins_le hb
    simp only [List.length_cons,List.length_nil] at hl
    have hd:(r.drop 1).length=r.length-1:=List.length_drop
    obtain ⟨h1,h2⟩:=h (r.drop 1) (by omega)
    rw [if_pos ⟨rfl,hb⟩,if_pos hb]
    cases hy:nx (r.drop 1) with
    | none =>
     have i:=lstF_law (o:=o) (c:=c) h k (jn o (flat p) (fl (r.drop 1))) none (fr (r.drop 1)) (fun p t e=>by cases e) (by omega) (by omega)
     rw [jn_len] at i
     exact ⟨by omega,i.2.1,fun p t e=>by cases e⟩
    | some z =>
     obtain ⟨y,u⟩:=z
     obtain ⟨e1,e2⟩:=h2 y u hy
     have i:=lstF_law (o:=o) (c:=c) h k (jn o (flat p) (fl (r.drop 1))) (some (.bin (op0 o) p y,u)) (fr (r.drop 1)) (fun p t e=>by cases e;exact ⟨by rw [e1];rfl,e2⟩) (by omega) (by omega)
     rw [jn_len] at i
     refine ⟨Nat.le_trans i.1 (by omega),i.2.1,i.2.2⟩
   ·rw [if_neg (fun g=>hb g.2),if_neg hb]
    exact ⟨Nat.le_refl _,rfl,fun p t e=>by cases e;exact ⟨rfl,rfl⟩⟩
attribute [local push_cast] fmN fm0 take_N toN1 slN_nil encN slN cfg0 gfp_lenN gfd_lenN lfl_lenN V.rn rns qn setPs rnOs Ob.rn List.set_cons_zero List.size_toArray st_M os_M rn_slM
theorem pg54 (F:Nat) (nx:List UInt8→PR) (o:Int) (c:UInt8) (n:Nat) (hn:n≤100001) (h:∀s,s.length<n→Ans F [] s (nx s)) (s:List UInt8) (hs:s.length<n) :
  Ans 131 [.int .i64 o,.str [c],.fn (.func F) [.ptr 0 0 0] []] s (lstP nx o c s):=by
 have hc:∃(fl:List UInt8→List Nd) (fr:List UInt8→List UInt8),∀s,s.length<n→GCall Tryz.prog F [.ptr 0 0 0] [.cells 0 [.str s]] (.tup [slM (fl s),.bool (nx s).isSome]) [.cells 0 [.str (fr s)]] ∧
   (fl s).length+(fr s).length≤s.length∧∀p t,nx s=some (p,t)→fl s=flat p∧fr s=t:=by
  refine ⟨fun s=>if h1:s.length<n then (h s h1).choose else [],fun s=>if h1:s.length<n then (h s h1).choose_spec.choose else [],fun s h1=>?_⟩
  simp only [dif_pos h1]
  exact (h s h1).choose_spec.choose_spec
 obtain ⟨fl,fr,hf⟩:=hc
 have hlaw:=fun l x r=>lstF_law (nx:=nx) (fl:=fl) (fr:=fr) (o:=o) (c:=c) (n:=n) (fun s hs=>(hf s hs).2) ((fr s).length+1) l x r
 have h0:=hf s hs
 have law:=hlaw (fl s) (nx s) (fr s) h0.2.2 (Nat.lt_succ_self _) (by omega)
 have eP:(nx s).bind (fun q=>lst nx o c ((fr s).length+1) q.1 q.2)=lstP nx o c s:=by
  rw [lstP]
  cases hx:nx s with
  | none=>rfl
  | some q =>
   obtain ⟨p,t⟩:=q
   rw [(h0.2.2 p t hx).2]
   rfl
 rw [eP] at law
 generalize hR:lstF nx fl fr o c ((fr s).length+1) (fl s) (nx s).isSome (fr s)=R at law
 obtain ⟨L,U,OK⟩:=R
 simp only at law
 refine ⟨L,U,?_,by omega,law.2.2⟩
 rw [←law.2.1]
 have g0:=h0.1
 refine GC.walk tok mixed cfg0 Tryz.func131 rfl Tryz.call131 ?_;refine vms1 Tryz.ntmps131 ?_
 refine callO.part0 [0] g0 (by decide) rfl rfl ⟨by rfl,by simp,trivial⟩ ?_
 refine vms0 ?_
 refine T.lp tok mixed cfg0 (fun ((l,ok,r):List Nd × Bool × List UInt8)=>kp 4 (dd 6 (sv (slM l) (sv (.bool ok) (dd 25 (nl)))))) (fun H0 ((l,ok,r):List Nd × Bool × List UInt8)=>[.cells 0 [.str r]]) (fun ((l,ok,r):List Nd × Bool × List UInt8)=>l.length+r.length≤s.length∧∃m,r.length<m∧lstF nx fl fr o c m l ok r=(L,U,OK)) (fun ((l,ok,r):List Nd × Bool × List UInt8)=>r.length) ((fl s,(nx s).isSome,fr s)) ?_ ?_ ?_
 ·exact ⟨h0.2.1,_,Nat.lt_succ_self _,hR⟩
 ·exact Gn.canon (J:=[]) (by first | rfl | (simp [List.append_nil];done) | (simp [List.append_nil];rfl)) (by simp [wk,slN,putT,kp,dd,sv,nl]) (by simp [List.length_append]) (by simp [fmN,fm0,kp,dd,sv,nl]) (by simp [fmN,fm0])
 rintro ⟨l,ok,r⟩ ⟨hl,m,hm,he⟩
 cases m with
 | zero=>omega
 | succ m =>
 rw [lstF] at he
 cases ok
 ·rw [if_neg (by simp)] at he
  cases he
  refine vms0 ?_
  refine endG.ret ([]) (by first | rfl | simp [fmN,fm0,fzs_ok,getO,setO,fzs,fz,fzH,Nat.beq,fmN,fm0,take_N,toN1,slN_nil,tt_3,tt_4,tt_5,tt_9,tt_54,tt_42,tt_25,tt_128,tt_104,tt_116,tt_131,tt_133,tt_135,encN,slN,cfg0,get_flat_part lenN,get_flat_drop lenN,len_flat lenN,V.rn,rns,qn,setPs,rnOs,Ob.rn,List.set_cons_zero,List.size_toArray,st_M,os_M,rn_slM]) (by simp) (by simp [fmN,fm0,fzs_ok,imp,lenOK_iff,List.take_of_length_le,evRes,getT,getO,setO,fzs,fz,fzH,Nat.beq,retV,Res.then,ldT,ldR,mkV,getV,fmN,fm0,take_N,toN1,slN_nil,tt_3,tt_4,tt_5,tt_9,tt_54,tt_42,tt_25,tt_128,tt_104,tt_116,tt_131,tt_133,tt_135,encN,slN,cfg0,get_flat_part lenN,get_flat_drop lenN,len_flat lenN,V.rn,rns,qn,setPs,rnOs,Ob.rn,List.set_cons_zero,List.size_toArray,st_M,os_M,rn_slM,Tryz.f131]) (by first | rfl | simp [fmN,fm0]) (by first | rfl | simp [fmN,fm0])
 cases hb:begins r [c]
 ·rw [if_neg (by rw [hb];simp)] at he
  cases he
  refine vms0 ?_
  refine callO.part0 [0] (acc_no hb) (by decide) rfl rfl ⟨by rfl,by simp,trivial⟩ ?_
  refine vms0 ?_
  refine endG.ret ([]) (by first | rfl | simp [fmN,fm0,fzs_ok,getO,setO,fzs,fz,fzH,Nat.beq,fmN,fm0,take_N,toN1,slN_nil,tt_3,tt_4,tt_5,tt_9,tt_54,tt_42,tt_25,tt_128,tt_104,tt_116,tt_131,tt_133,tt_135,encN,slN,cfg0,get_flat_part lenN,get_flat_drop lenN,len_flat lenN,V.rn,rns,qn,setPs,rnOs,Ob.rn,List.set_cons_zero,List.size_toArray,st_M,os_M,rn_slM]) (by simp) (by simp [fmN,fm0,fzs_ok,imp,lenOK_iff,List.take_of_length_le,evRes,getT,getO,setO,fzs,fz,fzH,Nat.beq,retV,Res.then,ldT,ldR,mkV,getV,fmN,fm0,take_N,toN1,slN_nil,tt_3,tt_4,tt_5,tt_9,tt_54,tt_42,tt_25,tt_128,tt_104,tt_116,tt_131,tt_133,tt_135,encN,slN,cfg0,get_flat_part lenN,get_flat_drop lenN,len_flat lenN,V.rn,rns,qn,setPs,rnOs,Ob.rn,List.set_cons_zero,List.size_toArray,st_M,os_M,rn_slM,Tryz.f131]) (by first | rfl | simp [fmN,fm0]) (by first | rfl | simp [fmN,fm0])
 ·have hbl:=begins_le hb
  simp only [List.length_cons,List.length_nil] at hbl
  have hd:(r.drop 1).length=r.length-1:=List.length_drop
  have hy:=hf (r.drop 1) (by omega)
  rw [if_pos ⟨rfl,hb⟩] at he
  refine vms0 ?_
  refine callO.part0 [0] (acc_yes hb) (by decide) rfl rfl ⟨by rfl,by simp,trivial⟩ ?_
  simp (maxSteps:=2000000) -implicitDefEqProofs +contextual (disch:=first | assumption | omega | decide +kernel) only [push_cast,↓capI,seval,Nat.reduceLeDiff,Nat.reduceEqDiff,reduceCtorEq,↓reduceIte,List.length_cons,List.length_nil]
  refine callO.part0 [0] hy.1 (by decide) rfl rfl ⟨by rfl,by simp,trivial⟩ ?_
  refine vms0 ?_
  refine callO.pc (pc38m o l (fl (r.drop 1)) (by omega) (by omega)) ?_
  refine vms0 ?_
  refine ⟨(jn o l (fl (r.drop 1)),(nx (r.drop 1)).isSome,fr (r.drop 1)),⟨by (try simp only [jn_len]);omega,m,by (try simp only);omega,he⟩,by (try simp only);omega,?_⟩;exact Gn.canon (by first | rfl | (simp [List.append_nil];rfl)) (by simp [wk,slN]) (by simp [List.length_append]) (by simp [fmN,fm0]) (by simp [fmN,fm0])
theorem slM_nil:slM []=.sl true [] 0:=rfl
theorem pgAnd {nx:List UInt8→PR} {n:Nat} (hn:n≤100001) (h:∀s,s.length<n→Ans 168 [] s (nx s)) (s:List UInt8) (hs:s.length<n):Ans 132 [] s (lstP nx 5 38 s):=by
 obtain ⟨l,r,g,hl,hr⟩:=pg54 168 nx 5 38 n hn h s hs
 refine ⟨l,r,?_,hl,hr⟩
 refine GC.walk tok mixed cfg0 Tryz.func132 rfl Tryz.call132 ?_;refine vms1 Tryz.ntmps132 ?_
 refine callO.part0 [0] g (by decide) rfl rfl ⟨by rfl,by simp,trivial⟩ ?_
 refine vms0 ?_
 refine endG.ret ([]) (by first | rfl | simp [fmN,fm0,fzs_ok,getO,setO,fzs,fz,fzH,Nat.beq,fmN,fm0,take_N,toN1,slN_nil,tt_3,tt_4,tt_5,tt_9,tt_54,tt_42,tt_25,tt_128,tt_104,tt_116,tt_131,tt_133,tt_135,encN,slN,cfg0,get_flat_part lenN,get_flat_drop lenN,len_flat lenN,V.rn,rns,qn,setPs,rnOs,Ob.rn,List.set_cons_zero,List.size_toArray,st_M,os_M,rn_slM]) (by simp) (by simp [fmN,fm0,fzs_ok,imp,lenOK_iff,List.take_of_length_le,evRes,getT,getO,setO,fzs,fz,fzH,Nat.beq,retV,Res.then,ldT,ldR,mkV,getV,fmN,fm0,take_N,toN1,slN_nil,tt_3,tt_4,tt_5,tt_9,tt_54,tt_42,tt_25,tt_128,tt_104,tt_116,tt_131,tt_133,tt_135,encN,slN,cfg0,get_flat_part lenN,get_flat_drop lenN,len_flat lenN,V.rn,rns,qn,setPs,rnOs,Ob.rn,List.set_cons_zero,List.size_toArray,st_M,os_M,rn_slM,Tryz.f132]) (by first | rfl | simp [fmN,fm0]) (by first | rfl | simp [fmN,fm0])
theorem pgOr {nx:List UInt8→PR} {n:Nat} (hn:n≤100001) (h:∀s,s.length<n→Ans 132 [] s (nx s)) (s:List UInt8) (hs:s.length<n):Ans 83 [] s (lstP nx 6 124 s):=by
 obtain ⟨l,r,g,hl,hr⟩:=pg54 132 nx 6 124 n hn h s hs
 refine ⟨l,r,?_,hl,hr⟩
 refine GC.walk tok mixed cfg0 Tryz.func83 rfl Tryz.call83 ?_;refine vms1 Tryz.ntmps83 ?_
 refine callO.part0 [0] g (by decide) rfl rfl ⟨by rfl,by simp,trivial⟩ ?_
 refine vms0 ?_
 refine endG.ret ([]) (by first | rfl | simp [fmN,fm0,fzs_ok,getO,setO,fzs,fz,fzH,Nat.beq,fmN,fm0,take_N,toN1,slN_nil,tt_3,tt_4,tt_5,tt_9,tt_54,tt_42,tt_25,tt_128,tt_104,tt_116,tt_131,tt_133,tt_135,encN,slN,cfg0,get_flat_part lenN,get_flat_drop lenN,len_flat lenN,V.rn,rns,qn,setPs,rnOs,Ob.rn,List.set_cons_zero,List.size_toArray,st_M,os_M,rn_slM]) (by simp) (by simp [fmN,fm0,fzs_ok,imp,lenOK_iff,List.take_of_length_le,evRes,getT,getO,setO,fzs,fz,fzH,Nat.beq,retV,Res.then,ldT,ldR,mkV,getV,fmN,fm0,take_N,toN1,slN_nil,tt_3,tt_4,tt_5,tt_9,tt_54,tt_42,tt_25,tt_128,tt_104,tt_116,tt_131,tt_133,tt_135,encN,slN,cfg0,get_flat_part lenN,get_flat_drop lenN,len_flat lenN,V.rn,rns,qn,setPs,rnOs,Ob.rn,List.set_cons_zero,List.size_toArray,st_M,os_M,rn_slM,Tryz.f83]) (by first | rfl | simp [fmN,fm0]) (by first | rfl | simp [fmN,fm0])
end
section
def noHead (s:List UInt8):Prop:=begins s [33]=false∧begins s [116,114,117,101]=false∧begins s [102,97,108,115,101]=false∧begins s [40]=false
theorem fname_len4 (i:Int):(fname i++[61]).length≤5:=by
 unfold fname
 split
 ·decide
 split<;>decide
attribute [local push_cast] fmN fm0 take_N toN1 slN_nil encN slN cfg0 gfp_lenN gfd_lenN lfl_lenN V.rn rns qn setPs rnOs Ob.rn List.set_cons_zero List.size_toArray st_M os_M rn_slM
theorem pg62f (s:List UInt8) (hs:s.length≤100000) (hh:noHead s) (i0:Nat) (hi:i0≤2) (hb:∀j:Nat,j<i0→begins s (fname j++[61])=false) (h:begins s (fname i0++[61])=true)
  (l:List Nd) (r:List UInt8) (ok:Bool) (g:GCall Tryz.prog 193 [.ptr 0 0 0,.int .i64 i0] [.cells 0 [.str (s.drop ((fname i0).length+1))]] (.tup [slM l,.bool ok]) [.cells 0 [.str r]]) :
  GCall Tryz.prog 168 [.ptr 0 0 0] [.cells 0 [.str s]] (.tup [slM l,.bool ok]) [.cells 0 [.str r]]:=by
 obtain ⟨h1,h2,h3,h4⟩:=hh
 refine GC.walk tok mixed cfg0 Tryz.func168 rfl Tryz.call168 ?_;refine vms1 Tryz.ntmps168 ?_
 refine callO.part0 [0] (acc_no h1) (by decide) rfl rfl ⟨by rfl,by simp,trivial⟩ ?_
 refine vms0 ?_
 refine callO.part0 [0] (acc_no h2) (by decide) rfl rfl ⟨by rfl,by simp,trivial⟩ ?_
 refine vms0 ?_
 refine callO.part0 [0] (acc_no h3) (by decide) rfl rfl ⟨by rfl,by simp,trivial⟩ ?_
 refine vms0 ?_
 refine callO.part0 [0] (acc_no h4) (by decide) rfl rfl ⟨by rfl,by simp,trivial⟩ ?_
 refine vms0 ?_
 refine T.lp tok mixed cfg0 (fun (i:Nat)=>kp 1 (dd 1 (sv (.sl true [] 0) (sv (.bool false) (dd 4 (sv (.int .i64 i) (dd 49 (nl)))))))) (fun H0 (i:Nat)=>[.cells 0 [.str s]]) (fun (i:Nat)=>i≤i0) (fun (i:Nat)=>3-i) (0) ?_ ?_ ?_
 ·exact Nat.zero_le _
 ·exact Gn.canon (J:=[]) (by first | rfl | (simp [List.append_nil];done) | (simp [List.append_nil];rfl)) (by simp [wk,slN,putT,kp,dd,sv,nl]) (by simp [List.length_append]) (by simp [fmN,fm0,kp,dd,sv,nl]) (by simp [fmN,fm0])
 intro i hi2
 have hlen:=fname_len4 i
 rw [List.length_append,List.length_singleton] at hlen
 refine vms0 ?_
 refine callO.pc (pc116 i) ?_
 refine vms0 ?_
 by_cases e:i=i0
 ·subst e
  refine callO.part0 [0] (acc_yes h) (by decide) rfl rfl ⟨by rfl,by simp,trivial⟩ ?_
  refine vms0 ?_
  refine callO.part0 [0] g (by decide) rfl rfl ⟨by rfl,by simp,trivial⟩ ?_
  refine vms0 ?_
  refine endG.ret ([]) (by first | rfl | simp [fmN,fm0,fzs_ok,getO,setO,fzs,fz,fzH,Nat.beq,fmN,fm0,take_N,toN1,slN_nil,tt_3,tt_4,tt_5,tt_9,tt_54,tt_42,tt_25,tt_128,tt_104,tt_116,tt_131,tt_133,tt_135,encN,slN,cfg0,get_flat_part lenN,get_flat_drop lenN,len_flat lenN,V.rn,rns,qn,setPs,rnOs,Ob.rn,List.set_cons_zero,List.size_toArray,st_M,os_M,rn_slM]) (by simp) (by simp [fmN,fm0,fzs_ok,imp,lenOK_iff,List.take_of_length_le,evRes,getT,getO,setO,fzs,fz,fzH,Nat.beq,retV,Res.then,ldT,ldR,mkV,getV,fmN,fm0,take_N,toN1,slN_nil,tt_3,tt_4,tt_5,tt_9,tt_54,tt_42,tt_25,tt_128,tt_104,tt_116,tt_131,tt_133,tt_135,encN,slN,cfg0,get_flat_part lenN,get_flat_drop lenN,len_flat lenN,V.rn,rns,qn,setPs,rnOs,Ob.rn,List.set_cons_zero,List.size_toArray,st_M,os_M,rn_slM,Tryz.f168]) (by first | rfl | simp [fmN,fm0]) (by first | rfl | simp [fmN,fm0])
 ·refine callO.part0 [0] (acc_no (hb i (by omega))) (by decide) rfl rfl ⟨by rfl,by simp,trivial⟩ ?_
  refine vms0 ?_
  refine ⟨i+1,by omega,by (try simp only);omega,?_⟩;exact Gn.canon (by first | rfl | (simp [List.append_nil];rfl)) (by simp [wk,slN]) (by simp [List.length_append]) (by simp [fmN,fm0]) (by simp [fmN,fm0])
theorem pg62n (s:List UInt8) (hs:s.length≤100000) (hh:noHead s) (hb:∀j:Nat,j<3→begins s (fname j++[61])=false) :
  GCall Tryz.prog 168 [.ptr 0 0 0] [.cells 0 [.str s]] (.tup [slM [],.bool false]) [.cells 0 [.str s]]:=by
 obtain ⟨h1,h2,h3,h4⟩:=hh
 refine GC.walk tok mixed cfg0 Tryz.func168 rfl Tryz.call168 ?_;refine vms1 Tryz.ntmps168 ?_
 refine callO.part0 [0] (acc_no h1) (by decide) rfl rfl ⟨by rfl,by simp,trivial⟩ ?_
 refine vms0 ?_
 refine callO.part0 [0] (acc_no h2) (by decide) rfl rfl ⟨by rfl,by simp,trivial⟩ ?_
 refine vms0 ?_
 refine callO.part0 [0] (acc_no h3) (by decide) rfl rfl ⟨by rfl,by simp,trivial⟩ ?_
 refine vms0 ?_
 refine callO.part0 [0] (acc_no h4) (by decide) rfl rfl ⟨by rfl,by simp,trivial⟩ ?_
 refine vms0 ?_
 refine T.lp tok mixed cfg0 (fun (i:Nat)=>kp 1 (dd 1 (sv (.sl true [] 0) (sv (.bool false) (dd 4 (sv (.int .i64 i) (dd 49 (nl)))))))) (fun H0 (i:Nat)=>[.cells 0 [.str s]]) (fun (i:Nat)=>i≤3) (fun (i:Nat)=>3-i) (0) ?_ ?_ ?_
 ·exact Nat.zero_le _
 ·exact Gn.canon (J:=[]) (by first | rfl | (simp [List.append_nil];done) | (simp [List.append_nil];rfl)) (by simp [wk,slN,putT,kp,dd,sv,nl]) (by simp [List.length_append]) (by simp [fmN,fm0,kp,dd,sv,nl]) (by simp [fmN,fm0])
 intro i hi2
 have hlen:=fname_len4 i
 rw [List.length_append,List.length_singleton] at hlen
 by_cases h:i<3
 ·refine vms0 ?_
  refine callO.pc (pc116 i) ?_
  refine vms0 ?_
  refine callO.part0 [0] (acc_no (hb i h)) (by decide) rfl rfl ⟨by rfl,by simp,trivial⟩ ?_
  refine vms0 ?_
  refine ⟨i+1,by omega,by (try simp only);omega,?_⟩;exact Gn.canon (by first | rfl | (simp [List.append_nil];rfl)) (by simp [wk,slN]) (by simp [List.length_append]) (by simp [fmN,fm0]) (by simp [fmN,fm0])
 ·refine vms0 ?_
  refine endG.ret ([]) (by first | rfl | simp [fmN,fm0,fzs_ok,getO,setO,fzs,fz,fzH,Nat.beq,fmN,fm0,take_N,toN1,slN_nil,tt_3,tt_4,tt_5,tt_9,tt_54,tt_42,tt_25,tt_128,tt_104,tt_116,tt_131,tt_133,tt_135,encN,slN,cfg0,get_flat_part lenN,get_flat_drop lenN,len_flat lenN,V.rn,rns,qn,setPs,rnOs,Ob.rn,List.set_cons_zero,List.size_toArray,st_M,os_M,rn_slM,slM_nil]) (by simp) (by simp [fmN,fm0,fzs_ok,imp,lenOK_iff,List.take_of_length_le,evRes,getT,getO,setO,fzs,fz,fzH,Nat.beq,retV,Res.then,ldT,ldR,mkV,getV,fmN,fm0,take_N,toN1,slN_nil,tt_3,tt_4,tt_5,tt_9,tt_54,tt_42,tt_25,tt_128,tt_104,tt_116,tt_131,tt_133,tt_135,encN,slN,cfg0,get_flat_part lenN,get_flat_drop lenN,len_flat lenN,V.rn,rns,qn,setPs,rnOs,Ob.rn,List.set_cons_zero,List.size_toArray,st_M,os_M,rn_slM,Tryz.f168,slM_nil]) (by first | rfl | simp [fmN,fm0,slM_nil]) (by first | rfl | simp [fmN,fm0,slM_nil])
theorem pgFld (s:List UInt8) (hs:s.length≤100000) (hh:noHead s):Ans 168 [] s (pFld s):=by
 have key:∀i0:Nat,i0≤2→(∀j:Nat,j<i0→begins s (fname j++[61])=false)→begins s (fname i0++[61])=true→pFld s=pTest i0 (s.drop ((fname i0).length+1))→Ans 168 [] s (pFld s):=by
  intro i0 hi hb h e
  have hl:=begins_le h
  rw [List.length_append,List.length_singleton] at hl
  obtain ⟨l,r,g,g1,g2,g3⟩:=pg68 i0 (s.drop ((fname i0).length+1)) (by rw [List.length_drop];omega)
  rw [List.length_drop] at g2
  rw [e]
  exact ⟨l,r,pg62f s hs hh i0 hi hb h l r _ g,by omega,g3⟩
 cases b0:begins s (fname 0++[61])
 case true=>exact key 0 (by decide) (fun j hj=>absurd hj (Nat.not_lt_zero j)) b0 (by rw [pFld,if_pos b0];rfl)
 cases b1:begins s (fname 1++[61])
 case true =>
  refine key 1 (by decide) (fun j hj=>?_) b1 (by rw [pFld,if_neg (by rw [b0];simp),if_pos b1];rfl)
  have:j=0:=by omega
  rw [this];exact b0
 cases b2:begins s (fname 2++[61])
 case true =>
  refine key 2 (by decide) (fun j hj=>?_) b2 (by rw [pFld,if_neg (by rw [b0];simp),if_neg (by rw [b1];simp),if_pos b2];rfl)
  have:j=0∨j=1:=by omega
  rcases this with e | e<;>rw [e]<;>assumption
 have e:pFld s=none:=by
  rw [pFld,if_neg (by rw [b0];simp),if_neg (by rw [b1];simp),if_neg (by rw [b2];simp)]
 rw [e]
 refine ⟨[],s,pg62n s hs hh (fun j hj=>?_),by simp,fun p t e=>by cases e⟩
 have:j=0∨j=1∨j=2:=by omega
 rcases this with e | e | e<;>rw [e]<;>assumption
theorem pg62:∀k,k≤100001→∀s:List UInt8,s.length<k→Ans 168 [] s (pNot k s)
 | 0,_,s,h=>absurd h (Nat.not_lt_zero _)
 | k+1,hk,s,hs=>by
  have ih:=pg62 k (by omega)
  rw [pNot]
  by_cases h1:begins s [33]=true
  ·have hl:=begins_le h1
   simp only [List.length_cons,List.length_nil] at hl
   have hd:(s.drop 1).length=s.length-1:=List.length_drop
   obtain ⟨l,r,g,g1,g2⟩:=ih (s.drop 1) (by omega)
   rw [if_pos h1]
   have hj:=pc38m 4 l [] (by omega) (by simp)
   rw [slM_nil] at hj
   refine ⟨jn 4 l [],r,?_,by rw [jn_len,List.length_nil];omega,?_⟩
   ·have e:((pNot k (s.drop 1)).map fun q=>(Pr.un (op0 4) q.1,q.2)).isSome=(pNot k (s.drop 1)).isSome:=by
     cases pNot k (s.drop 1)<;>rfl
    rw [e]
    refine GC.walk tok mixed cfg0 Tryz.func168 rfl Tryz.call168 ?_;refine vms1 Tryz.ntmps168 ?_
    refine callO.part0 [0] (acc_yes h1) (by decide) rfl rfl ⟨by rfl,by simp,trivial⟩ ?_
    simp (maxSteps:=2000000) -implicitDefEqProofs +contextual (disch:=first | assumption | omega | decide +kernel) only [push_cast,↓capI,seval,Nat.reduceLeDiff,Nat.reduceEqDiff,reduceCtorEq,↓reduceIte,List.length_cons,List.length_nil]
    refine callO.part0 [0] g (by decide) rfl rfl ⟨by rfl,by simp,trivial⟩ ?_
    refine vms0 ?_
    refine callO.pc hj ?_
    refine vms0 ?_
    refine endG.ret ([]) (by first | rfl | simp [fmN,fm0,fzs_ok,getO,setO,fzs,fz,fzH,Nat.beq,fmN,fm0,take_N,toN1,slN_nil,tt_3,tt_4,tt_5,tt_9,tt_54,tt_42,tt_25,tt_128,tt_104,tt_116,tt_131,tt_133,tt_135,encN,slN,cfg0,get_flat_part lenN,get_flat_drop lenN,len_flat lenN,V.rn,rns,qn,setPs,rnOs,Ob.rn,List.set_cons_zero,List.size_toArray,st_M,os_M,rn_slM]) (by simp) (by simp [fmN,fm0,fzs_ok,imp,lenOK_iff,List.take_of_length_le,evRes,getT,getO,setO,fzs,fz,fzH,Nat.beq,retV,Res.then,ldT,ldR,mkV,getV,fmN,fm0,take_N,toN1,slN_nil,tt_3,tt_4,tt_5,tt_9,tt_54,tt_42,tt_25,tt_128,tt_104,tt_116,tt_131,tt_133,tt_135,encN,slN,cfg0,get_flat_part lenN,get_flat_drop lenN,len_flat lenN,V.rn,rns,qn,setPs,rnOs,Ob.rn,List.set_cons_zero,List.size_toArray,st_M,os_M,rn_slM,Tryz.f168]) (by first | rfl | simp [fmN,fm0]) (by first | rfl | simp [fmN,fm0])
   ·intro p t e
    cases hn:pNot k (s.drop 1) with
    | none=>rw [hn] at e;cases e
    | some q =>
     obtain ⟨y,u⟩:=q
     rw [hn] at e
     cases e
     obtain ⟨e1,e2⟩:=g2 _ _ hn
     refine ⟨?_,e2⟩
     rw [flat,←e1,jn,List.append_nil]
     rfl
  have f1:=Bool.eq_false_iff.2 h1
  rw [if_neg h1]
  by_cases h2:begins s [116,114,117,101]=true
  ·have hl:=begins_le h2
   simp only [List.length_cons,List.length_nil] at hl
   rw [if_pos h2]
   refine ⟨[op0 1],s.drop 4,?_,by rw [List.length_singleton,List.length_drop];omega,fun p t e=>by cases e;exact ⟨rfl,rfl⟩⟩
   refine GC.walk tok mixed cfg0 Tryz.func168 rfl Tryz.call168 ?_;refine vms1 Tryz.ntmps168 ?_
   refine callO.part0 [0] (acc_no f1) (by decide) rfl rfl ⟨by rfl,by simp,trivial⟩ ?_
   refine vms0 ?_
   refine callO.part0 [0] (acc_yes h2) (by decide) rfl rfl ⟨by rfl,by simp,trivial⟩ ?_
   refine vms0 ?_
   refine endG.ret ([]) (by first | rfl | simp [fmN,fm0,fzs_ok,getO,setO,fzs,fz,fzH,Nat.beq,fmN,fm0,take_N,toN1,slN_nil,tt_3,tt_4,tt_5,tt_9,tt_54,tt_42,tt_25,tt_128,tt_104,tt_116,tt_131,tt_133,tt_135,encN,slN,cfg0,get_flat_part lenN,get_flat_drop lenN,len_flat lenN,V.rn,rns,qn,setPs,rnOs,Ob.rn,List.set_cons_zero,List.size_toArray,st_M,os_M,rn_slM,op0,slM,slN,encN]) (by simp) (by simp [fmN,fm0,fzs_ok,imp,lenOK_iff,List.take_of_length_le,evRes,getT,getO,setO,fzs,fz,fzH,Nat.beq,retV,Res.then,ldT,ldR,mkV,getV,fmN,fm0,take_N,toN1,slN_nil,tt_3,tt_4,tt_5,tt_9,tt_54,tt_42,tt_25,tt_128,tt_104,tt_116,tt_131,tt_133,tt_135,encN,slN,cfg0,get_flat_part lenN,get_flat_drop lenN,len_flat lenN,V.rn,rns,qn,setPs,rnOs,Ob.rn,List.set_cons_zero,List.size_toArray,st_M,os_M,rn_slM,Tryz.f168,op0,slM,slN,encN]) (by first | rfl | simp [fmN,fm0,op0,slM,slN,encN]) (by first | rfl | simp [fmN,fm0,op0,slM,slN,encN])
  have f2:=Bool.eq_false_iff.2 h2
  rw [if_neg h2]
  by_cases h3:begins s [102,97,108,115,101]=true
  ·have hl:=begins_le h3
   simp only [List.length_cons,List.length_nil] at hl
   rw [if_pos h3]
   refine ⟨[op0 2],s.drop 5,?_,by rw [List.length_singleton,List.length_drop];omega,fun p t e=>by cases e;exact ⟨rfl,rfl⟩⟩
   refine GC.walk tok mixed cfg0 Tryz.func168 rfl Tryz.call168 ?_;refine vms1 Tryz.ntmps168 ?_
   refine callO.part0 [0] (acc_no f1) (by decide) rfl rfl ⟨by rfl,by simp,trivial⟩ ?_
   refine vms0 ?_
   refine callO.part0 [0] (acc_no f2) (by decide) rfl rfl ⟨by rfl,by simp,trivial⟩ ?_
   refine vms0 ?_
   refine callO.part0 [0] (acc_yes h3) (by decide) rfl rfl ⟨by rfl,by simp,trivial⟩ ?_
   refine vms0 ?_
   refine endG.ret ([]) (by first | rfl | simp [fmN,fm0,fzs_ok,getO,setO,fzs,fz,fzH,Nat.beq,fmN,fm0,take_N,toN1,slN_nil,tt_3,tt_4,tt_5,tt_9,tt_54,tt_42,tt_25,tt_128,tt_104,tt_116,tt_131,tt_133,tt_135,encN,slN,cfg0,get_flat_part lenN,get_flat_drop lenN,len_flat lenN,V.rn,rns,qn,setPs,rnOs,Ob.rn,List.set_cons_zero,List.size_toArray,st_M,os_M,rn_slM,op0,slM,slN,encN]) (by simp) (by simp [fmN,fm0,fzs_ok,imp,lenOK_iff,List.take_of_length_le,evRes,getT,getO,setO,fzs,fz,fzH,Nat.beq,retV,Res.then,ldT,ldR,mkV,getV,fmN,fm0,take_N,toN1,slN_nil,tt_3,tt_4,tt_5,tt_9,tt_54,tt_42,tt_25,tt_128,tt_104,tt_116,tt_131,tt_133,tt_135,encN,slN,cfg0,get_flat_part lenN,get_flat_drop lenN,len_flat lenN,V.rn,rns,qn,setPs,rnOs,Ob.rn,List.set_cons_zero,List.size_toArray,st_M,os_M,rn_slM,Tryz.f168,op0,slM,slN,encN]) (by first | rfl | simp [fmN,fm0,op0,slM,slN,encN]) (by first | rfl | simp [fmN,fm0,op0,slM,slN,encN])
  have f3:=Bool.eq_false_iff.2 h3
  rw [if_neg h3]
  by_cases h4:begins s [40]=true
  ·have hl:=begins_le h4
   simp only [List.length_cons,List.length_nil] at hl
   have hd:(s.drop 1).length=s.length-1:=List.length_drop
   obtain ⟨l,r,g,g1,g2⟩:=pgOr (by omega) (fun s hs=>pgAnd (by omega) ih s hs) (s.drop 1) (by omega)
   rw [if_pos h4]
   cases hn:lstP (lstP (pNot k) 5 38) 6 124 (s.drop 1) with
   | none =>
    rw [hn] at g
    refine ⟨l,r,?_,by omega,fun p t e=>by cases e⟩
    refine GC.walk tok mixed cfg0 Tryz.func168 rfl Tryz.call168 ?_;refine vms1 Tryz.ntmps168 ?_
    refine callO.part0 [0] (acc_no f1) (by decide) rfl rfl ⟨by rfl,by simp,trivial⟩ ?_
    refine vms0 ?_
    refine callO.part0 [0] (acc_no f2) (by decide) rfl rfl ⟨by rfl,by simp,trivial⟩ ?_
    refine vms0 ?_
    refine callO.part0 [0] (acc_no f3) (by decide) rfl rfl ⟨by rfl,by simp,trivial⟩ ?_
    refine vms0 ?_
    refine callO.part0 [0] (acc_yes h4) (by decide) rfl rfl ⟨by rfl,by simp,trivial⟩ ?_
    simp (maxSteps:=2000000) -implicitDefEqProofs +contextual (disch:=first | assumption | omega | decide +kernel) only [push_cast,↓capI,seval,Nat.reduceLeDiff,Nat.reduceEqDiff,reduceCtorEq,↓reduceIte,List.length_cons,List.length_nil]
    refine callO.part0 [0] g (by decide) rfl rfl ⟨by rfl,by simp,trivial⟩ ?_
    refine vms0 ?_
    refine endG.ret ([]) (by first | rfl | simp [fmN,fm0,fzs_ok,getO,setO,fzs,fz,fzH,Nat.beq,fmN,fm0,take_N,toN1,slN_nil,tt_3,tt_4,tt_5,tt_9,tt_54,tt_42,tt_25,tt_128,tt_104,tt_116,tt_131,tt_133,tt_135,encN,slN,cfg0,get_flat_part lenN,get_flat_drop lenN,len_flat lenN,V.rn,rns,qn,setPs,rnOs,Ob.rn,List.set_cons_zero,List.size_toArray,st_M,os_M,rn_slM]) (by simp) (by simp [fmN,fm0,fzs_ok,imp,lenOK_iff,List.take_of_length_le,evRes,getT,getO,setO,fzs,fz,fzH,Nat.beq,retV,Res.then,ldT,ldR,mkV,getV,fmN,fm0,take_N,toN1,slN_nil,tt_3,tt_4,tt_5,tt_9,tt_54,tt_42,tt_25,tt_128,tt_104,tt_116,tt_131,tt_133,tt_135,encN,slN,cfg0,get_flat_part lenN,get_flat_drop lenN,len_flat lenN,V.rn,rns,qn,setPs,rnOs,Ob.rn,List.set_cons_zero,List.size_toArray,st_M,os_M,rn_slM,Tryz.f168]) (by first | rfl | simp [fmN,fm0]) (by first | rfl | simp [fmN,fm0])
   | some q =>
    obtain ⟨p,u⟩:=q
    rw [hn] at g
    obtain ⟨e1,e2⟩:=g2 p u hn
    subst e1 e2
    simp only
    cases hb:begins r [41]
    ·rw [if_neg (by simp)]
     refine ⟨flat p,r,?_,by omega,fun p t e=>by cases e⟩
     refine GC.walk tok mixed cfg0 Tryz.func168 rfl Tryz.call168 ?_;refine vms1 Tryz.ntmps168 ?_
     refine callO.part0 [0] (acc_no f1) (by decide) rfl rfl ⟨by rfl,by simp,trivial⟩ ?_
     refine vms0 ?_
     refine callO.part0 [0] (acc_no f2) (by decide) rfl rfl ⟨by rfl,by simp,trivial⟩ ?_
     refine vms0 ?_
     refine callO.part0 [0] (acc_no f3) (by decide) rfl rfl ⟨by rfl,by simp,trivial⟩ ?_
     refine vms0 ?_
     refine callO.part0 [0] (acc_yes h4) (by decide) rfl rfl ⟨by rfl,by simp,trivial⟩ ?_
     simp (maxSteps:=2000000) -implicitDefEqProofs +contextual (disch:=first | assumption | omega | decide +kernel) only [push_cast,↓capI,seval,Nat.reduceLeDiff,Nat.reduceEqDiff,reduceCtorEq,↓reduceIte,List.length_cons,List.length_nil]
     refine callO.part0 [0] g (by decide) rfl rfl ⟨by rfl,by simp,trivial⟩ ?_
     refine vms0 ?_
     refine callO.part0 [0] (acc_no hb) (by decide) rfl rfl ⟨by rfl,by simp,trivial⟩ ?_
     refine vms0 ?_
     refine endG.ret ([]) (by first | rfl | simp [fmN,fm0,fzs_ok,getO,setO,fzs,fz,fzH,Nat.beq,fmN,fm0,take_N,toN1,slN_nil,tt_3,tt_4,tt_5,tt_9,tt_54,tt_42,tt_25,tt_128,tt_104,tt_116,tt_131,tt_133,tt_135,encN,slN,cfg0,get_flat_part lenN,get_flat_drop lenN,len_flat lenN,V.rn,rns,qn,setPs,rnOs,Ob.rn,List.set_cons_zero,List.size_toArray,st_M,os_M,rn_slM]) (by simp) (by simp [fmN,fm0,fzs_ok,imp,lenOK_iff,List.take_of_length_le,evRes,getT,getO,setO,fzs,fz,fzH,Nat.beq,retV,Res.then,ldT,ldR,mkV,getV,fmN,fm0,take_N,toN1,slN_nil,tt_3,tt_4,tt_5,tt_9,tt_54,tt_42,tt_25,tt_128,tt_104,tt_116,tt_131,tt_133,tt_135,encN,slN,cfg0,get_flat_part lenN,get_flat_drop lenN,len_flat lenN,V.rn,rns,qn,setPs,rnOs,Ob.rn,List.set_cons_zero,List.size_toArray,st_M,os_M,rn_slM,Tryz.f168]) (by first | rfl | simp [fmN,fm0]) (by first | rfl | simp [fmN,fm0])
    ·rw [if_pos rfl]
     refine ⟨flat p,r.drop 1,?_,by rw [List.length_drop];omega,fun p t e=>by cases e;exact ⟨rfl,rfl⟩⟩
     refine GC.walk tok mixed cfg0 Tryz.func168 rfl Tryz.call168 ?_;refine vms1 Tryz.ntmps168 ?_
     refine callO.part0 [0] (acc_no f1) (by decide) rfl rfl ⟨by rfl,by simp,trivial⟩ ?_
     refine vms0 ?_
     refine callO.part0 [0] (acc_no f2) (by decide) rfl rfl ⟨by rfl,by simp,trivial⟩ ?_
     refine vms0 ?_
     refine callO.part0 [0] (acc_no f3) (by decide) rfl rfl ⟨by rfl,by simp,trivial⟩ ?_
     refine vms0 ?_
     refine callO.part0 [0] (acc_yes h4) (by decide) rfl rfl ⟨by rfl,by simp,trivial⟩ ?_
     simp (maxSteps:=2000000) -implicitDefEqProofs +contextual (disch:=first | assumption | omega | decide +kernel) only [push_cast,↓capI,seval,Nat.reduceLeDiff,Nat.reduceEqDiff,reduceCtorEq,↓reduceIte,List.length_cons,List.length_nil]
     refine callO.part0 [0] g (by decide) rfl rfl ⟨by rfl,by simp,trivial⟩ ?_
     refine vms0 ?_
     refine callO.part0 [0] (acc_yes hb) (by decide) rfl rfl ⟨by rfl,by simp,trivial⟩ ?_
     refine vms0 ?_
     refine endG.ret ([]) (by first | rfl | simp [fmN,fm0,fzs_ok,getO,setO,fzs,fz,fzH,Nat.beq,fmN,fm0,take_N,toN1,slN_nil,tt_3,tt_4,tt_5,tt_9,tt_54,tt_42,tt_25,tt_128,tt_104,tt_116,tt_131,tt_133,tt_135,encN,slN,cfg0,get_flat_part lenN,get_flat_drop lenN,len_flat lenN,V.rn,rns,qn,setPs,rnOs,Ob.rn,List.set_cons_zero,List.size_toArray,st_M,os_M,rn_slM]) (by simp) (by simp [fmN,fm0,fzs_ok,imp,lenOK_iff,List.take_of_length_le,evRes,getT,getO,setO,fzs,fz,fzH,Nat.beq,retV,Res.then,ldT,ldR,mkV,getV,fmN,fm0,take_N,toN1,slN_nil,tt_3,tt_4,tt_5,tt_9,tt_54,tt_42,tt_25,tt_128,tt_104,tt_116,tt_131,tt_133,tt_135,encN,slN,cfg0,get_flat_part lenN,get_flat_drop lenN,len_flat lenN,V.rn,rns,qn,setPs,rnOs,Ob.rn,List.set_cons_zero,List.size_toArray,st_M,os_M,rn_slM,Tryz.f168]) (by first | rfl | simp [fmN,fm0]) (by first | rfl | simp [fmN,fm0])
  rw [if_neg h4]
  exact pgFld s (by omega) ⟨f1,f2,f3,Bool.eq_false_iff.2 h4⟩
theorem pg36 (s:List UInt8) (hs:s.length≤100000):Ans 83 [] s (pOr (s.length+1) s) :=
 pgOr (n:=s.length+1) (by omega) (fun t ht=>pgAnd (n:=s.length+1) (by omega) (pg62 (s.length+1) (by omega)) t ht) s (Nat.lt_succ_self _)
end
section
theorem eq8 (a b:UInt8):((a.toNat:Int)=b.toNat)=(a=b):=propext ⟨fun h=>UInt8.toNat_inj.1 (by omega),fun h=>by rw [h]⟩
def cntN (l:List Nd) (o:Int) (i:Nat):Nat:=(l.take i).countP (fun x=>x.op=o)
theorem cntN0 (l:List Nd) (o:Int):cntN l o 0=0:=rfl
def eqL (a b:List Nd) (i:Nat):Prop:=∀j,j<i→∀(h:j<a.length) (h2:j<b.length),a[j].op=b[j].op∧(a[j].op=3→a[j]=b[j])
attribute [local push_cast] fmN fm0 take_N toN1 slN_nil encN slN cfg0 gfp_lenN gfd_lenN lfl_lenN
theorem pc53 (a b:List Nd) (ha:a.length≤4000000) (hb:b.length≤4000000) (r:Bool) (hr:r=true↔(a.length=b.length∧eqL a b a.length)):PC Tryz.prog 53 [slN a,slN b] (.bool r):=by
 by_cases hn:a.length=b.length
 case neg =>
  have h0:r=false:=by
   cases r
   ·rfl
   ·exact absurd (hr.1 rfl).1 hn
  refine PC.walk tok mixed cfg0 Tryz.func53 rfl Tryz.call53 (by simp [fmN,fm0]) (by first | rfl | simp [fmN,fm0]) ?_;refine vms1 Tryz.ntmps53 ?_
  refine endK.ret ?_ (by first | rfl | simp [fmN,fm0]);simp [evRes,getT,retV,Tryz.f53,h0]
 refine PC.walk tok mixed cfg0 Tryz.func53 rfl Tryz.call53 (by simp [fmN,fm0]) (by first | rfl | simp [fmN,fm0]) ?_;refine vms1 Tryz.ntmps53 ?_
 refine vms1 hn ?_
 refine T.lp tok mixed cfg0 (fun (i:Nat)=>kp 2 (dd 3 (sv (.int .i64 i) (dd 41 (nl))))) (fun H0 (i:Nat)=>[]) (fun (i:Nat)=>i≤a.length∧eqL a b i) (fun (i:Nat)=>a.length-i) (0) ?_ ?_ ?_
 ·exact ⟨Nat.zero_le _,fun j hj=>absurd hj (Nat.not_lt_zero j)⟩
 ·exact Gn.canon (J:=[]) (by first | rfl | (simp [List.append_nil];done) | (simp [List.append_nil];rfl)) (by simp [wk,slN,cntN0,putT,kp,dd,sv,nl]) (by simp [List.length_append]) (by simp [fmN,fm0,kp,dd,sv,nl]) (by simp [fmN,fm0])
 rintro i ⟨hi,he⟩
 by_cases hlt:i<a.length
 case neg =>
  have hi':i=a.length:=by omega
  subst hi'
  refine vms0 ?_
  refine endK.ret ?_ (by first | rfl | simp [fmN,fm0]);simp [evRes,getT,retV,Tryz.f53,hr.2 ⟨hn,he⟩]
 have hlt2:i<b.length:=by omega
 by_cases ho:a[i].op=b[i].op
 case neg =>
  have h0:r=false:=by
   cases r
   ·rfl
   ·exact absurd ((hr.1 rfl).2 i hlt hlt hlt2).1 ho
  refine vms1 ho ?_
  refine endK.ret ?_ (by first | rfl | simp [fmN,fm0]);simp [evRes,getT,retV,Tryz.f53,h0]
 have hx:∀h:(a[i].op=3→a[i]=b[i]),eqL a b (i+1):=by
  intro h j hj h1 h2
  by_cases e:j=i
  ·subst e
   exact ⟨ho,h⟩
  ·exact he j (by omega) h1 h2
 by_cases h3:a[i].op=3
 case neg =>
  rw [ho] at h3
  refine vms2 ho h3 ?_
  refine ⟨i+1,⟨by omega,hx (fun h=>absurd (ho.symm.trans h) h3)⟩,by (try simp only);omega,?_⟩;exact Gn.canon (by first | rfl | (simp [List.append_nil];rfl)) (by simp [wk,slN,cntN0]) (by simp [List.length_append]) (by simp [fmN,fm0]) (by simp [fmN,fm0])
 have h3':b[i].op=3:=ho.symm.trans h3
 by_cases hq:a[i]=b[i]
 ·refine vms3 h3 h3' hq ?_
  refine ⟨i+1,⟨by omega,hx (fun _=>hq)⟩,by (try simp only);omega,?_⟩;exact Gn.canon (by first | rfl | (simp [List.append_nil];rfl)) (by simp [wk,slN,cntN0]) (by simp [List.length_append]) (by simp [fmN,fm0]) (by simp [fmN,fm0])
 ·have h0:r=false:=by
   cases r
   ·rfl
   ·exact absurd (((hr.1 rfl).2 i hlt hlt hlt2).2 h3) hq
  by_cases hf:a[i].fd=b[i].fd
  ·by_cases hv:a[i].v=b[i].v
   ·have hm:¬a[i].m=b[i].m:=by
     intro hm
     apply hq
     generalize a[i]=x at *
     generalize b[i]=y at *
     cases x
     cases y
     simp_all
    simp (maxSteps:=2000000) -implicitDefEqProofs +contextual (disch:=first | assumption | omega | decide +kernel) only [push_cast,↓capI,seval,Nat.reduceLeDiff,Nat.reduceEqDiff,reduceCtorEq,↓reduceIte,h3,h3',hf,hv,hm,eq8]
    refine endK.ret ?_ (by first | rfl | simp [fmN,fm0]);simp [evRes,getT,retV,Tryz.f53,h0]
   ·have hvb:((a[i].v.toNat:Int)==(b[i].v.toNat:Int))=false:=beq_eq_false_iff_ne.2 (by rw [Ne,eq8];exact hv)
    refine vms4 h3 h3' hf hvb ?_
    refine endK.ret ?_ (by first | rfl | simp [fmN,fm0]);simp [evRes,getT,retV,Tryz.f53,h0]
  ·refine vms3 h3 h3' hf ?_
   refine endK.ret ?_ (by first | rfl | simp [fmN,fm0]);simp [evRes,getT,retV,Tryz.f53,h0]
end
section
attribute [local push_cast] fmN fm0 take_N toN1 slN_nil xor8 and8 zero8 encF encN slN cfg0 gfp_lenN gfd_lenN lfl_lenN
end
section
def inn (k need:Int) (s:List UInt8):List UInt8:=if k<need then [40]++s++[41] else s
theorem inn_len (k need:Int) (s:List UInt8):(inn k need s).length≤s.length+2:=by
 unfold inn
 split
 ·simp
 ·omega
def prec:Pr→Int
 | .leaf _=>3
 | .un _ _=>3
 | .bin x _ _=>if x.op=5 then 2 else 1
def tx:Pr→List UInt8
 | .leaf x=>if x.op=1 then [116,114,117,101] else if x.op=2 then [102,97,108,115,101] else
   fname x.fd++[61]++dec8 x.v.toNat++(if x.m=255 then [] else [47]++dec8 x.m.toNat)
 | .un _ p=>[33]++inn (prec p) 3 (tx p)
 | .bin x p q=>if x.op=5 then inn (prec p) 2 (tx p)++[38]++inn (prec q) 3 (tx q) else inn (prec p) 1 (tx p)++[124]++inn (prec q) 2 (tx q)
theorem fname_len (i:Int):(fname i).length≤4:=by
 unfold fname
 split
 ·decide
 split<;>decide
theorem leaf_len (x:Nd):(tx (.leaf x)).length≤12:=by
 have h1:=fname_len x.fd
 have h2:=dec8_len x.v.toNat
 have h3:=dec8_len x.m.toNat
 rw [tx]
 split
 ·decide
 split
 ·decide
 split
 ·(try simp only [List.length_append,List.length_cons,List.length_nil]);omega
 ·(try simp only [List.length_append,List.length_cons,List.length_nil]);omega
theorem tx_len:∀p:Pr,(tx p).length≤16*(flat p).length
 | .leaf x=>by
  have:=leaf_len x
  rw [flat,List.length_singleton]
  omega
 | .un x p=>by
  have h1:=tx_len p
  have h2:=inn_len (prec p) 3 (tx p)
  rw [tx,flat]
  (try simp only [List.length_append,List.length_cons,List.length_nil]);omega
 | .bin x p q=>by
  have h1:=tx_len p
  have h2:=tx_len q
  have h3:=inn_len (prec p) 2 (tx p)
  have h4:=inn_len (prec p) 1 (tx p)
  have h5:=inn_len (prec q) 2 (tx q)
  have h6:=inn_len (prec q) 3 (tx q)
  rw [tx,flat]
  split
  ·(try simp only [List.length_append,List.length_cons,List.length_nil]);omega
  ·(try simp only [List.length_append,List.length_cons,List.length_nil]);omega
def encP (p:Pr):V:=.agg [.str (tx p),.int .i64 (prec p)]
@[simp] theorem bel_encP {n:Nat} {p:Pr}:(encP p).bel n=true:=rfl
attribute [local push_cast] fmN fm0 take_N toN1 slN_nil encN slN cfg0 gfp_lenN gfd_lenN lfl_lenN
theorem pc117 (s:List UInt8) (k need:Int) (hs:s.length≤4000000000):PC Tryz.prog 117 [.agg [.str s,.int .i64 k],.int .i64 need] (.str (inn k need s)):=by
 by_cases h:k<need
 ·refine PC.walk tok mixed cfg0 Tryz.func117 rfl Tryz.call117 (by simp [fmN,fm0]) (by first | rfl | simp [fmN,fm0]) ?_;refine vms1 Tryz.ntmps117 ?_
  (try refine ⟨by (try simp only [List.length_append,List.length_cons,List.length_nil]);omega,fun _=>?_⟩)
  (try refine vms0 ?_)
  (try refine ⟨by (try simp only [List.length_append,List.length_cons,List.length_nil]);omega,fun _=>?_⟩)
  refine endK.ret ?_ (by first | rfl | simp [fmN,fm0]);simp [evRes,getT,retV,Tryz.f117,inn,h]
 ·refine PC.walk tok mixed cfg0 Tryz.func117 rfl Tryz.call117 (by simp [fmN,fm0]) (by first | rfl | simp [fmN,fm0]) ?_;refine vms1 Tryz.ntmps117 ?_
  refine endK.ret ?_ (by first | rfl | simp [fmN,fm0]);simp [evRes,getT,retV,Tryz.f117,inn,h]
theorem m255 (m:UInt8):((m.toNat:Int)=255)=(m=255):=propext ⟨fun h=>UInt8.toNat_inj.1 (by simp;omega),fun h=>by rw [h];rfl⟩
theorem pc34f (x:Nd) (r:List Nd) (h:x.op=3) (hl':r.length+1≤4000000):PC Tryz.prog 72 [slN (x::r)] (.tup [encP (.leaf x),slN r]):=by
 have h1:=fname_len x.fd
 have h2:=dec8_len x.v.toNat
 have h3:=dec8_len x.m.toNat
 have hv:=x.v.toNat_lt
 have hm:=x.m.toNat_lt
 refine PC.walk tok mixed cfg0 Tryz.func72 rfl Tryz.call72 (by simp [fmN,fm0]) (by first | rfl | simp [fmN,fm0]) ?_;refine vms1 Tryz.ntmps72 ?_
 refine vms1 h ?_
 refine callG.pc1 (pc116 x.fd) ?_
 refine vms0 ?_
 (try refine ⟨by (try simp only [List.length_append,List.length_cons,List.length_nil]);omega,fun _=>?_⟩)
 refine callG.pc1 (pc37 x.v.toNat hv) ?_
 refine vms0 ?_
 (try refine ⟨by (try simp only [List.length_append,List.length_cons,List.length_nil]);omega,fun _=>?_⟩)
 by_cases hm5:x.m=255
 ·simp (maxSteps:=2000000) -implicitDefEqProofs +contextual (disch:=first | assumption | omega | decide +kernel) only [push_cast,↓capI,seval,Nat.reduceLeDiff,Nat.reduceEqDiff,reduceCtorEq,↓reduceIte,m255,hm5]
  refine endK.ret ?_ (by first | rfl | simp [fmN,fm0]);simp [fmN,fm0,fzs_ok,imp,lenOK_iff,List.take_of_length_le,evRes,getT,getO,setO,fzs,fz,fzH,Nat.beq,retV,Res.then,ldT,ldR,mkV,getV,fmN,fm0,take_N,toN1,slN_nil,tt_3,tt_4,tt_5,tt_9,tt_54,tt_42,tt_25,tt_128,tt_104,tt_116,encN,slN,cfg0,get_flat_part lenN,get_flat_drop lenN,len_flat lenN,Tryz.f72,encP,tx,prec,h,hm5]
 ·simp (maxSteps:=2000000) -implicitDefEqProofs +contextual (disch:=first | assumption | omega | decide +kernel) only [push_cast,↓capI,seval,Nat.reduceLeDiff,Nat.reduceEqDiff,reduceCtorEq,↓reduceIte,m255,hm5]
  refine callO.pc (pc37 x.m.toNat hm) ?_
  refine vms0 ?_
  (try refine ⟨by (try simp only [List.length_append,List.length_cons,List.length_nil]);omega,fun _=>?_⟩)
  (try refine vms0 ?_)
  (try refine ⟨by (try simp only [List.length_append,List.length_cons,List.length_nil]);omega,fun _=>?_⟩)
  refine endK.ret ?_ (by first | rfl | simp [fmN,fm0]);simp [fmN,fm0,fzs_ok,imp,lenOK_iff,List.take_of_length_le,evRes,getT,getO,setO,fzs,fz,fzH,Nat.beq,retV,Res.then,ldT,ldR,mkV,getV,fmN,fm0,take_N,toN1,slN_nil,tt_3,tt_4,tt_5,tt_9,tt_54,tt_42,tt_25,tt_128,tt_104,tt_116,encN,slN,cfg0,get_flat_part lenN,get_flat_drop lenN,len_flat lenN,Tryz.f72,encP,tx,prec,h,hm5]
theorem pc72:∀(p:Pr) (r:List Nd),okP p→(flat p++r).length≤4000000→PC Tryz.prog 72 [slN (flat p++r)] (.tup [encP p,slN r])
 | .leaf x,r,hp,hl=>by
  obtain ⟨h0,hc⟩:=hp
  have hl':r.length+1≤4000000:=hl
  show PC Tryz.prog 72 [slN (x::r)] _
  rcases h0 with h | h | h
  ·refine PC.walk tok mixed cfg0 Tryz.func72 rfl Tryz.call72 (by simp [fmN,fm0]) (by first | rfl | simp [fmN,fm0]) ?_;refine vms1 Tryz.ntmps72 ?_
   refine vms1 h ?_
   refine endK.ret ?_ (by first | rfl | simp [fmN,fm0]);simp [fmN,fm0,fzs_ok,imp,lenOK_iff,List.take_of_length_le,evRes,getT,getO,setO,fzs,fz,fzH,Nat.beq,retV,Res.then,ldT,ldR,mkV,getV,fmN,fm0,take_N,toN1,slN_nil,tt_3,tt_4,tt_5,tt_9,tt_54,tt_42,tt_25,tt_128,tt_104,tt_116,encN,slN,cfg0,get_flat_part lenN,get_flat_drop lenN,len_flat lenN,Tryz.f72,encP,tx,prec,h]
  ·refine PC.walk tok mixed cfg0 Tryz.func72 rfl Tryz.call72 (by simp [fmN,fm0]) (by first | rfl | simp [fmN,fm0]) ?_;refine vms1 Tryz.ntmps72 ?_
   refine vms1 h ?_
   refine endK.ret ?_ (by first | rfl | simp [fmN,fm0]);simp [fmN,fm0,fzs_ok,imp,lenOK_iff,List.take_of_length_le,evRes,getT,getO,setO,fzs,fz,fzH,Nat.beq,retV,Res.then,ldT,ldR,mkV,getV,fmN,fm0,take_N,toN1,slN_nil,tt_3,tt_4,tt_5,tt_9,tt_54,tt_42,tt_25,tt_128,tt_104,tt_116,encN,slN,cfg0,get_flat_part lenN,get_flat_drop lenN,len_flat lenN,Tryz.f72,encP,tx,prec,h]
  ·exact pc34f x r h hl'
 | .un x p,r,hp,hl=>by
  obtain ⟨h4,hp⟩:=hp
  rw [flat,List.cons_append,List.length_cons,List.length_append] at hl
  rw [flat,List.cons_append]
  have hi:=pc72 p r hp (by rw [List.length_append];omega)
  have ht:=tx_len p
  have hn:=inn_len (prec p) 3 (tx p)
  rw [encP] at hi
  have hl2:(flat p++r).length+1≤4000000:=by rw [List.length_append];omega
  generalize flat p++r=t at hl2 hi ⊢
  refine PC.walk tok mixed cfg0 Tryz.func72 rfl Tryz.call72 (by simp [fmN,fm0]) (by first | rfl | simp [fmN,fm0]) ?_;refine vms1 Tryz.ntmps72 ?_
  refine vms1 h4 ?_
  refine callO.pc hi ?_
  refine vms1 h4 ?_
  refine callO.pc (pc117 (tx p) (prec p) 3 (by omega)) ?_
  refine vms0 ?_
  (try refine ⟨by (try simp only [List.length_append,List.length_cons,List.length_nil]);omega,fun _=>?_⟩)
  refine endK.ret ?_ (by first | rfl | simp [fmN,fm0]);simp [fmN,fm0,fzs_ok,imp,lenOK_iff,List.take_of_length_le,evRes,getT,getO,setO,fzs,fz,fzH,Nat.beq,retV,Res.then,ldT,ldR,mkV,getV,fmN,fm0,take_N,toN1,slN_nil,tt_3,tt_4,tt_5,tt_9,tt_54,tt_42,tt_25,tt_128,tt_104,tt_116,encN,slN,cfg0,get_flat_part lenN,get_flat_drop lenN,len_flat lenN,Tryz.f72,encP,tx,prec]
 | .bin x p q,r,hp,hl=>by
  obtain ⟨h4,hp,hq⟩:=hp
  rw [flat,List.cons_append,List.length_cons,List.append_assoc,List.length_append,List.length_append] at hl
  rw [flat,List.cons_append,List.append_assoc]
  have i1:=pc72 p (flat q++r) hp (by rw [List.length_append,List.length_append];omega)
  have i2:=pc72 q r hq (by rw [List.length_append];omega)
  have t1:=tx_len p
  have t2:=tx_len q
  have n1:=inn_len (prec p) 2 (tx p)
  have n2:=inn_len (prec p) 1 (tx p)
  have n3:=inn_len (prec q) 2 (tx q)
  have n4:=inn_len (prec q) 3 (tx q)
  rw [encP] at i1 i2
  have hl2:(flat q++r).length+1≤4000000:=by rw [List.length_append];omega
  have hl3:(flat p++(flat q++r)).length+1≤4000000:=by rw [List.length_append,List.length_append];omega
  generalize flat q++r=u at hl2 hl3 i1 i2 ⊢
  generalize flat p++u=t at hl3 i1 ⊢
  rcases h4 with h | h
  ·refine PC.walk tok mixed cfg0 Tryz.func72 rfl Tryz.call72 (by simp [fmN,fm0]) (by first | rfl | simp [fmN,fm0]) ?_;refine vms1 Tryz.ntmps72 ?_
   refine vms1 h ?_
   refine callO.pc i1 ?_
   refine vms1 h ?_
   refine callO.pc i2 ?_
   refine vms1 h ?_
   refine callG.pc1 (pc117 (tx p) (prec p) 2 (by omega)) ?_
   refine vms0 ?_
   (try refine ⟨by (try simp only [List.length_append,List.length_cons,List.length_nil]);omega,fun _=>?_⟩)
   refine callG.pc1 (pc117 (tx q) (prec q) 3 (by omega)) ?_
   refine vms0 ?_
   (try refine ⟨by (try simp only [List.length_append,List.length_cons,List.length_nil]);omega,fun _=>?_⟩)
   refine endK.ret ?_ (by first | rfl | simp [fmN,fm0]);simp [fmN,fm0,fzs_ok,imp,lenOK_iff,List.take_of_length_le,evRes,getT,getO,setO,fzs,fz,fzH,Nat.beq,retV,Res.then,ldT,ldR,mkV,getV,fmN,fm0,take_N,toN1,slN_nil,tt_3,tt_4,tt_5,tt_9,tt_54,tt_42,tt_25,tt_128,tt_104,tt_116,encN,slN,cfg0,get_flat_part lenN,get_flat_drop lenN,len_flat lenN,Tryz.f72,encP,tx,prec,h]
  ·refine PC.walk tok mixed cfg0 Tryz.func72 rfl Tryz.call72 (by simp [fmN,fm0]) (by first | rfl | simp [fmN,fm0]) ?_;refine vms1 Tryz.ntmps72 ?_
   refine vms1 h ?_
   refine callO.pc i1 ?_
   refine vms1 h ?_
   refine callO.pc i2 ?_
   refine vms1 h ?_
   refine callG.pc1 (pc117 (tx p) (prec p) 1 (by omega)) ?_
   refine vms0 ?_
   (try refine ⟨by (try simp only [List.length_append,List.length_cons,List.length_nil]);omega,fun _=>?_⟩)
   refine callG.pc1 (pc117 (tx q) (prec q) 2 (by omega)) ?_
   refine vms0 ?_
   (try refine ⟨by (try simp only [List.length_append,List.length_cons,List.length_nil]);omega,fun _=>?_⟩)
   refine endK.ret ?_ (by first | rfl | simp [fmN,fm0]);simp [fmN,fm0,fzs_ok,imp,lenOK_iff,List.take_of_length_le,evRes,getT,getO,setO,fzs,fz,fzH,Nat.beq,retV,Res.then,ldT,ldR,mkV,getV,fmN,fm0,take_N,toN1,slN_nil,tt_3,tt_4,tt_5,tt_9,tt_54,tt_42,tt_25,tt_128,tt_104,tt_116,encN,slN,cfg0,get_flat_part lenN,get_flat_drop lenN,len_flat lenN,Tryz.f72,encP,tx,prec,h]
end
section
theorem rnN {q:Nat→Nat} (l:List Nd):rns q (l.flatMap encN)=l.flatMap encN:=rns_ok (bel_Ns l)
def parQ (s:List UInt8):PR→List Nd × Int
 | some (p,[])=>if 24<(flat p).length then ([],12) else if tx p=s then (flat p,0) else ([],23)
 | _=>([],5)
def parP (s:List UInt8):List Nd × Int:=if 16384<s.length then ([],4) else parQ s (pOr (s.length+1) s)
def encMI (r:List Nd × Int):V:=.tup [slM r.1,.int .i64 r.2]
@[simp] theorem bel_MI {n:Nat} {r:List Nd × Int}:(encMI r).bel n=true:=by simp [encMI,bel_tup,belAll_cons,belAll_nil,bel_slM,bel_int]
theorem flat_ne (p:Pr):flat p≠[]:=by
 have:=flat_pos p
 intro e
 rw [e] at this
 cases this
attribute [local push_cast] fmN fm0 take_N toN1 slN_nil encN slN cfg0 gfp_lenN gfd_lenN lfl_lenN V.rn rns qn setPs rnOs Ob.rn List.set_cons_zero List.size_toArray st_M os_M rn_slM rnN
theorem pc48 (s:List UInt8):PC Tryz.prog 48 [.str s] (encMI (parP s)):=by
 by_cases h:16384<s.length
 ·have e:parP s=([],4):=by rw [parP,if_pos h]
  rw [e]
  refine PC.walk tok mixed cfg0 Tryz.func48 rfl Tryz.call48 (by simp [fmN,fm0]) (by first | rfl | simp [fmN,fm0]) ?_;refine vms1 Tryz.ntmps48 ?_
  refine endK.ret ?_ (by first | rfl | simp [fmN,fm0]);simp [evRes,getT,retV,Tryz.f48,encMI,slM_nil]
 have e:parP s=parQ s (pOr (s.length+1) s):=by rw [parP,if_neg h]
 rw [e]
 obtain ⟨l,r,g,hl,hr⟩:=pg36 s (by omega)
 have heat:=pOr_eats (s.length+1) s
 cases hx:pOr (s.length+1) s with
 | none =>
  rw [hx] at g
  refine PC.walk tok mixed cfg0 Tryz.func48 rfl Tryz.call48 (by simp [fmN,fm0]) (by first | rfl | simp [fmN,fm0]) ?_;refine vms1 Tryz.ntmps48 ?_
  refine callO.part0 [0] g (by decide) rfl rfl ⟨by rfl,by simp,trivial⟩ ?_
  refine vms0 ?_
  refine endK.ret ?_ (by first | rfl | simp [fmN,fm0]);simp [evRes,getT,retV,Tryz.f48,parQ,encMI,slM_nil]
 | some q =>
  obtain ⟨p,t⟩:=q
  rw [hx] at g
  obtain ⟨e1,e2⟩:=hr p t hx
  subst e1 e2
  obtain ⟨hlen,hok⟩:=heat p _ hx
  rw [slM_cons (flat_ne p)] at g
  cases r with
  | cons c u =>
   have hne:(c::u=[])=False:=eq_false (List.cons_ne_nil _ _)
   refine PC.walk tok mixed cfg0 Tryz.func48 rfl Tryz.call48 (by simp [fmN,fm0]) (by first | rfl | simp [fmN,fm0]) ?_;refine vms1 Tryz.ntmps48 ?_
   refine callO.part0 [0] g (by decide) rfl rfl ⟨by rfl,by simp,trivial⟩ ?_
   refine vms1 hne ?_
   refine endK.ret ?_ (by first | rfl | simp [fmN,fm0]);simp [evRes,getT,retV,Tryz.f48,parQ,encMI,slM_nil]
  | nil =>
   by_cases h24:24<(flat p).length
   ·refine PC.walk tok mixed cfg0 Tryz.func48 rfl Tryz.call48 (by simp [fmN,fm0]) (by first | rfl | simp [fmN,fm0]) ?_;refine vms1 Tryz.ntmps48 ?_
    refine callO.part0 [0] g (by decide) rfl rfl ⟨by rfl,by simp,trivial⟩ ?_
    refine vms1 h24 ?_
    refine endK.ret ?_ (by first | rfl | simp [fmN,fm0]);simp [evRes,getT,retV,Tryz.f48,parQ,encMI,slM_nil,h24]
   ·have i1:=pc72 p [] hok (by rw [List.append_nil];omega)
    rw [List.append_nil,encP] at i1
    by_cases ht:tx p=s
    ·refine PC.walk tok mixed cfg0 Tryz.func48 rfl Tryz.call48 (by simp [fmN,fm0]) (by first | rfl | simp [fmN,fm0]) ?_;refine vms1 Tryz.ntmps48 ?_
     refine callO.part0 [0] g (by decide) rfl rfl ⟨by rfl,by simp,trivial⟩ ?_
     refine vms1 h24 ?_
     refine callO.pc i1 ?_
     refine vms1 ht ?_
     refine endK.ret ?_ (by first | rfl | simp [fmN,fm0]);simp [evRes,getT,retV,Tryz.f48,parQ,encMI,slM_cons (flat_ne p),h24,ht,slN]
    ·refine PC.walk tok mixed cfg0 Tryz.func48 rfl Tryz.call48 (by simp [fmN,fm0]) (by first | rfl | simp [fmN,fm0]) ?_;refine vms1 Tryz.ntmps48 ?_
     refine callO.part0 [0] g (by decide) rfl rfl ⟨by rfl,by simp,trivial⟩ ?_
     refine vms1 h24 ?_
     refine callO.pc i1 ?_
     refine vms1 ht ?_
     refine endK.ret ?_ (by first | rfl | simp [fmN,fm0]);simp [evRes,getT,retV,Tryz.f48,parQ,encMI,slM_nil,h24,ht]
end
section
theorem prec_top {p:Pr} (hp:okP p):(3≤prec p↔¬((top p).op=5∨(top p).op=6))∧(2≤prec p↔¬(top p).op=6)∧1≤prec p:=by
 cases p with
 | leaf x =>
  obtain ⟨h,_⟩:=hp
  simp only [prec,top]
  omega
 | un x p =>
  obtain ⟨h,_⟩:=hp
  simp only [prec,top]
  omega
 | bin x p q =>
  obtain ⟨h,_⟩:=hp
  simp only [prec,top]
  by_cases h5:x.op=5
  ·rw [if_pos h5]
   omega
  ·rw [if_neg h5]
   omega
attribute [local push_cast] fmN fm0 take_N toN1 slN_nil encN slN cfg0 gfp_lenN gfd_lenN lfl_lenN
theorem pc122 (l:List Nd) (a:Nat) (p:Pr) (r:List Nd) (y z:Int) (h:l.drop a=flat p++r) (hm:l.length≤4000000) (hpc:PC Tryz.prog 77 [slN l,.int .i64 a] (.str (tx p))) :
  PC Tryz.prog 122 [slN l,.int .i64 a,.int .i64 y,.int .i64 z] (.str (if (top p).op=y∨(top p).op=z then [40]++tx p++[41] else tx p)):=by
 obtain ⟨t,ht⟩:=flat_top p
 rw [ht,List.cons_append] at h
 obtain ⟨hlt,hX,_⟩:=drop_cons h
 have t1:=tx_len p
 have hn:=congrArg List.length h
 rw [List.length_drop,←List.cons_append,←ht,List.length_append] at hn
 by_cases hy:(top p).op=y
 ·rw [if_pos (.inl hy)]
  refine PC.walk tok mixed cfg0 Tryz.func122 rfl Tryz.call122 (by simp [fmN,fm0]) (by first | rfl | simp [fmN,fm0]) ?_;refine vms1 Tryz.ntmps122 ?_
  refine vms2 hX hy ?_
  refine callO.pc hpc ?_
  refine vms0 ?_
  (try refine ⟨by (try simp only [List.length_append,List.length_cons,List.length_nil]);omega,fun _=>?_⟩)
  (try refine vms0 ?_)
  (try refine ⟨by (try simp only [List.length_append,List.length_cons,List.length_nil]);omega,fun _=>?_⟩)
  refine endK.ret ?_ (by first | rfl | simp [fmN,fm0]);simp [evRes,getT,retV,Tryz.f122]
 by_cases hz:(top p).op=z
 ·rw [if_pos (.inr hz)]
  refine PC.walk tok mixed cfg0 Tryz.func122 rfl Tryz.call122 (by simp [fmN,fm0]) (by first | rfl | simp [fmN,fm0]) ?_;refine vms1 Tryz.ntmps122 ?_
  refine vms3 hX hy hz ?_
  refine callO.pc hpc ?_
  refine vms0 ?_
  (try refine ⟨by (try simp only [List.length_append,List.length_cons,List.length_nil]);omega,fun _=>?_⟩)
  (try refine vms0 ?_)
  (try refine ⟨by (try simp only [List.length_append,List.length_cons,List.length_nil]);omega,fun _=>?_⟩)
  refine endK.ret ?_ (by first | rfl | simp [fmN,fm0]);simp [evRes,getT,retV,Tryz.f122]
 ·rw [if_neg (fun g=>g.elim hy hz)]
  refine PC.walk tok mixed cfg0 Tryz.func122 rfl Tryz.call122 (by simp [fmN,fm0]) (by first | rfl | simp [fmN,fm0]) ?_;refine vms1 Tryz.ntmps122 ?_
  refine vms3 hX hy hz ?_
  refine callO.pc hpc ?_
  refine vms0 ?_
  refine endK.ret ?_ (by first | rfl | simp [fmN,fm0]);simp [evRes,getT,retV,Tryz.f122]
theorem in3 {p:Pr} (hp:okP p):(if (top p).op=5∨(top p).op=6 then [40]++tx p++[41] else tx p)=inn (prec p) 3 (tx p):=by
 have:=(prec_top hp).1
 unfold inn
 by_cases h:(top p).op=5∨(top p).op=6
 ·rw [if_pos h,if_pos (by omega)]
 ·rw [if_neg h,if_neg (by omega)]
theorem in2 {p:Pr} (hp:okP p):(if (top p).op=6∨(top p).op=6 then [40]++tx p++[41] else tx p)=inn (prec p) 2 (tx p):=by
 have:=(prec_top hp).2.1
 unfold inn
 by_cases h:(top p).op=6
 ·rw [if_pos (.inl h),if_pos (by omega)]
 ·rw [if_neg (fun g=>g.elim h h),if_neg (by omega)]
theorem in1 {p:Pr} (hp:okP p):inn (prec p) 1 (tx p)=tx p:=by
 have:=(prec_top hp).2.2
 rw [inn,if_neg (by omega)]
theorem pc35f (l:List Nd) (hm:l.length≤4000000) (x:Nd) (a:Nat) (hlt:a<l.length) (hX:l[a]=x) (h:x.op=3):PC Tryz.prog 77 [slN l,.int .i64 a] (.str (tx (.leaf x))):=by
 have h1:=fname_len x.fd
 have h2:=dec8_len x.v.toNat
 have h3:=dec8_len x.m.toNat
 have hv:=x.v.toNat_lt
 have hm2:=x.m.toNat_lt
 refine PC.walk tok mixed cfg0 Tryz.func77 rfl Tryz.call77 (by simp [fmN,fm0]) (by first | rfl | simp [fmN,fm0]) ?_;refine vms1 Tryz.ntmps77 ?_
 refine vms2 hX h ?_
 refine callG.pc1 (pc121 x.fd) ?_
 refine vms0 ?_
 (try refine ⟨by (try simp only [List.length_append,List.length_cons,List.length_nil]);omega,fun _=>?_⟩)
 refine callG.pc1 (pc45 x.v.toNat hv) ?_
 refine vms0 ?_
 (try refine ⟨by (try simp only [List.length_append,List.length_cons,List.length_nil]);omega,fun _=>?_⟩)
 by_cases hm5:x.m=255
 ·simp (maxSteps:=2000000) -implicitDefEqProofs +contextual (disch:=first | assumption | omega | decide +kernel) only [push_cast,↓capI,seval,Nat.reduceLeDiff,Nat.reduceEqDiff,reduceCtorEq,↓reduceIte,m255,hm5]
  refine endK.ret ?_ (by first | rfl | simp [fmN,fm0]);simp [evRes,getT,retV,Tryz.f77,tx,h,hm5]
 ·simp (maxSteps:=2000000) -implicitDefEqProofs +contextual (disch:=first | assumption | omega | decide +kernel) only [push_cast,↓capI,seval,Nat.reduceLeDiff,Nat.reduceEqDiff,reduceCtorEq,↓reduceIte,m255,hm5]
  (try refine ⟨by (try simp only [List.length_append,List.length_cons,List.length_nil]);omega,fun _=>?_⟩)
  refine callO.pc (pc45 x.m.toNat hm2) ?_
  refine vms0 ?_
  (try refine ⟨by (try simp only [List.length_append,List.length_cons,List.length_nil]);omega,fun _=>?_⟩)
  refine endK.ret ?_ (by first | rfl | simp [fmN,fm0]);simp [evRes,getT,retV,Tryz.f77,tx,h,hm5]
theorem pc77 (l:List Nd) (hm:l.length≤4000000):∀(p:Pr) (a:Nat) (r:List Nd),okP p→l.drop a=flat p++r→PC Tryz.prog 77 [slN l,.int .i64 a] (.str (tx p))
 | .leaf x,a,r,hp,hl=>by
  obtain ⟨h0,hc⟩:=hp
  obtain ⟨hlt,hX,h2⟩:=drop_cons (x:=x) (r:=r) hl
  rcases h0 with h | h | h
  ·refine PC.walk tok mixed cfg0 Tryz.func77 rfl Tryz.call77 (by simp [fmN,fm0]) (by first | rfl | simp [fmN,fm0]) ?_;refine vms1 Tryz.ntmps77 ?_
   refine vms2 hX h ?_
   refine endK.ret ?_ (by first | rfl | simp [fmN,fm0]);simp [evRes,getT,retV,Tryz.f77,tx,h]
  ·refine PC.walk tok mixed cfg0 Tryz.func77 rfl Tryz.call77 (by simp [fmN,fm0]) (by first | rfl | simp [fmN,fm0]) ?_;refine vms1 Tryz.ntmps77 ?_
   refine vms2 hX h ?_
   refine endK.ret ?_ (by first | rfl | simp [fmN,fm0]);simp [evRes,getT,retV,Tryz.f77,tx,h]
  ·exact pc35f l hm x a hlt hX h
 | .un x p,a,r,hp,hl=>by
  obtain ⟨h4,hp⟩:=hp
  obtain ⟨hlt,hX,h2⟩:=drop_cons (x:=x) (r:=flat p++r) (by rw [hl,flat,List.cons_append])
  have i1:=pc122 l (a+1) p r 5 6 h2 hm (pc77 l hm p (a+1) r hp h2)
  rw [show ((a+1:Nat):Int)=a+1 from rfl,in3 hp] at i1
  have hn:=drop_len hlt h2
  have ht:=tx_len p
  have hn:=inn_len (prec p) 3 (tx p)
  refine PC.walk tok mixed cfg0 Tryz.func77 rfl Tryz.call77 (by simp [fmN,fm0]) (by first | rfl | simp [fmN,fm0]) ?_;refine vms1 Tryz.ntmps77 ?_
  refine vms2 hX h4 ?_
  refine callO.pc i1 ?_
  refine vms0 ?_
  (try refine ⟨by (try simp only [List.length_append,List.length_cons,List.length_nil]);omega,fun _=>?_⟩)
  refine endK.ret ?_ (by first | rfl | simp [fmN,fm0]);simp [evRes,getT,retV,Tryz.f77,tx]
 | .bin x p q,a,r,hp,hl=>by
  obtain ⟨h4,hp,hq⟩:=hp
  obtain ⟨hlt,hX,h2⟩:=drop_cons (x:=x) (r:=flat p++(flat q++r)) (by rw [hl,flat,List.cons_append,List.append_assoc])
  have j1:=pc77 l hm p (a+1) _ hp h2
  have j2:=pc77 l hm q (a+1+(flat p).length) r hq (drop_app h2)
  have i3:=pc110 p l (a+1) _ hp h2 hlt hm
  have hn:=drop_len hlt h2
  have hn2:=drop_len (by omega) (drop_app h2)
  have hnn:(flat p).length≤4000000:=by omega
  have t1:=tx_len p
  have t2:=tx_len q
  have n1:=inn_len (prec p) 2 (tx p)
  have n2:=inn_len (prec p) 1 (tx p)
  have n3:=inn_len (prec q) 2 (tx q)
  have n4:=inn_len (prec q) 3 (tx q)
  rcases h4 with h | h
  ·have i1:=pc122 l (a+1) p _ 6 6 h2 hm j1
   have i2:=pc122 l (a+1+(flat p).length) q _ 5 6 (drop_app h2) hm j2
   rw [in2 hp] at i1
   rw [in3 hq] at i2
   rw [show ((a+1+(flat p).length:Nat):Int)=(a:Int)+1+((flat p).length:Nat) by omega] at i2
   rw [show ((a+1:Nat):Int)=a+1 from rfl] at i1 i3
   refine PC.walk tok mixed cfg0 Tryz.func77 rfl Tryz.call77 (by simp [fmN,fm0]) (by first | rfl | simp [fmN,fm0]) ?_;refine vms1 Tryz.ntmps77 ?_
   refine vms2 hX h ?_
   refine callO.pc i1 ?_
   refine vms0 ?_
   (try refine ⟨by (try simp only [List.length_append,List.length_cons,List.length_nil]);omega,fun _=>?_⟩)
   refine callO.pc i3 ?_
   refine vms0 ?_
   refine callO.pc i2 ?_
   refine vms0 ?_
   (try refine ⟨by (try simp only [List.length_append,List.length_cons,List.length_nil]);omega,fun _=>?_⟩)
   refine endK.ret ?_ (by first | rfl | simp [fmN,fm0]);simp [evRes,getT,retV,Tryz.f77,tx,h]
  ·have i2:=pc122 l (a+1+(flat p).length) q _ 6 6 (drop_app h2) hm j2
   rw [in2 hq] at i2
   rw [show ((a+1+(flat p).length:Nat):Int)=(a:Int)+1+((flat p).length:Nat) by omega] at i2
   rw [show ((a+1:Nat):Int)=a+1 from rfl] at j1 i3
   refine PC.walk tok mixed cfg0 Tryz.func77 rfl Tryz.call77 (by simp [fmN,fm0]) (by first | rfl | simp [fmN,fm0]) ?_;refine vms1 Tryz.ntmps77 ?_
   refine vms2 hX h ?_
   refine callO.pc j1 ?_
   refine vms0 ?_
   (try refine ⟨by (try simp only [List.length_append,List.length_cons,List.length_nil]);omega,fun _=>?_⟩)
   refine callO.pc i3 ?_
   refine vms0 ?_
   refine callO.pc i2 ?_
   refine vms0 ?_
   (try refine ⟨by (try simp only [List.length_append,List.length_cons,List.length_nil]);omega,fun _=>?_⟩)
   refine endK.ret ?_ (by first | rfl | simp [fmN,fm0]);simp [evRes,getT,retV,Tryz.f77,tx,h,in1 hp]
def fmtL (l:List Nd) (s:List UInt8) (e:Int):Prop:=e=checkP l∧((checkP l=0∧∃p,okP p∧l=flat p∧s=tx p)∨(checkP l≠0∧s=[]))
theorem pc35 (l:List Nd) (hl:l.length≤4000000) (s:List UInt8) (e:Int) (h:fmtL l s e):PC Tryz.prog 35 [slN l] (.tup [.str s,.int .i64 e]):=by
 obtain ⟨he,⟨hc,p,hp,hf,hs⟩ | ⟨hc,hs⟩⟩:=h
 ·have i1:=pc72 p [] hp (by rw [List.append_nil,←hf];exact hl)
  rw [List.append_nil,←hf,encP] at i1
  have i0:=pc55 l hl
  rw [hc] at i0
  refine PC.walk tok mixed cfg0 Tryz.func35 rfl Tryz.call35 (by simp [fmN,fm0]) (by first | rfl | simp [fmN,fm0]) ?_;refine vms1 Tryz.ntmps35 ?_
  refine callO.pc i0 ?_
  refine vms0 ?_
  refine callO.pc i1 ?_
  refine vms0 ?_
  refine endK.ret ?_ (by first | rfl | simp [fmN,fm0]);simp [evRes,getT,retV,Tryz.f35,he,hc,hs]
 ·refine PC.walk tok mixed cfg0 Tryz.func35 rfl Tryz.call35 (by simp [fmN,fm0]) (by first | rfl | simp [fmN,fm0]) ?_;refine vms1 Tryz.ntmps35 ?_
  refine callO.pc (pc55 l hl) ?_
  refine vms1 hc ?_
  refine endK.ret ?_ (by first | rfl | simp [fmN,fm0]);simp [evRes,getT,retV,Tryz.f35,he,hs]
end
section
end
end Go.Proofs.YtlbmbbaefncleaaGreatDoor.Pd

/-
  Joined by a program from the texts PxRw1 PxExa PxRw2 PxRw3 PxRw4.
-/
import Derived.Test.YtlbmbbaefncleaaGreatDoorOi
import Derived.Test.YtlbmbbaefncleaaGreatDoorOh
set_option maxRecDepth 100000
set_option maxHeartbeats 4000000
set_option linter.all false
namespace Go.Proofs.YtlbmbbaefncleaaGreatDoor.Px
open Go.Vm
section
def cfgL:Cfg:={ lv:=[7],ef:=[],ord:=[],em:=[] }
theorem ones_H {g:Bool} {p:Prop}:∀ {xs:List Hop},ones g (xs.flatMap encH) p=p
 | []=>rfl
 | x::xs=>by simp only [List.flatMap_cons,encH,List.cons_append,List.nil_append,ones,V.one];exact ones_H
theorem eqH {x y:Hop}:(x.sw==y.sw&&(x.inp==y.inp&&x.out==y.out))=decide (x=y):=by
 obtain ⟨a1,a2,a3⟩:=x
 obtain ⟨b1,b2,b3⟩:=y
 by_cases h1:a1=b1<;>by_cases h2:a2=b2<;>by_cases h3:a3=b3<;>simp [h1,h2,h3]
def swT (l:List Hop) (j:Nat):List V:=(l.take j).map fun h=>V.int .i64 h.sw
theorem swT_0 (l:List Hop):swT l 0=[]:=rfl
theorem swT_len {l:List Hop} {j:Nat} (h:j≤l.length):(swT l j).length=j:=by
 rw [swT,List.length_map,List.length_take];omega
@[simp] theorem bel_swT {n:Nat} (l:List Hop) (j:Nat):belAll n (swT l j)=true:=belAll_map (fun _=>rfl) _
theorem put_out {o:List Hop} {s i x p:Int}:putV ((o++[(⟨s,i,x⟩:Hop)]).flatMap encH) (o.length*3+2) [.int .i64 p]=(o++[(⟨s,i,p⟩:Hop)]).flatMap encH:=by
 rw [List.flatMap_append,List.flatMap_append]
 have h:=len_flat lenH o
 have:=putV_right (o.flatMap encH) (List.flatMap encH [(⟨s,i,x⟩:Hop)]) [.int .i64 p] 2
 rw [h] at this
 rw [this]
 rfl
attribute [local push_cast] cfg0 cfgL encH slH slI slN zTb gfp_lenH gfd_lenH lfl_lenH ones_H take_H eqH swT_len List.length_map Nat.mul_one put_out
theorem pc23 (a b:List Hop) (hf:a.length≤2^30):PC Tryz.prog 23 [slH a,slH b] (.bool (decide (a=b))):=by
 refine PC.walk tok mixed cfg0 Tryz.func23 rfl Tryz.call23 (by simp [Top.belT]) (by first | rfl | simp [Top.belT]) ?_;refine vms1 Tryz.ntmps23 ?_
 refine ⟨fun hl=>?_,fun hl=>?_⟩
 ·have:a≠b:=fun h=>by simp [h] at hl
  refine endK.ret ?_ (by first | rfl | simp [Top.belT]);simp [evRes,getT,retV,Tryz.f23,this]
 ·have hl:a.length=b.length:=by omega
  refine T.lp tok mixed cfg0 (fun (j:Nat)=>kp 2 (dd 3 (sv (.int .i64 j) (dd 20 (nl))))) (fun H0 (j:Nat)=>H0) (fun (j:Nat)=>j≤a.length∧decide (a.drop j=b.drop j)=decide (a=b)) (fun (j:Nat)=>a.length-j) (0) ?_ ?_ ?_
  ·exact ⟨Nat.zero_le _,rfl⟩
  ·exact Gn.canon (J:=_) (by first | rfl | (simp [List.append_nil,swT_0,slH,slI,encH];done) | (simp [List.append_nil,swT_0,slH,slI,encH];rfl)) (by simp [wk,slH,slI,putT,kp,dd,sv,nl]) (by simp [List.length_append]) (by simp [Top.belT,kp,dd,sv,nl]) (by simp [Top.belT])
  ·rintro j ⟨hle,hj⟩
   by_cases hlt:j<a.length
   ·have hltb:j<b.length:=by omega
    refine vms2 hlt hltb ?_
    have hc:=Top.eq_cons hlt (by omega) hj
    refine ⟨fun he=>?_,fun he=>?_⟩
    ·refine endK.ret ?_ (by first | rfl | simp [Top.belT]);simp [evRes,getT,retV,Tryz.f23,hc.1 he]
    ·refine ⟨j+1,⟨by omega,hc.2 he⟩,by (try simp only);omega,?_⟩;exact Gn.canon (by first | rfl | (simp [List.append_nil,swT_0,slH,slI,encH];rfl)) (by simp [wk,slH,slI]) (by simp [List.length_append]) (by simp [Top.belT]) (by simp [Top.belT])
   ·refine vms1 hlt ?_
    refine endK.ret ?_ (by first | rfl | simp [Top.belT]);simp [evRes,getT,retV,Tryz.f23,Top.eq_end (by omega) (by omega) hj]
theorem pcj99 {o:List Hop} {s i x p:Int} (ho:o.length≤2^30):PCJ Tryz.prog 99 [slH (o++[(⟨s,i,x⟩:Hop)]),.int .i64 p] (.buf 0 0 0 (o.length+1) 3) [.cells 0 ((o++[(⟨s,i,p⟩:Hop)]).flatMap encH)]:=by
 have hlen:=len_flat lenH (o++[(⟨s,i,x⟩:Hop)])
 have h1:(o++[(⟨s,i,x⟩:Hop)]).length=o.length+1:=by simp
 rw [h1] at hlen
 have htk0:List.take ((o.length+1)*3) ((o++[(⟨s,i,x⟩:Hop)]).flatMap encH)=(o++[(⟨s,i,x⟩:Hop)]).flatMap encH:=List.take_of_length_le (by omega)
 have hs:((o.length:Int)+1-1).toNat=o.length:=by omega
 refine PCJ.walk tok mixed cfgL Tryz.func99 rfl Tryz.call99 (by simp [Top.belT]) ?_;simp (maxSteps:=2000000) -implicitDefEqProofs +contextual (disch:=first | assumption | omega | decide +kernel) only [push_cast,↓capI,seval,Nat.reduceLeDiff,Nat.reduceEqDiff,reduceCtorEq,↓reduceIte,Tryz.ntmps99,cfgL]
 refine vms2 htk0 hs ?_
 generalize o++[(⟨s,i,p⟩:Hop)]=L at *
 refine endJ.ret ([]) (by simp [Top.belT,fzs_ok,getO,setO,fzs,fz,fzH,Nat.beq,cfg0,cfgL,encH,slH,slI,slN,zTb,get_flat_part lenH,get_flat_drop lenH,len_flat lenH,ones_H,take_H,eqH,swT_len,List.length_map,Nat.mul_one,put_out]) (by simp [Top.belT,fzs_ok,imp,lenOK_iff,List.take_of_length_le,evRes,getT,getO,setO,fzs,fz,fzH,Nat.beq,retV,Res.then,ldT,ldR,mkV,getV,cfg0,cfgL,encH,slH,slI,slN,zTb,get_flat_part lenH,get_flat_drop lenH,len_flat lenH,ones_H,take_H,eqH,swT_len,List.length_map,Nat.mul_one,put_out,Tryz.f99]) (by first | rfl | simp [Top.belT]) (by first | rfl | simp [Top.belT])
theorem pc99 {o:List Hop} {s i x p:Int} (ho:o.length≤2^30):PC Tryz.prog 99 [slH (o++[(⟨s,i,x⟩:Hop)]),.int .i64 p] (slH (o++[(⟨s,i,p⟩:Hop)])):=by
 have hlen:=len_flat lenH (o++[(⟨s,i,x⟩:Hop)])
 have hlen2:=len_flat lenH (o++[(⟨s,i,p⟩:Hop)])
 have h1:(o++[(⟨s,i,x⟩:Hop)]).length=o.length+1:=by simp
 have h2:(o++[(⟨s,i,p⟩:Hop)]).length=o.length+1:=by simp
 rw [h1] at hlen
 rw [h2] at hlen2
 have htk:List.take ((o.length+1)*3) ((o++[(⟨s,i,p⟩:Hop)]).flatMap encH)=(o++[(⟨s,i,p⟩:Hop)]).flatMap encH:=List.take_of_length_le (by omega)
 have htk0:List.take ((o.length+1)*3) ((o++[(⟨s,i,x⟩:Hop)]).flatMap encH)=(o++[(⟨s,i,x⟩:Hop)]).flatMap encH:=List.take_of_length_le (by omega)
 have hs:((o.length:Int)+1-1).toNat=o.length:=by omega
 refine PC.walk tok mixed cfgL Tryz.func99 rfl Tryz.call99 (by simp [Top.belT]) (by first | rfl | simp [Top.belT]) ?_;simp (maxSteps:=2000000) -implicitDefEqProofs +contextual (disch:=first | assumption | omega | decide +kernel) only [push_cast,↓capI,seval,Nat.reduceLeDiff,Nat.reduceEqDiff,reduceCtorEq,↓reduceIte,Tryz.ntmps99,cfgL]
 refine vms2 htk0 hs ?_
 generalize o++[(⟨s,i,p⟩:Hop)]=L at *
 refine endK.gn (Gn.freeze (id:=0) rfl) ?_;refine endK.ret ?_ (by first | rfl | simp [Top.belT]);simp [Top.belT,fzs_ok,imp,lenOK_iff,List.take_of_length_le,evRes,getT,getO,setO,fzs,fz,fzH,Nat.beq,retV,Res.then,ldT,ldR,mkV,getV,cfg0,cfgL,encH,slH,slI,slN,zTb,get_flat_part lenH,get_flat_drop lenH,len_flat lenH,ones_H,take_H,eqH,swT_len,List.length_map,Nat.mul_one,put_out,Tryz.f99,slH,h2,htk]
end
section
theorem Tb.eq_iff {a b:Tb}:a=b↔a.next=b.next∧a.acc=b.acc:=by
 cases a;cases b;simp
instance:DecidableEq Tb:=fun a b=>if h:a.next=b.next∧a.acc=b.acc then .isTrue (Tb.eq_iff.2 h) else .isFalse (fun e=>h (Tb.eq_iff.1 e))
theorem flat_inj (sw:Int):∀(p q:Pr) (r s:List Nd),okP sw p→okP sw q→flat p++r=flat q++s→p=q∧r=s:=by
 intro p
 induction p with
 | leaf x =>
  intro q r s hp hq h
  have h1:=hp.1
  cases q with
  | leaf y =>
   injection h with h1 h2
   exact ⟨by rw [h1],h2⟩
  | un y q =>
   injection h with h2 _
   have:=hq.1
   rw [h2] at h1
   omega
  | bin y q1 q2 =>
   injection h with h2 _
   have:=hq.1
   rw [h2] at h1
   omega
 | un x p ih =>
  intro q r s hp hq h
  have h1:=hp.1
  cases q with
  | leaf y =>
   injection h with h2 _
   have:=hq.1
   rw [h2] at h1
   omega
  | un y q =>
   injection h with h2 h3
   obtain ⟨e1,e2⟩:=ih q r s hp.2 hq.2 h3
   exact ⟨by rw [h2,e1],e2⟩
  | bin y q1 q2 =>
   injection h with h2 _
   have:=hq.1
   rw [h2] at h1
   omega
 | bin x p1 p2 i1 i2 =>
  intro q r s hp hq h
  have h1:=hp.1
  cases q with
  | leaf y =>
   injection h with h2 _
   have:=hq.1
   rw [h2] at h1
   omega
  | un y q =>
   injection h with h2 _
   have:=hq.1
   rw [h2] at h1
   omega
  | bin y q1 q2 =>
   injection h with h2 h3
   rw [List.append_eq,List.append_eq,List.append_assoc,List.append_assoc] at h3
   obtain ⟨e1,e2⟩:=i1 q1 _ _ hp.2.1 hq.2.1 h3
   obtain ⟨e3,e4⟩:=i2 q2 r s hp.2.2 hq.2.2 e2
   exact ⟨by rw [h2,e1,e3],e4⟩
end
section
def autR (p:Pr) (m:Nat):Tb:=minS (detT (nxP p) m)
def badR (t:Top.Tp) (x y:Int):Prop:=x<0∨(t.hosts.length:Int)≤x∨y<0∨(t.hosts.length:Int)≤y
instance (t:Top.Tp) (x y:Int):Decidable (badR t x y):=by unfold badR;infer_instance
def errR (t:Top.Tp) (x y:Int) (r:List Nd) (e:Int):Prop :=
 (Top.chk t≠0∧e=Top.chk t)∨(Top.chk t=0∧badR t x y∧e=9)∨(Top.chk t=0∧¬badR t x y∧checkP t.ports.length r≠0∧e=checkP t.ports.length r) ∨
 (Top.chk t=0∧¬badR t x y∧checkP t.ports.length r=0∧(∃p,okP t.ports.length p∧r=flat p∧64<(autR p t.ports.length).next.length)∧e=12)
structure okR (t:Top.Tp) (x y:Int) (r:List Nd) (p:Pr):Prop where
 top:Top.chk t=0
 rng:¬badR t x y
 chk:checkP t.ports.length r=0
 ok:okP t.ports.length p
 flt:r=flat p
 len:r.length≤24
 few:(autR p t.ports.length).next.length≤64
def argV (t:Top.Tp) (x y:Int) (r:List Nd):List V:=[.agg (Top.encT t),.int .i64 x,.int .i64 y,slN r]
def ArgR (f:Nat) (t:Top.Tp) (x y:Int) (r:List Nd):Prop :=
 (∃e,errR t x y r e∧e≠0∧PC Tryz.prog f (argV t x y r) (.tup [zTb,.int .i64 e])) ∨
 (∃p,okR t x y r p∧PC Tryz.prog f (argV t x y r) (.tup [.agg (encT (autR p t.ports.length)),.int .i64 0]))
theorem errR_one {t:Top.Tp} {x y:Int} {r:List Nd} {e e':Int} (h:errR t x y r e) (h':errR t x y r e'):e=e':=by
 rcases h with ⟨a,h⟩ | ⟨a,b,h⟩ | ⟨a,b,c,h⟩ | ⟨a,b,c,_,h⟩<;>rcases h' with ⟨a',h'⟩ | ⟨a',b',h'⟩ | ⟨a',b',c',h'⟩ | ⟨a',b',c',_,h'⟩<;>first | exact absurd a' a | exact absurd a a' | exact absurd b b' | exact absurd b' b | exact absurd c c' | exact absurd c' c | rw [h,h']
theorem okR_no {t:Top.Tp} {x y:Int} {r:List Nd} {e:Int} {p:Pr} (h:errR t x y r e) (ho:okR t x y r p):False:=by
 rcases h with ⟨a,_⟩ | ⟨_,b,_⟩ | ⟨_,_,c,_⟩ | ⟨_,_,_,⟨q,hq,hf,h64⟩,_⟩
 ·exact a ho.top
 ·exact ho.rng b
 ·exact c ho.chk
 ·obtain ⟨e2,_⟩:=flat_inj _ p q [] [] ho.ok hq (by rw [←ho.flt,←hf])
  subst e2
  have:=ho.few
  omega
theorem okR_one {t:Top.Tp} {x y:Int} {r:List Nd} {p q:Pr} (h:okR t x y r p) (h':okR t x y r q):p=q :=
 (flat_inj _ p q [] [] h.ok h'.ok (by rw [←h.flt,←h'.flt])).1
theorem fit_of {t:Top.Tp} {x y:Int} {r:List Nd} {p:Pr} (h:okR t x y r p):Fit t (autR p t.ports.length):=by
 have hv:=Top.chk_valid h.top
 have h24:=h.len
 rw [h.flt] at h24
 have hsz:=siz_nx (t.ports.length:Int) p h.ok
 have hD:=cls_of (x:=nxP p) (by omega)
 have hT:=(detT_ok hD (x:=nxP p) (by simp) (m:=t.ports.length) hv.small hv.pos).1
 exact ⟨h.top,(minS_ok hT).1,h.few⟩
theorem arg_bld {f g:Nat} {t:Top.Tp} {x y:Int} {r:List Nd} (h0:Top.chk t=0) (hb:¬badR t x y) (hc:checkP t.ports.length r=0) (hg:BldR g r t.ports.length)
  (k:∀(v:V) (e:Int),PC Tryz.prog g [slN r,.int .i64 (t.ports.length:Int)] (.tup [v,.int .i64 e])→(v=zTb∨∃u,v=.agg (encT u))→PC Tryz.prog f (argV t x y r) (.tup [v,.int .i64 e])):ArgR f t x y r:=by
 have hv:=Top.chk_valid h0
 have h16:=hv.small
 have hpos:=hv.pos
 rcases hg with ⟨hs,_⟩ | ⟨_,h,_⟩ | ⟨_,_,p,hp,hf,h24,h⟩
 ·omega
 ·exact absurd hc h
 ·rw [Int.toNat_natCast,bldV] at h
  by_cases h64:64<(minS (detT (nxP p) t.ports.length)).next.length
  ·rw [if_pos h64] at h
   exact .inl ⟨12,.inr (.inr (.inr ⟨h0,hb,hc,⟨p,hp,hf,h64⟩,rfl⟩)),by decide,k _ _ h (.inl rfl)⟩
  ·rw [if_neg h64] at h
   exact .inr ⟨p,⟨h0,hb,hc,hp,hf,h24,by rw [autR];omega⟩,k _ _ h (.inr ⟨_,rfl⟩)⟩
@[simp] theorem bel_zTb' {n:Nat}:zTb.bel n=true:=rfl
attribute [local push_cast] cfg0 Top.encT Top.slI Top.slP Top.slL slN zTb
theorem arg25 (t:Top.Tp) (x y:Int) (r:List Nd) (hf:t.fit) (hr:r.length≤4000000):ArgR 98 t x y r:=by
 have h38:=Top.pc54 t hf
 have hp:=hf.ports
 have hh:=hf.hosts
 by_cases h0:Top.chk t=0
 case neg =>
  refine .inl ⟨_,.inl ⟨h0,rfl⟩,h0,?_⟩
  rw [argV]
  refine PC.walk tok mixed cfg0 Tryz.func98 rfl Tryz.call98 (by simp [Top.belT,Top.bel_slL,Top.bel_slP]) (by first | rfl | simp [Top.belT,Top.bel_slL,Top.bel_slP]) ?_;refine vms1 Tryz.ntmps98 ?_
  refine callO.pc h38 ?_
  refine vms1 h0 ?_
  refine endK.ret ?_ (by first | rfl | simp [Top.belT,Top.bel_slL,Top.bel_slP]);simp [evRes,getT,retV,Tryz.f98,zTb,tt_160,Res.then,ldT,ldR,getO,mkV,getV,imp,lenOK_iff]
 by_cases hb:badR t x y
 ·refine .inl ⟨9,.inr (.inl ⟨h0,hb,rfl⟩),by decide,?_⟩
  rw [argV]
  have hb':=hb
  rw [badR] at hb'
  by_cases b1:x<0
  ·refine PC.walk tok mixed cfg0 Tryz.func98 rfl Tryz.call98 (by simp [Top.belT,Top.bel_slL,Top.bel_slP]) (by first | rfl | simp [Top.belT,Top.bel_slL,Top.bel_slP]) ?_;refine vms1 Tryz.ntmps98 ?_
   refine callO.pc h38 ?_
   simp (maxSteps:=2000000) -implicitDefEqProofs +contextual (disch:=first | assumption | omega | decide +kernel) only [push_cast,↓capI,seval,Nat.reduceLeDiff,Nat.reduceEqDiff,reduceCtorEq,↓reduceIte,h0,b1]
   refine endK.ret ?_ (by first | rfl | simp [Top.belT,Top.bel_slL,Top.bel_slP]);simp [evRes,getT,retV,Tryz.f98,zTb,tt_160,Res.then,ldT,ldR,getO,mkV,getV,imp,lenOK_iff]
  by_cases b2:(t.hosts.length:Int)≤x
  ·refine PC.walk tok mixed cfg0 Tryz.func98 rfl Tryz.call98 (by simp [Top.belT,Top.bel_slL,Top.bel_slP]) (by first | rfl | simp [Top.belT,Top.bel_slL,Top.bel_slP]) ?_;refine vms1 Tryz.ntmps98 ?_
   refine callO.pc h38 ?_
   simp (maxSteps:=2000000) -implicitDefEqProofs +contextual (disch:=first | assumption | omega | decide +kernel) only [push_cast,↓capI,seval,Nat.reduceLeDiff,Nat.reduceEqDiff,reduceCtorEq,↓reduceIte,h0,b1,b2]
   refine endK.ret ?_ (by first | rfl | simp [Top.belT,Top.bel_slL,Top.bel_slP]);simp [evRes,getT,retV,Tryz.f98,zTb,tt_160,Res.then,ldT,ldR,getO,mkV,getV,imp,lenOK_iff]
  by_cases b3:y<0
  ·refine PC.walk tok mixed cfg0 Tryz.func98 rfl Tryz.call98 (by simp [Top.belT,Top.bel_slL,Top.bel_slP]) (by first | rfl | simp [Top.belT,Top.bel_slL,Top.bel_slP]) ?_;refine vms1 Tryz.ntmps98 ?_
   refine callO.pc h38 ?_
   simp (maxSteps:=2000000) -implicitDefEqProofs +contextual (disch:=first | assumption | omega | decide +kernel) only [push_cast,↓capI,seval,Nat.reduceLeDiff,Nat.reduceEqDiff,reduceCtorEq,↓reduceIte,h0,b1,b2,b3]
   refine endK.ret ?_ (by first | rfl | simp [Top.belT,Top.bel_slL,Top.bel_slP]);simp [evRes,getT,retV,Tryz.f98,zTb,tt_160,Res.then,ldT,ldR,getO,mkV,getV,imp,lenOK_iff]
  have b4:(t.hosts.length:Int)≤y:=by omega
  refine PC.walk tok mixed cfg0 Tryz.func98 rfl Tryz.call98 (by simp [Top.belT,Top.bel_slL,Top.bel_slP]) (by first | rfl | simp [Top.belT,Top.bel_slL,Top.bel_slP]) ?_;refine vms1 Tryz.ntmps98 ?_
  refine callO.pc h38 ?_
  simp (maxSteps:=2000000) -implicitDefEqProofs +contextual (disch:=first | assumption | omega | decide +kernel) only [push_cast,↓capI,seval,Nat.reduceLeDiff,Nat.reduceEqDiff,reduceCtorEq,↓reduceIte,h0,b1,b2,b3,b4]
  refine endK.ret ?_ (by first | rfl | simp [Top.belT,Top.bel_slL,Top.bel_slP]);simp [evRes,getT,retV,Tryz.f98,zTb,tt_160,Res.then,ldT,ldR,getO,mkV,getV,imp,lenOK_iff]
 have hb':=hb
 rw [badR] at hb'
 have b1:¬x<0:=by omega
 have b2:¬(t.hosts.length:Int)≤x:=by omega
 have b3:¬y<0:=by omega
 have b4:¬(t.hosts.length:Int)≤y:=by omega
 have h39:=pc56 (t.ports.length:Int) r hr
 by_cases hc:checkP t.ports.length r=0
 case neg =>
  refine .inl ⟨_,.inr (.inr (.inl ⟨h0,hb,hc,rfl⟩)),hc,?_⟩
  rw [argV]
  refine PC.walk tok mixed cfg0 Tryz.func98 rfl Tryz.call98 (by simp [Top.belT,Top.bel_slL,Top.bel_slP]) (by first | rfl | simp [Top.belT,Top.bel_slL,Top.bel_slP]) ?_;refine vms1 Tryz.ntmps98 ?_
  refine callO.pc h38 ?_
  simp (maxSteps:=2000000) -implicitDefEqProofs +contextual (disch:=first | assumption | omega | decide +kernel) only [push_cast,↓capI,seval,Nat.reduceLeDiff,Nat.reduceEqDiff,reduceCtorEq,↓reduceIte,h0,b1,b2,b3,b4]
  refine callO.pc h39 ?_
  refine vms1 hc ?_
  refine endK.ret ?_ (by first | rfl | simp [Top.belT,Top.bel_slL,Top.bel_slP]);simp [evRes,getT,retV,Tryz.f98,zTb,tt_160,Res.then,ldT,ldR,getO,mkV,getV,imp,lenOK_iff]
 refine arg_bld h0 hb hc (bld9 hr) fun v e h hv=>?_
 rw [argV]
 rcases hv with rfl | ⟨u,rfl⟩
 ·refine PC.walk tok mixed cfg0 Tryz.func98 rfl Tryz.call98 (by simp [Top.belT,Top.bel_slL,Top.bel_slP]) (by first | rfl | simp [Top.belT,Top.bel_slL,Top.bel_slP]) ?_;refine vms1 Tryz.ntmps98 ?_
  refine callO.pc h38 ?_
  simp (maxSteps:=2000000) -implicitDefEqProofs +contextual (disch:=first | assumption | omega | decide +kernel) only [push_cast,↓capI,seval,Nat.reduceLeDiff,Nat.reduceEqDiff,reduceCtorEq,↓reduceIte,h0,b1,b2,b3,b4]
  refine callO.pc h39 ?_
  refine vms1 hc ?_
  refine callO.pc h ?_
  refine vms0 ?_
  refine endK.ret ?_ (by first | rfl | simp [Top.belT,Top.bel_slL,Top.bel_slP]);simp [evRes,getT,retV,Tryz.f98,zTb,tt_160,Res.then,ldT,ldR,getO,mkV,getV,imp,lenOK_iff]
 ·obtain ⟨un,ua⟩:=u
  refine PC.walk tok mixed cfg0 Tryz.func98 rfl Tryz.call98 (by simp [Top.belT,Top.bel_slL,Top.bel_slP]) (by first | rfl | simp [Top.belT,Top.bel_slL,Top.bel_slP]) ?_;refine vms1 Tryz.ntmps98 ?_
  refine callO.pc h38 ?_
  simp (maxSteps:=2000000) -implicitDefEqProofs +contextual (disch:=first | assumption | omega | decide +kernel) only [push_cast,↓capI,seval,Nat.reduceLeDiff,Nat.reduceEqDiff,reduceCtorEq,↓reduceIte,h0,b1,b2,b3,b4]
  refine callO.pc h39 ?_
  refine vms1 hc ?_
  refine callO.pc h ?_
  simp (maxSteps:=2000000) -implicitDefEqProofs +contextual (disch:=first | assumption | omega | decide +kernel) only [push_cast,↓capI,seval,Nat.reduceLeDiff,Nat.reduceEqDiff,reduceCtorEq,↓reduceIte,encT,slR,slB]
  refine endK.ret ?_ (by first | rfl | simp [Top.belT,Top.bel_slL,Top.bel_slP]);simp [evRes,getT,retV,Tryz.f98,zTb,tt_160,Res.then,ldT,ldR,getO,mkV,getV,imp,lenOK_iff,encT,slR,slB]
end
end Go.Proofs.YtlbmbbaefncleaaGreatDoor.Px
set_option maxHeartbeats 8000000
namespace Go.Proofs.YtlbmbbaefncleaaGreatDoor.Px
open Go.Vm
section
def cfgF:Cfg:={ lv:=[],ef:=[162],ord:=[(30,[0,1,2,3,4,6,7,8,9,10,11,5,12,13,14,15,16])],em:=[169,172],fl:=[38,41,43,46],ks:=some [0,1,4,5,6] }
theorem host_rng {t:Top.Tp} (h0:Top.chk t=0) {k:Nat} (hk:k<t.hosts.length):0≤t.hosts[k].1∧t.hosts[k].1<t.ports.length:=by
 have h1:Top.chk1 t=0:=by
  unfold Top.chk at h0
  repeat' split at h0
  all_goals first | omega | exact h0
 unfold Top.chk1 at h1
 split at h1
 ·omega
 split at h1
 ·omega
 rename_i hx
 have hm:t.hosts[k] ∈ Top.ends t:=List.mem_append_right _ (List.getElem_mem hk)
 simp only [List.any_eq_true,not_exists,not_and,Bool.not_eq_true] at hx
 have:=hx _ hm
 simp only [Bool.not_eq_false',Top.has,Bool.and_eq_true,decide_eq_true_eq] at this
 exact ⟨this.1,this.2.1⟩
def hopsW (w:Wr):List Hop:=w.out++[(⟨w.sw,w.inp,0⟩:Hop)]
def encW (w:Wr):List V:=[.int .i64 w.sw,.int .i64 w.q,slH (hopsW w)]
theorem lenW (w:Wr):(encW w).length=3:=rfl
theorem gfp_lenW (xs:List (Wr)) (i:Nat) (h:i<xs.length) (m:Nat) (hm:m≤3):getV ((xs.flatMap encW).drop (i*3)) 0 m=getV (encW xs[i]) 0 m:=get_flat_part lenW xs i h m hm
theorem gfd_lenW (xs:List (Wr)) (i:Nat) (h:i<xs.length) (o m:Nat) (hm:o+m≤3):getV (((xs.flatMap encW).drop (i*3)).drop o) 0 m=getV (encW xs[i]) o m:=get_flat_drop lenW xs i h o m hm
theorem lfl_lenW (xs:List (Wr)):(xs.flatMap encW).length=xs.length*3:=len_flat lenW xs
@[simp] theorem bel_encW {n:Nat} (w:Wr):belAll n (encW w)=true:=by rw [encW,belAll_cons,belAll_cons,belAll_cons,bel_slH];rfl
@[simp] theorem bel_Wrs {n:Nat} (l:List Wr):belAll n (l.flatMap encW)=true:=belAll_flat (fun w=>bel_encW w) l
theorem ones_oneH {g:Bool} {p:Prop} {l:List Hop}:ones g [slH l] p=p:=by simp only [slH,ones,V.one]
def enS (l:List (Int × Int)):List (V × V):=l.map fun k=>(.agg [.int .i64 k.1,.int .i64 k.2],.bool true)
theorem keyS {p q:Int}:keyOK tt 165 (.agg [.int .i64 p,.int .i64 q]):=⟨rfl,rfl⟩
theorem keysS {l:List (Int × Int)}:keysOK tt 165 (enS l):=fun e he=>by
 obtain ⟨v,_,rfl⟩:=List.mem_map.1 he
 exact keyS
theorem veqS {p q p' q':Int}:veq (.agg [.int .i64 p,.int .i64 q]) (.agg [.int .i64 p',.int .i64 q'])=(decide (p'=p)&&decide (q'=q)):=by
 show ((kindEq .i64 .i64&&(p==p'))&&((kindEq .i64 .i64&&(q==q'))&&true))=_
 rw [ibeq_dec,ibeq_dec,show kindEq .i64 .i64=true from rfl,Bool.true_and,Bool.true_and,Bool.and_true]
 simp only [eq_comm]
theorem mGet_enS {p q:Int}:∀l:List (Int × Int),mGet (.bool false) (.agg [.int .i64 p,.int .i64 q]) (enS l)=.bool (decide ((p,q) ∈ l))
 | []=>rfl
 | v::r=>by
  have ih:=mGet_enS (p:=p) (q:=q) r
  obtain ⟨v1,v2⟩:=v
  simp only [enS,List.map_cons,mGet,veqS] at ih ⊢
  by_cases h:v1=p∧v2=q
  ·obtain ⟨rfl,rfl⟩:=h
   simp
  ·have hne:¬((p,q)=(v1,v2)):=fun e=>h (by rw [Prod.mk.injEq] at e;exact ⟨e.1.symm,e.2.symm⟩)
   have hf:(decide (v1=p)&&decide (v2=q))=false:=by
    rw [Bool.and_eq_false_iff,decide_eq_false_iff_not,decide_eq_false_iff_not]
    by_cases h1:v1=p
    ·exact .inr fun h2=>h ⟨h1,h2⟩
    ·exact .inl h1
   simp only [hf,ih,List.mem_cons,hne,false_or]
theorem mPut_enS {p q:Int}:∀l:List (Int × Int),(p,q) ∉ l→mPut (.agg [.int .i64 p,.int .i64 q]) (.bool true) (enS l)=enS (l++[(p,q)])
 | [],_=>rfl
 | u::r,h=>by
  obtain ⟨v1,v2⟩:=u
  simp only [List.mem_cons,Prod.mk.injEq,not_or,not_and] at h
  have ih:=mPut_enS r h.2
  have hf:(decide (v1=p)&&decide (v2=q))=false:=by
   rw [Bool.and_eq_false_iff,decide_eq_false_iff_not,decide_eq_false_iff_not]
   by_cases h1:v1=p
   ·exact .inr fun h2=>h.1 h1.symm h2.symm
   ·exact .inl h1
  simp only [enS,List.map_cons,mPut,veqS,List.cons_append,hf] at ih ⊢
  simpa using ih
@[simp] theorem bel_enS1 {n:Nat}:∀(l:List (Int × Int)),belAll n ((enS l).map (·.1))=true
 | []=>rfl
 | x::r=>by
  have:=bel_enS1 (n:=n) r
  simp only [enS,List.map_cons,belAll_cons] at this ⊢
  rw [this];rfl
@[simp] theorem bel_enS2 {n:Nat}:∀(l:List (Int × Int)),belAll n ((enS l).map (·.2))=true
 | []=>rfl
 | x::r=>by
  have:=bel_enS2 (n:=n) r
  simp only [enS,List.map_cons,belAll_cons] at this ⊢
  rw [this];rfl
@[simp] theorem bel_mapS {n:Nat} {l:List (Int × Int)}:(Ob.map (enS l)).bel n=true:=by simp only [Ob.bel,bel_enS1,bel_enS2];rfl
def findV:Option (List Hop)→V
 | some l=>.tup [slH l,.int .i64 0]
 | none=>.tup [.sl true [] 0,.int .i64 21]
@[simp] theorem bel_findV {n:Nat} (o:Option (List Hop)):(findV o).bel n=true:=by
 cases o with
 | none=>rfl
 | some l=>rw [findV,bel_tup,belAll_cons,belAll_cons,bel_slH];rfl
def hostP (t:Top.Tp) (x:Int):Int × Int:=t.hosts.getD x.toNat (0,0)
def FndR (f:Nat) (t:Top.Tp) (x y:Int) (r:List Nd):Prop :=
 (∃e,errR t x y r e∧e≠0∧PC Tryz.prog f (argV t x y r) (.tup [.sl true [] 0,.int .i64 e])) ∨
 (∃(p:Pr) (h:okR t x y r p),PC Tryz.prog f (argV t x y r) (findV (findR t (autR p t.ports.length) (fit_of h) (hostP t x) (hostP t y))))
theorem find_at {α:Type} {f:α→Bool} {l:List α} {j:Nat} (h:j<l.length) (hn:(l.take j).find? f=none) (hx:f l[j]=true):l.find? f=some l[j]:=by
 have:l=l.take j++l[j]::l.drop (j+1):=by
  rw [←List.drop_eq_getElem_cons h,List.take_append_drop]
 refine (congrArg (List.find? f) this).trans ?_
 rw [List.find?_append,hn,List.find?_cons,hx]
 rfl
theorem find_next {α:Type} {f:α→Bool} {l:List α} {j:Nat} (h:j<l.length) (hn:(l.take j).find? f=none) (hx:f l[j]=false):(l.take (j+1)).find? f=none:=by
 rw [List.take_succ_eq_append_getElem h,List.find?_append,hn,List.find?_cons,hx]
 rfl
theorem kc6 {H H':List Ob} {l:List Nat} (h:∀j ∈ l,getO H' j=getO H j):KeepsC (some l) H H':=by
 intro j ver cs hm hg
 have:j ∈ l:=by
  have aux:∀l:List Nat,memN l (some j)=true→j ∈ l:=by
   intro l
   induction l with
   | nil=>intro h;simp [memN] at h
   | cons x r ih =>
    intro h
    simp only [memN] at h
    split at h
    ·rename_i e;rw [Nat.eq_of_beq_eq_true e];simp
    ·exact List.mem_cons_of_mem _ (ih h)
  exact aux _ hm
 rw [h j this]
 exact hg
theorem rowL_take {ω κ:Type} [DecidableEq κ] (g:Gph ω κ) {Q:List ω} {j:Nat} (h:j<Q.length) {o:List κ × List ω}:g.rowL (Q.take (j+1)) o=g.portN Q[j] (g.rowL (Q.take j) o) (g.np (g.key Q[j])):=by
 rw [List.take_succ_eq_append_getElem h,g.rowL_append]
 rfl
theorem port_none {ω κ:Type} [DecidableEq κ] (g:Gph ω κ) {w:ω} {p:Nat} {o:List κ × List ω} (h:g.stp w p=none):g.portI w p o=o:=by
 rw [Gph.portI,h]
theorem port_seen {ω κ:Type} [DecidableEq κ] (g:Gph ω κ) {w w':ω} {p:Nat} {o:List κ × List ω} (h:g.stp w p=some w') (hs:g.key w' ∈ o.1):g.portI w p o=o:=by
 rw [Gph.portI,h]
 exact if_pos hs
theorem port_new {ω κ:Type} [DecidableEq κ] (g:Gph ω κ) {w w':ω} {p:Nat} {o:List κ × List ω} (h:g.stp w p=some w') (hs:g.key w' ∉ o.1):g.portI w p o=(o.1++[g.key w'],o.2++[w']):=by
 rw [Gph.portI,h]
 exact if_neg hs
theorem ports_from {ω κ:Type} [DecidableEq κ] (g:Gph ω κ) {w:ω} {o:List κ × List ω}:∀n,∀w' ∈ (g.portN w o n).2,w' ∈ o.2∨∃p,g.stp w p=some w'
 | 0,_,h=>.inl h
 | n+1,w',h=>by
  rw [Gph.portN,Gph.portI] at h
  split at h
  ·exact ports_from g n w' h
  ·rename_i x e
   split at h
   ·exact ports_from g n w' h
   ·rcases List.mem_append.1 h with h | h
    ·exact ports_from g n w' h
    ·rw [List.mem_singleton.1 h];exact .inr ⟨n,e⟩
theorem row_from {ω κ:Type} [DecidableEq κ] (g:Gph ω κ):∀(Q:List ω) (o:List κ × List ω),∀w' ∈ (g.rowL Q o).2,w' ∈ o.2∨∃w ∈ Q,∃p,g.stp w p=some w'
 | [],_,_,h=>.inl h
 | w::Q,o,w',h=>by
  rw [Gph.rowL,List.foldl_cons] at h
  rcases row_from g Q _ w' h with h | ⟨x,hx,p,hp⟩
  ·rcases ports_from g _ w' h with h | ⟨p,hp⟩
   ·exact .inl h
   ·exact .inr ⟨w,by simp,p,hp⟩
  ·exact .inr ⟨x,by simp [hx],p,hp⟩
theorem stp_out {t:Top.Tp} {a:Tb} {w w':Wr} {p:Nat} (h:stpR t a w p=some w'):w'.out.length=w.out.length+1:=by
 rw [stpR] at h
 split at h
 ·cases h
 ·split at h
  ·cases h
  ·cases h;simp
end
section
theorem bfs_nil {ω κ:Type} [DecidableEq κ] (g:Gph ω κ) (f:Nat) (S:List κ):g.bfs f S []=none:=by
 cases f<;>rfl
attribute [local push_cast] cfg0 cfgF Top.encT Top.slI Top.slP Top.slL Top.encP Top.encPE slN encT slI slR slB encW ones_ints ones_bools ones_H ones_oneH getV_map getV_mapO gfp_lenW gfd_lenW lfl_lenW List.length_map Nat.mul_one keys0' mPut_nil' keyS keysS mGet_enS shs_H
theorem pc61 (t:Top.Tp) (x y:Int) (r:List Nd) (hf:t.fit) (hr:r.length≤4000000):FndR 61 t x y r:=by
 have hp:=hf.ports
 have hh:=hf.hosts
 rcases arg25 t x y r hf hr with ⟨e,he,h0,h25⟩ | ⟨p,ho,h25⟩
 ·refine .inl ⟨e,he,h0,?_⟩
  rw [argV] at h25 ⊢
  refine PC.walk tok mixed cfgF Tryz.func61 rfl Tryz.call61 (by simp [Top.belT,Top.bel_slL,Top.bel_slP,Top.belP,Top.bel_Ps,Top.bel_Ls]) (by first | rfl | simp [Top.belT,Top.bel_slL,Top.bel_slP,Top.belP,Top.bel_Ps,Top.bel_Ls]) ?_;refine vms4 (get_flat_part Top.lenP) (get_flat_drop Top.lenP) (len_flat Top.lenP) Tryz.ntmps61 ?_
  refine callO.pc h25 ?_
  simp (maxSteps:=2000000) -implicitDefEqProofs +contextual (disch:=first | assumption | omega | decide +kernel) only [push_cast,↓capI,seval,Nat.reduceLeDiff,Nat.reduceEqDiff,reduceCtorEq,↓reduceIte,get_flat_part Top.lenP,get_flat_drop Top.lenP,len_flat Top.lenP,zTb,h0]
  refine endK.ret ?_ (by first | rfl | simp [Top.belT,Top.bel_slL,Top.bel_slP,Top.belP,Top.bel_Ps,Top.bel_Ls]);simp [evRes,getT,retV,Tryz.f61]
 refine .inr ⟨p,ho,?_⟩
 have hF:=fit_of ho
 have hpe:fit_of ho=hF:=rfl
 rw [hpe]
 clear hpe
 have hrng:=ho.rng
 rw [badR] at hrng
 have hv:=Top.chk_valid ho.top
 generalize autR p t.ports.length=a at hF h25 ⊢
 clear ho
 obtain ⟨x,rfl⟩:∃k:Nat,x=(k:Int):=⟨x.toNat,by omega⟩
 obtain ⟨y,rfl⟩:∃k:Nat,y=(k:Int):=⟨y.toNat,by omega⟩
 have hx:x<t.hosts.length:=by omega
 have hy:y<t.hosts.length:=by omega
 have ex:hostP t x=t.hosts[x]:=by rw [hostP,Int.toNat_natCast,List.getD_eq_getElem?_getD,List.getElem?_eq_getElem hx];rfl
 have ey:hostP t y=t.hosts[y]:=by rw [hostP,Int.toNat_natCast,List.getD_eq_getElem?_getD,List.getElem?_eq_getElem hy];rfl
 have hsr:=host_rng hF.top hx
 rw [ex,ey]
 generalize hsx:t.hosts[x]=src at hsr ⊢
 generalize hdx:t.hosts[y]=dst
 obtain ⟨ss,si⟩:=src
 obtain ⟨ds,di⟩:=dst
 simp only at hsr
 obtain ⟨ss,rfl⟩:∃k:Nat,ss=(k:Int):=⟨ss.toNat,by omega⟩
 have hss:ss<t.ports.length:=by omega
 have hn1:=hF.aut.rows
 have hn2:=hF.aut.accs
 have hpos:=hF.aut.pos
 have h64:=hF.few
 have hrow0:=hF.aut.row
 have h16:=hv.small
 have hall:=fun k s (h:0≤k∧k<(a.next.length:Int)) (h2:0≤s∧s<(t.ports.length:Int))=>nxA_rng hF.aut (q:=k) (s:=s) h h2
 have hpeer:=fun q (h:(Top.peer t q).2=0)=>peer_rng hF.top (p:=q) h
 have hgF:findR t a hF ((ss:Int),si) (ds,di)=(if nxA a 0 (ss:Int)<0 then none else ((gR t a ds hF).found ⟨(ss:Int),nxA a 0 (ss:Int),si,[]⟩).map fun w=>finW w di):=rfl
 have hbf:=fun (w:Wr) (hw:kW w ∈ statesR t a) (f:Nat) (h:(statesR t a).length<f)=>(gR t a ds hF).bfs_eq (w:=w) hw (f:=f) h
 have hstp:∀w p,(gR t a ds hF).stp w p=stpR t a w p:=fun _ _=>rfl
 have hacc:∀w:Wr,(gR t a ds hF).acc ((gR t a ds hF).key w)=(decide (w.sw=ds)&&gB a.acc w.q):=fun _=>rfl
 have hnp:∀w:Wr,(gR t a ds hF).np ((gR t a ds hF).key w)=(gI t.ports w.sw).toNat:=fun _=>rfl
 have hst:=fun (k:Int × Int)=>(mem_states (t:=t) (a:=a) (k:=k))
 have hln:=len_states (t:=t) (a:=a)
 have hkey:(gR t a ds hF).states=statesR t a:=rfl
 have hky:∀w,(gR t a ds hF).key w=kW w:=fun _=>rfl
 rw [hgF]
 clear hgF
 generalize hg:gR t a ds hF=g at hbf hstp hacc hnp hkey hky ⊢
 clear hg
 have hNN:(statesR t a).length≤1024:=by
  rw [hln]
  exact Nat.le_trans (Nat.mul_le_mul h16 h64) (by decide)
 rw [argV] at h25 ⊢
 obtain ⟨an,ac⟩:=a
 simp only at hn2 hpos h64 hrow0 hall
 have h0l:(an[0]'hpos).length=t.ports.length:=hrow0 _ (List.getElem_mem _)
 have hss0:ss<(an[0]'hpos).length:=by omega
 have hfst:(an[0]'hpos)[ss]=nxA ⟨an,ac⟩ 0 (ss:Int):=by
  rw [nxA,gI,Int.toNat_natCast]
  show _=(an.getD 0 []).getD ss 0
  rw [lgetD hpos,lgetD hss0]
 have hq0:=hall 0 (ss:Int) ⟨Int.le_refl _,by omega⟩ ⟨by omega,by omega⟩
 generalize hq:nxA ⟨an,ac⟩ 0 (ss:Int)=q0 at hfst hq0 ⊢
 by_cases hneg:q0<0
 ·rw [if_pos hneg]
  refine PC.cutN tok mixed cfgF 2 Tryz.func61 rfl Tryz.call61 (by simp [Top.belT,Top.bel_slL,Top.bel_slP,Top.belP,Top.bel_Ps,Top.bel_Ls]) (by first | rfl | simp [Top.belT,Top.bel_slL,Top.bel_slP,Top.belP,Top.bel_Ps,Top.bel_Ls]) ?_
  simp (maxSteps:=2000000) -implicitDefEqProofs +contextual (disch:=first | assumption | omega | decide +kernel) only [push_cast,↓capI,seval,Nat.reduceLeDiff,Nat.reduceEqDiff,reduceCtorEq,↓reduceIte,get_flat_part Top.lenP,get_flat_drop Top.lenP,len_flat Top.lenP,Tryz.ntmps61,cutAt_z,cutAt_s]
  refine callO.pc h25 ?_
  simp (maxSteps:=2000000) -implicitDefEqProofs +contextual (disch:=first | assumption | omega | decide +kernel) only [push_cast,↓capI,seval,Nat.reduceLeDiff,Nat.reduceEqDiff,reduceCtorEq,↓reduceIte,get_flat_part Top.lenP,get_flat_drop Top.lenP,len_flat Top.lenP,cutAt_z,cutAt_s]
  refine cutK.gn (cut_fz (H:=[.cells 0 (Top.encT t)]) (l:=encT ⟨an,ac⟩) (tm2:=(.dead::.int .i64 (x:Int)::.int .i64 (y:Int)::.dead::.ptr 0 0 0::.dead::.dead::.dead::.dead::.dead::.ptr 1 0 0::.dead::.dead::.dead::.dead::.dead::.dead::.dead::.dead::.dead::.dead::.dead::.dead::.dead::.dead::.dead::.dead::.dead::.dead::.dead::.dead::.dead::.dead::.dead::.dead::.dead::.dead::.dead::.dead::.dead::.dead::.dead::.dead::.dead::.dead::.dead::.dead::.dead::.dead::.dead::.dead::.dead::.dead::.dead::.dead::.dead::.dead::.dead::.dead::.dead::.dead::.dead::.dead::.dead::.dead::.dead::.dead::.dead::.dead::.dead::.dead::.dead::.dead::.dead::.dead::.dead::.dead::.dead::.dead::.dead::.dead::.dead::.dead::.dead::.dead::.dead::.dead::.dead::.dead::.dead::.dead::.dead::.dead::.dead::.dead::.dead::.dead::.dead::.dead::.dead::.dead::.dead::.dead::.dead::.dead::.dead::.dead::.dead::.dead::.dead::.dead::.dead::.dead::.dead::.dead::.dead::.dead::.dead::.dead::.dead::.dead::.dead::.dead::.dead::.dead::.dead::.dead::.dead::.dead::.dead::.dead::.dead::.dead::.dead::.dead::.dead::.dead::.dead::.dead::.dead::.dead::.dead::.dead::.dead::.dead::.dead::.dead::.dead::.dead::.dead::.dead::.dead::.dead::.dead::.dead::.dead::.dead::.dead::.dead::.dead::.dead::.dead::.dead::.dead::.dead::.dead::.dead::.dead::.dead::.dead::.dead::.dead::.dead::.dead::.dead::.dead::[])) (tm':=(.dead::.int .i64 (x:Int)::.int .i64 (y:Int)::.dead::.ptr 0 0 0::.dead::.dead::.dead::.dead::.dead::.fp (encT ⟨an,ac⟩)::.dead::.dead::.dead::.dead::.dead::.dead::.dead::.dead::.dead::.dead::.dead::.dead::.dead::.dead::.dead::.dead::.dead::.dead::.dead::.dead::.dead::.dead::.dead::.dead::.dead::.dead::.dead::.dead::.dead::.dead::.dead::.dead::.dead::.dead::.dead::.dead::.dead::.dead::.dead::.dead::.dead::.dead::.dead::.dead::.dead::.dead::.dead::.dead::.dead::.dead::.dead::.dead::.dead::.dead::.dead::.dead::.dead::.dead::.dead::.dead::.dead::.dead::.dead::.dead::.dead::.dead::.dead::.dead::.dead::.dead::.dead::.dead::.dead::.dead::.dead::.dead::.dead::.dead::.dead::.dead::.dead::.dead::.dead::.dead::.dead::.dead::.dead::.dead::.dead::.dead::.dead::.dead::.dead::.dead::.dead::.dead::.dead::.dead::.dead::.dead::.dead::.dead::.dead::.dead::.dead::.dead::.dead::.dead::.dead::.dead::.dead::.dead::.dead::.dead::.dead::.dead::.dead::.dead::.dead::.dead::.dead::.dead::.dead::.dead::.dead::.dead::.dead::.dead::.dead::.dead::.dead::.dead::.dead::.dead::.dead::.dead::.dead::.dead::.dead::.dead::.dead::.dead::.dead::.dead::.dead::.dead::.dead::.dead::.dead::.dead::.dead::.dead::.dead::.dead::.dead::.dead::.dead::.dead::.dead::.dead::.dead::.dead::.dead::.dead::.dead::[])) (by first | rfl | simp [List.append_nil,Top.encT,encT,slR,slB,slI,encW,Top.encP]) (by simp) (by simp [Top.belT,Top.bel_slL,Top.bel_slP,Top.belP,Top.bel_Ps,Top.bel_Ls]) (by simp [wk,Top.slP,slH]) (by simp [fzs,fz,Nat.beq]) (by simp [Top.belT,Top.bel_slL,Top.bel_slP,Top.belP,Top.bel_Ps,Top.bel_Ls])) (cutK.gn (cut_fz (H:=[]) (l:=Top.encT t) (tm2:=(.dead::.int .i64 (x:Int)::.int .i64 (y:Int)::.dead::.ptr 0 0 0::.dead::.dead::.dead::.dead::.dead::.fp (encT ⟨an,ac⟩)::.dead::.dead::.dead::.dead::.dead::.dead::.dead::.dead::.dead::.dead::.dead::.dead::.dead::.dead::.dead::.dead::.dead::.dead::.dead::.dead::.dead::.dead::.dead::.dead::.dead::.dead::.dead::.dead::.dead::.dead::.dead::.dead::.dead::.dead::.dead::.dead::.dead::.dead::.dead::.dead::.dead::.dead::.dead::.dead::.dead::.dead::.dead::.dead::.dead::.dead::.dead::.dead::.dead::.dead::.dead::.dead::.dead::.dead::.dead::.dead::.dead::.dead::.dead::.dead::.dead::.dead::.dead::.dead::.dead::.dead::.dead::.dead::.dead::.dead::.dead::.dead::.dead::.dead::.dead::.dead::.dead::.dead::.dead::.dead::.dead::.dead::.dead::.dead::.dead::.dead::.dead::.dead::.dead::.dead::.dead::.dead::.dead::.dead::.dead::.dead::.dead::.dead::.dead::.dead::.dead::.dead::.dead::.dead::.dead::.dead::.dead::.dead::.dead::.dead::.dead::.dead::.dead::.dead::.dead::.dead::.dead::.dead::.dead::.dead::.dead::.dead::.dead::.dead::.dead::.dead::.dead::.dead::.dead::.dead::.dead::.dead::.dead::.dead::.dead::.dead::.dead::.dead::.dead::.dead::.dead::.dead::.dead::.dead::.dead::.dead::.dead::.dead::.dead::.dead::.dead::.dead::.dead::.dead::.dead::.dead::.dead::.dead::.dead::.dead::.dead::[])) (tm':=(.dead::.int .i64 (x:Int)::.int .i64 (y:Int)::.dead::.fp (Top.encT t)::.dead::.dead::.dead::.dead::.dead::.fp (encT ⟨an,ac⟩)::.dead::.dead::.dead::.dead::.dead::.dead::.dead::.dead::.dead::.dead::.dead::.dead::.dead::.dead::.dead::.dead::.dead::.dead::.dead::.dead::.dead::.dead::.dead::.dead::.dead::.dead::.dead::.dead::.dead::.dead::.dead::.dead::.dead::.dead::.dead::.dead::.dead::.dead::.dead::.dead::.dead::.dead::.dead::.dead::.dead::.dead::.dead::.dead::.dead::.dead::.dead::.dead::.dead::.dead::.dead::.dead::.dead::.dead::.dead::.dead::.dead::.dead::.dead::.dead::.dead::.dead::.dead::.dead::.dead::.dead::.dead::.dead::.dead::.dead::.dead::.dead::.dead::.dead::.dead::.dead::.dead::.dead::.dead::.dead::.dead::.dead::.dead::.dead::.dead::.dead::.dead::.dead::.dead::.dead::.dead::.dead::.dead::.dead::.dead::.dead::.dead::.dead::.dead::.dead::.dead::.dead::.dead::.dead::.dead::.dead::.dead::.dead::.dead::.dead::.dead::.dead::.dead::.dead::.dead::.dead::.dead::.dead::.dead::.dead::.dead::.dead::.dead::.dead::.dead::.dead::.dead::.dead::.dead::.dead::.dead::.dead::.dead::.dead::.dead::.dead::.dead::.dead::.dead::.dead::.dead::.dead::.dead::.dead::.dead::.dead::.dead::.dead::.dead::.dead::.dead::.dead::.dead::.dead::.dead::.dead::.dead::.dead::.dead::.dead::.dead::[])) (by first | rfl | simp [List.append_nil,Top.encT,encT,slR,slB,slI,encW,Top.encP]) (by simp) (by simp [Top.belT,Top.bel_slL,Top.bel_slP,Top.belP,Top.bel_Ps,Top.bel_Ls]) (by simp [wk,Top.slP,slH]) (by simp [fzs,fz,Nat.beq]) (by simp [Top.belT,Top.bel_slL,Top.bel_slP,Top.belP,Top.bel_Ps,Top.bel_Ls])) (cutK.go (cfg:=cfgF) tok mixed ?_))
  simp (maxSteps:=2000000) -implicitDefEqProofs +contextual (disch:=first | assumption | omega | decide +kernel) only [push_cast,↓capI,seval,Nat.reduceLeDiff,Nat.reduceEqDiff,reduceCtorEq,↓reduceIte,get_flat_part Top.lenP,get_flat_drop Top.lenP,len_flat Top.lenP,encT,slR,slB,hx,hy,hsx,hdx,hpos,hss0,hfst,hneg]
  refine endK.ret ?_ (by first | rfl | simp [Top.belT,Top.bel_slL,Top.bel_slP,Top.belP,Top.bel_Ps,Top.bel_Ls]);simp [evRes,getT,retV,Tryz.f61,findV]
 rw [if_neg hneg]
 have hw0:kW ⟨(ss:Int),q0,si,[]⟩ ∈ statesR t ⟨an,ac⟩:=(hst _).2 ⟨⟨by simp only [kW];omega,by simp only [kW];omega⟩,by simp only [kW];omega,by simp only [kW];omega⟩
 rw [←hbf ⟨(ss:Int),q0,si,[]⟩ hw0 ((statesR t ⟨an,ac⟩).length+1) (Nat.lt_succ_self _)]
 clear hbf
 generalize hN:(statesR t ⟨an,ac⟩).length=N at hNN ⊢
 generalize hres:((g.bfs (N+1) [g.key ⟨(ss:Int),q0,si,[]⟩] [⟨(ss:Int),q0,si,[]⟩]).map fun w=>finW w di)=res
 refine PC.cutN tok mixed cfgF 2 Tryz.func61 rfl Tryz.call61 (by simp [Top.belT,Top.bel_slL,Top.bel_slP,Top.belP,Top.bel_Ps,Top.bel_Ls]) (by first | rfl | simp [Top.belT,Top.bel_slL,Top.bel_slP,Top.belP,Top.bel_Ps,Top.bel_Ls]) ?_
 simp (maxSteps:=2000000) -implicitDefEqProofs +contextual (disch:=first | assumption | omega | decide +kernel) only [push_cast,↓capI,seval,Nat.reduceLeDiff,Nat.reduceEqDiff,reduceCtorEq,↓reduceIte,get_flat_part Top.lenP,get_flat_drop Top.lenP,len_flat Top.lenP,Tryz.ntmps61,cutAt_z,cutAt_s]
 refine callO.pc h25 ?_
 simp (maxSteps:=2000000) -implicitDefEqProofs +contextual (disch:=first | assumption | omega | decide +kernel) only [push_cast,↓capI,seval,Nat.reduceLeDiff,Nat.reduceEqDiff,reduceCtorEq,↓reduceIte,get_flat_part Top.lenP,get_flat_drop Top.lenP,len_flat Top.lenP,cutAt_z,cutAt_s]
 refine cutK.gn (cut_fz (H:=[.cells 0 (Top.encT t)]) (l:=encT ⟨an,ac⟩) (tm2:=(.dead::.int .i64 (x:Int)::.int .i64 (y:Int)::.dead::.ptr 0 0 0::.dead::.dead::.dead::.dead::.dead::.ptr 1 0 0::.dead::.dead::.dead::.dead::.dead::.dead::.dead::.dead::.dead::.dead::.dead::.dead::.dead::.dead::.dead::.dead::.dead::.dead::.dead::.dead::.dead::.dead::.dead::.dead::.dead::.dead::.dead::.dead::.dead::.dead::.dead::.dead::.dead::.dead::.dead::.dead::.dead::.dead::.dead::.dead::.dead::.dead::.dead::.dead::.dead::.dead::.dead::.dead::.dead::.dead::.dead::.dead::.dead::.dead::.dead::.dead::.dead::.dead::.dead::.dead::.dead::.dead::.dead::.dead::.dead::.dead::.dead::.dead::.dead::.dead::.dead::.dead::.dead::.dead::.dead::.dead::.dead::.dead::.dead::.dead::.dead::.dead::.dead::.dead::.dead::.dead::.dead::.dead::.dead::.dead::.dead::.dead::.dead::.dead::.dead::.dead::.dead::.dead::.dead::.dead::.dead::.dead::.dead::.dead::.dead::.dead::.dead::.dead::.dead::.dead::.dead::.dead::.dead::.dead::.dead::.dead::.dead::.dead::.dead::.dead::.dead::.dead::.dead::.dead::.dead::.dead::.dead::.dead::.dead::.dead::.dead::.dead::.dead::.dead::.dead::.dead::.dead::.dead::.dead::.dead::.dead::.dead::.dead::.dead::.dead::.dead::.dead::.dead::.dead::.dead::.dead::.dead::.dead::.dead::.dead::.dead::.dead::.dead::.dead::.dead::.dead::.dead::.dead::.dead::.dead::[])) (tm':=(.dead::.int .i64 (x:Int)::.int .i64 (y:Int)::.dead::.ptr 0 0 0::.dead::.dead::.dead::.dead::.dead::.fp (encT ⟨an,ac⟩)::.dead::.dead::.dead::.dead::.dead::.dead::.dead::.dead::.dead::.dead::.dead::.dead::.dead::.dead::.dead::.dead::.dead::.dead::.dead::.dead::.dead::.dead::.dead::.dead::.dead::.dead::.dead::.dead::.dead::.dead::.dead::.dead::.dead::.dead::.dead::.dead::.dead::.dead::.dead::.dead::.dead::.dead::.dead::.dead::.dead::.dead::.dead::.dead::.dead::.dead::.dead::.dead::.dead::.dead::.dead::.dead::.dead::.dead::.dead::.dead::.dead::.dead::.dead::.dead::.dead::.dead::.dead::.dead::.dead::.dead::.dead::.dead::.dead::.dead::.dead::.dead::.dead::.dead::.dead::.dead::.dead::.dead::.dead::.dead::.dead::.dead::.dead::.dead::.dead::.dead::.dead::.dead::.dead::.dead::.dead::.dead::.dead::.dead::.dead::.dead::.dead::.dead::.dead::.dead::.dead::.dead::.dead::.dead::.dead::.dead::.dead::.dead::.dead::.dead::.dead::.dead::.dead::.dead::.dead::.dead::.dead::.dead::.dead::.dead::.dead::.dead::.dead::.dead::.dead::.dead::.dead::.dead::.dead::.dead::.dead::.dead::.dead::.dead::.dead::.dead::.dead::.dead::.dead::.dead::.dead::.dead::.dead::.dead::.dead::.dead::.dead::.dead::.dead::.dead::.dead::.dead::.dead::.dead::.dead::.dead::.dead::.dead::.dead::.dead::.dead::[])) (by first | rfl | simp [List.append_nil,Top.encT,encT,slR,slB,slI,encW,Top.encP]) (by simp) (by simp [Top.belT,Top.bel_slL,Top.bel_slP,Top.belP,Top.bel_Ps,Top.bel_Ls]) (by simp [wk,Top.slP,slH]) (by simp [fzs,fz,Nat.beq]) (by simp [Top.belT,Top.bel_slL,Top.bel_slP,Top.belP,Top.bel_Ps,Top.bel_Ls])) (cutK.gn (cut_fz (H:=[]) (l:=Top.encT t) (tm2:=(.dead::.int .i64 (x:Int)::.int .i64 (y:Int)::.dead::.ptr 0 0 0::.dead::.dead::.dead::.dead::.dead::.fp (encT ⟨an,ac⟩)::.dead::.dead::.dead::.dead::.dead::.dead::.dead::.dead::.dead::.dead::.dead::.dead::.dead::.dead::.dead::.dead::.dead::.dead::.dead::.dead::.dead::.dead::.dead::.dead::.dead::.dead::.dead::.dead::.dead::.dead::.dead::.dead::.dead::.dead::.dead::.dead::.dead::.dead::.dead::.dead::.dead::.dead::.dead::.dead::.dead::.dead::.dead::.dead::.dead::.dead::.dead::.dead::.dead::.dead::.dead::.dead::.dead::.dead::.dead::.dead::.dead::.dead::.dead::.dead::.dead::.dead::.dead::.dead::.dead::.dead::.dead::.dead::.dead::.dead::.dead::.dead::.dead::.dead::.dead::.dead::.dead::.dead::.dead::.dead::.dead::.dead::.dead::.dead::.dead::.dead::.dead::.dead::.dead::.dead::.dead::.dead::.dead::.dead::.dead::.dead::.dead::.dead::.dead::.dead::.dead::.dead::.dead::.dead::.dead::.dead::.dead::.dead::.dead::.dead::.dead::.dead::.dead::.dead::.dead::.dead::.dead::.dead::.dead::.dead::.dead::.dead::.dead::.dead::.dead::.dead::.dead::.dead::.dead::.dead::.dead::.dead::.dead::.dead::.dead::.dead::.dead::.dead::.dead::.dead::.dead::.dead::.dead::.dead::.dead::.dead::.dead::.dead::.dead::.dead::.dead::.dead::.dead::.dead::.dead::.dead::.dead::.dead::.dead::.dead::.dead::[])) (tm':=(.dead::.int .i64 (x:Int)::.int .i64 (y:Int)::.dead::.fp (Top.encT t)::.dead::.dead::.dead::.dead::.dead::.fp (encT ⟨an,ac⟩)::.dead::.dead::.dead::.dead::.dead::.dead::.dead::.dead::.dead::.dead::.dead::.dead::.dead::.dead::.dead::.dead::.dead::.dead::.dead::.dead::.dead::.dead::.dead::.dead::.dead::.dead::.dead::.dead::.dead::.dead::.dead::.dead::.dead::.dead::.dead::.dead::.dead::.dead::.dead::.dead::.dead::.dead::.dead::.dead::.dead::.dead::.dead::.dead::.dead::.dead::.dead::.dead::.dead::.dead::.dead::.dead::.dead::.dead::.dead::.dead::.dead::.dead::.dead::.dead::.dead::.dead::.dead::.dead::.dead::.dead::.dead::.dead::.dead::.dead::.dead::.dead::.dead::.dead::.dead::.dead::.dead::.dead::.dead::.dead::.dead::.dead::.dead::.dead::.dead::.dead::.dead::.dead::.dead::.dead::.dead::.dead::.dead::.dead::.dead::.dead::.dead::.dead::.dead::.dead::.dead::.dead::.dead::.dead::.dead::.dead::.dead::.dead::.dead::.dead::.dead::.dead::.dead::.dead::.dead::.dead::.dead::.dead::.dead::.dead::.dead::.dead::.dead::.dead::.dead::.dead::.dead::.dead::.dead::.dead::.dead::.dead::.dead::.dead::.dead::.dead::.dead::.dead::.dead::.dead::.dead::.dead::.dead::.dead::.dead::.dead::.dead::.dead::.dead::.dead::.dead::.dead::.dead::.dead::.dead::.dead::.dead::.dead::.dead::.dead::.dead::[])) (by first | rfl | simp [List.append_nil,Top.encT,encT,slR,slB,slI,encW,Top.encP]) (by simp) (by simp [Top.belT,Top.bel_slL,Top.bel_slP,Top.belP,Top.bel_Ps,Top.bel_Ls]) (by simp [wk,Top.slP,slH]) (by simp [fzs,fz,Nat.beq]) (by simp [Top.belT,Top.bel_slL,Top.bel_slP,Top.belP,Top.bel_Ps,Top.bel_Ls])) (cutK.go (cfg:=cfgF) tok mixed ?_))
 simp (maxSteps:=2000000) -implicitDefEqProofs +contextual (disch:=first | assumption | omega | decide +kernel) only [push_cast,↓capI,seval,Nat.reduceLeDiff,Nat.reduceEqDiff,reduceCtorEq,↓reduceIte,get_flat_part Top.lenP,get_flat_drop Top.lenP,len_flat Top.lenP,encT,slR,slB,hx,hy,hsx,hdx,hpos,hss0,hfst,hneg]
 refine T.lp tok mixed cfgF (fun ((s:Nat × List (Int × Int) × List Wr))=>dd 4 (kp 1 (dd 5 (kp 1 (dd 2 (kp 1 (dd 1 (kp 1 (sv (.sl false (s.2.2.flatMap encW) s.2.2.length) (dd 159 (nl))))))))))) (fun H0 ((s:Nat × List (Int × Int) × List Wr))=>[.cells 0 [.int .i64 ss,.int .i64 si],.cells 0 [.int .i64 ds,.int .i64 di],.map (enS s.2.1)]) (fun ((s:Nat × List (Int × Int) × List Wr))=>((g.bfs s.1 s.2.1 s.2.2).map fun w=>finW w di)=res∧g.Sn s.2.1∧(∀w ∈ s.2.2,kW w ∈ statesR t ⟨an,ac⟩∧w.out.length+s.1=N+1)∧N+2≤s.1+s.2.1.length+(if s.2.2.isEmpty then 1 else 0)∧s.2.2.length≤s.2.1.length) (fun ((s:Nat × List (Int × Int) × List Wr))=>s.1) ((N+1,[kW ⟨(ss:Int),q0,si,[]⟩],[⟨(ss:Int),q0,si,[]⟩])) ?_ ?_ ?_
 ·refine ⟨by simpa only [hky] using hres,⟨by simp,fun k hk=>?_⟩,fun w hw=>?_,by simp,by simp⟩
  ·rw [List.mem_singleton.1 hk,hkey];exact hw0
  ·rw [List.mem_singleton.1 hw];exact ⟨hw0,by simp⟩
 ·exact Gn.canon (J:=[]) (by simp [List.append_nil,Top.encT,encT,slR,slB,slI,encW,Top.encP,enS,kW]) (by simp [wk,Top.slP,slH,putT,kp,dd,sv,nl,encW,hopsW,encH]) (by simp [List.length_append]) (by simp [Top.belT,Top.bel_slL,Top.bel_slP,Top.belP,Top.bel_Ps,Top.bel_Ls,kp,dd,sv,nl]) (by simp [Top.belT,Top.bel_slL,Top.bel_slP,Top.belP,Top.bel_Ps,Top.bel_Ls])
 intro s hs
 obtain ⟨f,S,Q⟩:=s
 obtain ⟨hbs,hsn,hqk,hfu,hql⟩:=hs
 simp only at hbs hsn hqk hfu hql
 have hSN:=hsn.len
 rw [hkey,hN] at hSN
 have hlenQ:=len_flat lenW Q
 by_cases hQ:Q.length=0
 ·have hQ0:Q=[]:=List.length_eq_zero_iff.1 hQ
  subst hQ0
  rw [bfs_nil] at hbs
  rw [←hbs]
  simp (maxSteps:=2000000) -implicitDefEqProofs +contextual (disch:=first | assumption | omega | decide +kernel) only [push_cast,↓capI,seval,Nat.reduceLeDiff,Nat.reduceEqDiff,reduceCtorEq,↓reduceIte,get_flat_part Top.lenP,get_flat_drop Top.lenP,len_flat Top.lenP,List.length_nil]
  refine endK.ret ?_ (by first | rfl | simp [Top.belT,Top.bel_slL,Top.bel_slP,Top.belP,Top.bel_Ps,Top.bel_Ls]);simp [evRes,getT,retV,Tryz.f61,findV]
 have hne:Q.isEmpty=false:=by
  cases Q with
  | nil=>simp at hQ
  | cons _ _=>rfl
 rw [hne] at hfu
 simp only [Bool.false_eq_true,if_false] at hfu
 obtain ⟨f,rfl⟩:∃k,f=k+1:=⟨f-1,by omega⟩
 rw [Gph.bfs,hne] at hbs
 simp only [Bool.false_eq_true,if_false] at hbs
 simp only [hacc] at hbs
 have hQp:(0:Int)<Q.length:=by omega
 refine vms4 (get_flat_part Top.lenP) (get_flat_drop Top.lenP) (len_flat Top.lenP) hQp ?_
 refine T.lp tok mixed cfgF (fun ((j:Nat))=>dd 4 (kp 1 (dd 5 (kp 1 (dd 2 (kp 1 (dd 1 (kp 2 (dd 61 (kp 2 (sv (.int .i64 (j:Int)) (dd 95 (nl))))))))))))) (fun H0 ((j:Nat))=>[.cells 0 [.int .i64 ss,.int .i64 si],.cells 0 [.int .i64 ds,.int .i64 di],.map (enS S)]) (fun ((j:Nat))=>j≤Q.length∧(Q.take j).find? (fun w=>decide (w.sw=ds)&&gB ac w.q)=none) (fun ((j:Nat))=>Q.length-j) (0) ?_ ?_ ?_
 ·exact ⟨Nat.zero_le _,rfl⟩
 ·exact Gn.canon (J:=[]) (by first | rfl | (simp [List.append_nil,Top.encT,encT,slR,slB,slI,encW,Top.encP];done) | (simp [List.append_nil,Top.encT,encT,slR,slB,slI,encW,Top.encP];rfl)) (by simp [wk,Top.slP,slH,putT,kp,dd,sv,nl]) (by simp [List.length_append]) (by simp [Top.belT,Top.bel_slL,Top.bel_slP,Top.belP,Top.bel_Ps,Top.bel_Ls,kp,dd,sv,nl]) (by simp [Top.belT,Top.bel_slL,Top.bel_slP,Top.belP,Top.bel_Ps,Top.bel_Ls])
 intro j hj
 obtain ⟨hj,hno⟩:=hj
 by_cases hlt:j<Q.length
 ·obtain ⟨hk,ho⟩:=hqk Q[j] (List.getElem_mem hlt)
  have hkr:=(hst _).1 hk
  have hfa:=fun h=>find_at (f:=fun w:Wr=>decide (w.sw=ds)&&gB ac w.q) hlt hno h
  have hfn:=fun h=>find_next (f:=fun w:Wr=>decide (w.sw=ds)&&gB ac w.q) hlt hno h
  generalize hw:Q[j]=w at hk ho hkr hfa hfn
  obtain ⟨ws,wq,wi,wo⟩:=w
  simp only [kW] at hkr ho hfa hfn
  obtain ⟨ws,rfl⟩:∃k:Nat,ws=(k:Int):=⟨ws.toNat,by omega⟩
  obtain ⟨wq,rfl⟩:∃k:Nat,wq=(k:Int):=⟨wq.toNat,by omega⟩
  have hwq:wq<ac.length:=by omega
  have hgb:gB ac (wq:Int)=ac[wq]:=lgetD hwq
  rw [hgb] at hfa hfn
  by_cases hd:(ws:Int)=ds
  ·rw [decide_eq_true hd,Bool.true_and] at hfa hfn
   subst hd
   cases hb:ac[wq]
   ·simp (maxSteps:=2000000) -implicitDefEqProofs +contextual (disch:=first | assumption | omega | decide +kernel) only [push_cast,↓capI,seval,Nat.reduceLeDiff,Nat.reduceEqDiff,reduceCtorEq,↓reduceIte,get_flat_part Top.lenP,get_flat_drop Top.lenP,len_flat Top.lenP,hlt,hw,encW,slH,hwq,hb]
    refine ⟨j+1,⟨by omega,hfn hb⟩,by (try simp only);omega,?_⟩;exact Gn.canon (by first | rfl | (simp [List.append_nil,Top.encT,encT,slR,slB,slI,encW,Top.encP];rfl)) (by simp [wk,Top.slP,slH]) (by simp [List.length_append]) (by simp [Top.belT,Top.bel_slL,Top.bel_slP,Top.belP,Top.bel_Ps,Top.bel_Ls]) (by simp [Top.belT,Top.bel_slL,Top.bel_slP,Top.belP,Top.bel_Ps,Top.bel_Ls])
   ·have hf2:=hfa hb
    have h26:=pc99 (o:=wo) (s:=(ws:Int)) (i:=wi) (x:=0) (p:=di) (by omega)
    rw [hf2] at hbs
    simp only [Option.map_some,finW] at hbs
    rw [←hbs]
    simp (maxSteps:=2000000) -implicitDefEqProofs +contextual (disch:=first | assumption | omega | decide +kernel) only [push_cast,↓capI,seval,Nat.reduceLeDiff,Nat.reduceEqDiff,reduceCtorEq,↓reduceIte,get_flat_part Top.lenP,get_flat_drop Top.lenP,len_flat Top.lenP,hlt,hw,encW,slH,hwq,hb]
    refine callO.pc h26 ?_
    simp (maxSteps:=2000000) -implicitDefEqProofs +contextual (disch:=first | assumption | omega | decide +kernel) only [push_cast,↓capI,seval,Nat.reduceLeDiff,Nat.reduceEqDiff,reduceCtorEq,↓reduceIte,get_flat_part Top.lenP,get_flat_drop Top.lenP,len_flat Top.lenP,slH]
    refine endK.ret ?_ (by first | rfl | simp [Top.belT,Top.bel_slL,Top.bel_slP,Top.belP,Top.bel_Ps,Top.bel_Ls]);simp [evRes,getT,retV,Tryz.f61,findV,slH]
  ·rw [decide_eq_false hd,Bool.false_and] at hfn
   simp (maxSteps:=2000000) -implicitDefEqProofs +contextual (disch:=first | assumption | omega | decide +kernel) only [push_cast,↓capI,seval,Nat.reduceLeDiff,Nat.reduceEqDiff,reduceCtorEq,↓reduceIte,get_flat_part Top.lenP,get_flat_drop Top.lenP,len_flat Top.lenP,hlt,hw,encW,slH,hd]
   refine ⟨j+1,⟨by omega,hfn rfl⟩,by (try simp only);omega,?_⟩;exact Gn.canon (by first | rfl | (simp [List.append_nil,Top.encT,encT,slR,slB,slI,encW,Top.encP];rfl)) (by simp [wk,Top.slP,slH]) (by simp [List.length_append]) (by simp [Top.belT,Top.bel_slL,Top.bel_slP,Top.belP,Top.bel_Ps,Top.bel_Ls]) (by simp [Top.belT,Top.bel_slL,Top.bel_slP,Top.belP,Top.bel_Ps,Top.bel_Ls])
 have hje:j=Q.length:=by omega
 subst hje
 rw [List.take_length] at hno
 rw [hno] at hbs
 simp only at hbs
 clear hno hj hlt
 simp (maxSteps:=2000000) -implicitDefEqProofs +contextual (disch:=first | assumption | omega | decide +kernel) only [push_cast,↓capI,seval,Nat.reduceLeDiff,Nat.reduceEqDiff,reduceCtorEq,↓reduceIte,get_flat_part Top.lenP,get_flat_drop Top.lenP,len_flat Top.lenP,Nat.lt_irrefl]
 have hr0:g.rowL [] (S,[])=(S,[]):=rfl
 have hrs:=fun (j:Nat)=>g.row_sn (Q:=Q.take j) (o:=(S,[])) hsn (fun w hw=>by rw [hkey,hky];exact (hqk w (List.mem_of_mem_take hw)).1)
 refine T.lp tok mixed cfgF (fun ((u:Nat × Nat))=>dd 4 (kp 1 (dd 5 (kp 1 (dd 2 (kp 1 (dd 1 (kp 1 (dd 3 (sv (.buf 3 u.2 0 (g.rowL (Q.take u.1) (S,[])).2.length 3) (dd 85 (kp 2 (sv (.int .i64 (u.1:Int)) (dd 68 (nl))))))))))))))) (fun H0 ((u:Nat × Nat))=>[.cells 0 [.int .i64 ss,.int .i64 si],.cells 0 [.int .i64 ds,.int .i64 di],.map (enS (g.rowL (Q.take u.1) (S,[])).1),.cells u.2 ((g.rowL (Q.take u.1) (S,[])).2.flatMap encW)]) (fun ((u:Nat × Nat))=>u.1≤Q.length) (fun ((u:Nat × Nat))=>Q.length-u.1) ((0,0)) ?_ ?_ ?_
 ·exact Nat.zero_le _
 ·refine (Gn.ownNil (t:=19) (sz:=3) rfl).trans ?_
  exact Gn.canon (J:=[]) (by simp [List.append_nil,Top.encT,encT,slR,slB,slI,encW,Top.encP,hr0]) (by simp [wk,Top.slP,slH,putT,kp,dd,sv,nl,hr0]) (by simp [List.length_append]) (by simp [Top.belT,Top.bel_slL,Top.bel_slP,Top.belP,Top.bel_Ps,Top.bel_Ls,kp,dd,sv,nl]) (by simp [Top.belT,Top.bel_slL,Top.bel_slP,Top.belP,Top.bel_Ps,Top.bel_Ls])
 intro u hu
 obtain ⟨j,ver⟩:=u
 simp only at hu
 obtain ⟨hs1,hs2,_,hs4⟩:=hrs j
 have hsl:=hs1.len
 rw [hkey,hN] at hsl
 have hnx:=fun (h:j<Q.length)=>rowL_take g h (o:=(S,[]))
 have hlast:j=Q.length→g.rowL Q (S,[])=g.rowL (Q.take j) (S,[]):=fun e=>by rw [e,List.take_length]
 generalize hrj:g.rowL (Q.take j) (S,[])=rj at hs1 hs2 hs4 hsl hnx hlast
 simp only [hrj]
 simp only [List.length_nil,Nat.sub_zero] at hs2
 by_cases hlt:j<Q.length
 case neg =>
  have hlast:=hlast (by omega)
  rw [hlast] at hbs
  have htk:List.take (rj.2.length*3) (rj.2.flatMap encW)=rj.2.flatMap encW:=List.take_of_length_le (by rw [len_flat lenW];exact Nat.le_refl _)
  have hinv:((g.bfs f rj.1 rj.2).map fun w=>finW w di)=res∧g.Sn rj.1∧(∀w ∈ rj.2,kW w ∈ statesR t ⟨an,ac⟩∧w.out.length+f=N+1)∧N+2≤f+rj.1.length+(if rj.2.isEmpty then 1 else 0)∧rj.2.length≤rj.1.length:=by
   refine ⟨hbs,hs1,fun w hw=>⟨?_,?_⟩,?_,by omega⟩
   ·have:=(hs4 w hw).resolve_left (by simp)
    rw [hkey,hky] at this
    exact this
   ·rw [←hlast] at hw
    obtain ⟨z,hz,p,hp⟩:=(row_from g Q _ w hw).resolve_left (by simp)
    rw [hstp] at hp
    have:=stp_out hp
    have:=(hqk z hz).2
    omega
   ·cases hr2:rj.2 with
    | nil =>
     rw [hr2] at hs2
     simp at hs2 ⊢
     omega
    | cons z r =>
     rw [hr2] at hs2
     simp at hs2 ⊢
     omega
  refine vms4 (get_flat_part Top.lenP) (get_flat_drop Top.lenP) (len_flat Top.lenP) hlt ?_
  refine ⟨(f,rj.1,rj.2),hinv,by (try simp only);omega,?_⟩;refine (Gn.freeze (id:=3) rfl).trans ?_;exact Gn.canon (by first | rfl | (simp [List.append_nil,Top.encT,encT,slR,slB,slI,encW,Top.encP,fzs,fz,fzs_ok,fzH,setO,getO,Nat.beq,List.take_of_length_le,Top.belT,Top.bel_slL,Top.bel_slP,Top.belP,Top.bel_Ps,Top.bel_Ls,htk];done) | (simp [List.append_nil,Top.encT,encT,slR,slB,slI,encW,Top.encP,fzs,fz,fzs_ok,fzH,setO,getO,Nat.beq,List.take_of_length_le,Top.belT,Top.bel_slL,Top.bel_slP,Top.belP,Top.bel_Ps,Top.bel_Ls,htk];rfl)) (by simp [wk,Top.slP,slH,fzs,fz,fzs_ok,fzH,setO,getO,Nat.beq,List.take_of_length_le,Top.belT,Top.bel_slL,Top.bel_slP,Top.belP,Top.bel_Ps,Top.bel_Ls,htk,cfg0,cfgF,Top.encT,Top.slI,Top.slP,Top.slL,Top.encP,Top.encPE,slN,encT,slI,slR,slB,encW,ones_ints,ones_bools,ones_H,ones_oneH,getV_map,getV_mapO,get_flat_part Top.lenP,get_flat_drop Top.lenP,len_flat Top.lenP,get_flat_part lenW,get_flat_drop lenW,len_flat lenW,List.length_map,Nat.mul_one,keys0',mPut_nil',keyS,keysS,mGet_enS,shs_H]) (by simp [List.length_append]) (by simp [Top.belT,Top.bel_slL,Top.bel_slP,Top.belP,Top.bel_Ps,Top.bel_Ls]) (by simp [Top.belT,Top.bel_slL,Top.bel_slP,Top.belP,Top.bel_Ps,Top.bel_Ls])
 obtain ⟨hk,ho⟩:=hqk Q[j] (List.getElem_mem hlt)
 have hnx:=hnx hlt
 rw [hnp] at hnx
 have hkr:=(hst _).1 hk
 generalize hw:Q[j]=w at hk ho hkr hnx
 obtain ⟨ws,wq,wi,wo⟩:=w
 simp only [kW] at hkr ho hk hnx
 obtain ⟨ws,rfl⟩:∃k:Nat,ws=(k:Int):=⟨ws.toNat,by omega⟩
 obtain ⟨wq,rfl⟩:∃k:Nat,wq=(k:Int):=⟨wq.toNat,by omega⟩
 have hws:ws<t.ports.length:=by omega
 have hwq:wq<an.length:=by omega
 have hpr:=hv.ports _ (List.getElem_mem hws)
 have hgp:gI t.ports (ws:Int)=t.ports[ws]:=lgetD hws
 rw [hgp] at hnx
 obtain ⟨np,hnpe⟩:∃k:Nat,t.ports[ws]=(k:Int):=⟨t.ports[ws].toNat,by omega⟩
 rw [hnpe,Int.toNat_natCast] at hnx
 have hrw:(an[wq]'hwq).length=t.ports.length:=hrow0 _ (List.getElem_mem _)
 have hpn:=fun (p:Nat) (h:p≤np)=>g.ports_sn (w:=(⟨ws,wq,wi,wo⟩:Wr)) (o:=rj) hs1 (by rw [hkey,hky];exact hk) p (by rw [hnp];simp only;rw [hgp,hnpe];omega)
 simp (maxSteps:=2000000) -implicitDefEqProofs +contextual (disch:=first | assumption | omega | decide +kernel) only [push_cast,↓capI,seval,Nat.reduceLeDiff,Nat.reduceEqDiff,reduceCtorEq,↓reduceIte,get_flat_part Top.lenP,get_flat_drop Top.lenP,len_flat Top.lenP,hlt,hw,encW,slH,hws,hnpe]
 refine T.lp tok mixed cfgF (fun ((v:Nat × Nat))=>dd 4 (kp 1 (dd 5 (kp 1 (dd 2 (kp 1 (dd 1 (kp 1 (dd 3 (sv (.buf 3 v.2 0 (g.portN ⟨ws,wq,wi,wo⟩ rj v.1).2.length 3) (dd 1 (kp 1 (dd 83 (kp 3 (dd 9 (kp 1 (sv (.int .i64 (v.1:Int)) (dd 57 (nl))))))))))))))))))) (fun H0 ((v:Nat × Nat))=>[.cells 0 [.int .i64 ss,.int .i64 si],.cells 0 [.int .i64 ds,.int .i64 di],.map (enS (g.portN ⟨ws,wq,wi,wo⟩ rj v.1).1),.cells v.2 ((g.portN ⟨ws,wq,wi,wo⟩ rj v.1).2.flatMap encW),.cells 0 (encW ⟨ws,wq,wi,wo⟩)]) (fun ((v:Nat × Nat))=>v.1≤np) (fun ((v:Nat × Nat))=>np-v.1) ((0,ver)) ?_ ?_ ?_
 ·exact Nat.zero_le _
 ·exact Gn.canon (J:=[]) (by simp [List.append_nil,Top.encT,encT,slR,slB,slI,encW,Top.encP,Gph.portN,slH]) (by simp [wk,Top.slP,slH,putT,kp,dd,sv,nl,Gph.portN]) (by simp [List.length_append]) (by simp [Top.belT,Top.bel_slL,Top.bel_slP,Top.belP,Top.bel_Ps,Top.bel_Ls,kp,dd,sv,nl]) (by simp [Top.belT,Top.bel_slL,Top.bel_slP,Top.belP,Top.bel_Ps,Top.bel_Ls])
 intro v hv3
 obtain ⟨p,ver2⟩:=v
 simp only at hv3
 obtain ⟨hp1,hp2,_,hp4⟩:=hpn p hv3
 have hpl:=hp1.len
 rw [hkey,hN] at hpl
 have hstep:g.portN ⟨ws,wq,wi,wo⟩ rj (p+1)=g.portI ⟨ws,wq,wi,wo⟩ p (g.portN ⟨ws,wq,wi,wo⟩ rj p):=rfl
 have hlast3:p=np→g.portN ⟨ws,wq,wi,wo⟩ rj np=g.portN ⟨ws,wq,wi,wo⟩ rj p:=fun e=>by rw [e]
 generalize hpp:g.portN ⟨ws,wq,wi,wo⟩ rj p=o at hp1 hp2 hp4 hpl hstep hlast3
 simp only [hpp]
 by_cases hltp:p<np
 case neg =>
  rw [hlast3 (by omega)] at hnx
  refine vms4 (get_flat_part Top.lenP) (get_flat_drop Top.lenP) (len_flat Top.lenP) hltp ?_
  refine ⟨(j+1,ver2),by omega,by (try simp only);omega,?_⟩;exact Gn.canon (by first | rfl | (simp [List.append_nil,Top.encT,encT,slR,slB,slI,encW,Top.encP,hnx];rfl)) (by simp [wk,Top.slP,slH,hnx]) (by simp [List.length_append]) (by simp [Top.belT,Top.bel_slL,Top.bel_slP,Top.belP,Top.bel_Ps,Top.bel_Ls]) (by simp [Top.belT,Top.bel_slL,Top.bel_slP,Top.belP,Top.bel_Ps,Top.bel_Ls])
 have h27:=Top.pc100 t ((ws:Int),(p:Int)) hf
 have hpr2:=hpeer ((ws:Int),(p:Int))
 have hst2:=hstp ⟨ws,wq,wi,wo⟩ p
 rw [stpR] at hst2
 simp only at hst2
 generalize hpe:Top.peer t ((ws:Int),(p:Int))=pe at h27 hpr2 hst2
 obtain ⟨⟨ps,pp⟩,er⟩:=pe
 simp only at hpr2 hst2
 by_cases her:er=0
 case neg =>
  rw [if_pos her] at hst2
  rw [port_none g hst2] at hstep
  simp (maxSteps:=2000000) -implicitDefEqProofs +contextual (disch:=first | assumption | omega | decide +kernel) only [push_cast,↓capI,seval,Nat.reduceLeDiff,Nat.reduceEqDiff,reduceCtorEq,↓reduceIte,get_flat_part Top.lenP,get_flat_drop Top.lenP,len_flat Top.lenP,hltp,encW,slH]
  refine callO.pc h27 ?_
  refine vms4 (get_flat_part Top.lenP) (get_flat_drop Top.lenP) (len_flat Top.lenP) her ?_
  refine ⟨(p+1,ver2),by omega,by (try simp only);omega,?_⟩;exact Gn.canon (by first | rfl | (simp [List.append_nil,Top.encT,encT,slR,slB,slI,encW,Top.encP,hstep];rfl)) (by simp [wk,Top.slP,slH,hstep]) (by simp [List.length_append]) (by simp [Top.belT,Top.bel_slL,Top.bel_slP,Top.belP,Top.bel_Ps,Top.bel_Ls]) (by simp [Top.belT,Top.bel_slL,Top.bel_slP,Top.belP,Top.bel_Ps,Top.bel_Ls])
 have hpr2:=hpr2 her
 obtain ⟨ps,rfl⟩:∃k:Nat,ps=(k:Int):=⟨ps.toNat,by omega⟩
 have hps:ps<(an[wq]'hwq).length:=by omega
 rw [if_neg (by omega)] at hst2
 have hnv:(an[wq]'hwq)[ps]=nxA ⟨an,ac⟩ (wq:Int) (ps:Int):=by
  rw [nxA,gI,Int.toNat_natCast,Int.toNat_natCast]
  show _=(an.getD wq []).getD ps 0
  rw [lgetD hwq,lgetD hps]
 generalize nxA ⟨an,ac⟩ (wq:Int) (ps:Int)=nq at hst2 hnv
 by_cases hnq:nq<0
 ·rw [if_pos hnq] at hst2
  rw [port_none g hst2] at hstep
  simp (maxSteps:=2000000) -implicitDefEqProofs +contextual (disch:=first | assumption | omega | decide +kernel) only [push_cast,↓capI,seval,Nat.reduceLeDiff,Nat.reduceEqDiff,reduceCtorEq,↓reduceIte,get_flat_part Top.lenP,get_flat_drop Top.lenP,len_flat Top.lenP,hltp,encW,slH]
  refine callO.pc h27 ?_
  refine vms8 (get_flat_part Top.lenP) (get_flat_drop Top.lenP) (len_flat Top.lenP) her hwq hps hnv hnq ?_
  refine ⟨(p+1,ver2),by omega,by (try simp only);omega,?_⟩;exact Gn.canon (by first | rfl | (simp [List.append_nil,Top.encT,encT,slR,slB,slI,encW,Top.encP,hstep];rfl)) (by simp [wk,Top.slP,slH,hstep]) (by simp [List.length_append]) (by simp [Top.belT,Top.bel_slL,Top.bel_slP,Top.belP,Top.bel_Ps,Top.bel_Ls]) (by simp [Top.belT,Top.bel_slL,Top.bel_slP,Top.belP,Top.bel_Ps,Top.bel_Ls])
 rw [if_neg hnq] at hst2
 have hmg:=mGet_enS (p:=(ps:Int)) (q:=nq) o.1
 by_cases hin:((ps:Int),nq) ∈ o.1
 ·rw [port_seen g hst2 (by rw [hky];exact hin)] at hstep
  rw [decide_eq_true hin] at hmg
  simp (maxSteps:=2000000) -implicitDefEqProofs +contextual (disch:=first | assumption | omega | decide +kernel) only [push_cast,↓capI,seval,Nat.reduceLeDiff,Nat.reduceEqDiff,reduceCtorEq,↓reduceIte,get_flat_part Top.lenP,get_flat_drop Top.lenP,len_flat Top.lenP,hltp,encW,slH]
  refine callO.pc h27 ?_
  refine vms9 (get_flat_part Top.lenP) (get_flat_drop Top.lenP) (len_flat Top.lenP) her hwq hps hnv hnq hmg ?_
  refine ⟨(p+1,ver2),by omega,by (try simp only);omega,?_⟩;exact Gn.canon (by first | rfl | (simp [List.append_nil,Top.encT,encT,slR,slB,slI,encW,Top.encP,hstep];rfl)) (by simp [wk,Top.slP,slH,hstep]) (by simp [List.length_append]) (by simp [Top.belT,Top.bel_slL,Top.bel_slP,Top.belP,Top.bel_Ps,Top.bel_Ls]) (by simp [Top.belT,Top.bel_slL,Top.bel_slP,Top.belP,Top.bel_Ps,Top.bel_Ls])
 rw [port_new g hst2 (by rw [hky];exact hin),hky] at hstep
 rw [decide_eq_false hin] at hmg
 have hmp:=mPut_enS (p:=(ps:Int)) (q:=nq) o.1 hin
 simp (maxSteps:=2000000) -implicitDefEqProofs +contextual (disch:=first | assumption | omega | decide +kernel) only [push_cast,↓capI,seval,Nat.reduceLeDiff,Nat.reduceEqDiff,reduceCtorEq,↓reduceIte,get_flat_part Top.lenP,get_flat_drop Top.lenP,len_flat Top.lenP,hltp,encW,slH]
 refine callO.pc h27 ?_
 refine vms10 (get_flat_part Top.lenP) (get_flat_drop Top.lenP) (len_flat Top.lenP) her hwq hps hnv hnq hmg hmp ?_
 have hl1:(wo++[(⟨(ws:Int),wi,(p:Int)⟩:Hop)]).length=wo.length+1:=by simp
 have hl3:=len_flat lenH (wo++[(⟨(ws:Int),wi,(p:Int)⟩:Hop)])
 rw [hl1] at hl3
 have hol:o.2.length≤4096:=by omega
 have hwl:wo.length≤4096:=by omega
 refine callX.pcj (pcj99 (o:=wo) (s:=(ws:Int)) (i:=wi) (x:=0) (p:=(p:Int)) (by omega)) (by simp [shOs,noUn,Ob.sh]) ?_
 refine vms4 (get_flat_part Top.lenP) (get_flat_drop Top.lenP) (len_flat Top.lenP) hl3 ?_
 refine ⟨kc6 (by simp [getO]),kc6 (by simp [getO]),?_⟩
 have htk3:List.take ((wo.length+1+1)*3) (List.flatMap encH wo++[.int .i64 (ws:Int),.int .i64 wi,.int .i64 (p:Int),.int .i64 (ps:Int),.int .i64 pp,.int .i64 0])=List.flatMap encH wo++[.int .i64 (ws:Int),.int .i64 wi,.int .i64 (p:Int),.int .i64 (ps:Int),.int .i64 pp,.int .i64 0]:=List.take_of_length_le (by rw [List.length_append,len_flat lenH];simp;omega)
 refine ⟨(p+1,ver2+1),by omega,by (try simp only);omega,?_⟩;refine (Gn.freeze (id:=7) rfl).trans ?_;exact Gn.canon (by first | rfl | (simp [List.append_nil,Top.encT,encT,slR,slB,slI,encW,Top.encP,fzs,fz,fzs_ok,fzH,setO,getO,Nat.beq,List.take_of_length_le,Top.belT,Top.bel_slL,Top.bel_slP,Top.belP,Top.bel_Ps,Top.bel_Ls,hstep,fzs_app,hopsW,slH,kW,encH,htk3];done) | (simp [List.append_nil,Top.encT,encT,slR,slB,slI,encW,Top.encP,fzs,fz,fzs_ok,fzH,setO,getO,Nat.beq,List.take_of_length_le,Top.belT,Top.bel_slL,Top.bel_slP,Top.belP,Top.bel_Ps,Top.bel_Ls,hstep,fzs_app,hopsW,slH,kW,encH,htk3];rfl)) (by simp [wk,Top.slP,slH,fzs,fz,fzs_ok,fzH,setO,getO,Nat.beq,List.take_of_length_le,Top.belT,Top.bel_slL,Top.bel_slP,Top.belP,Top.bel_Ps,Top.bel_Ls,hstep,fzs_app,hopsW,slH,kW,encH,htk3,cfg0,cfgF,Top.encT,Top.slI,Top.slP,Top.slL,Top.encP,Top.encPE,slN,encT,slI,slR,slB,encW,ones_ints,ones_bools,ones_H,ones_oneH,getV_map,getV_mapO,get_flat_part Top.lenP,get_flat_drop Top.lenP,len_flat Top.lenP,get_flat_part lenW,get_flat_drop lenW,len_flat lenW,List.length_map,Nat.mul_one,keys0',mPut_nil',keyS,keysS,mGet_enS,shs_H]) (by simp [List.length_append]) (by simp [Top.belT,Top.bel_slL,Top.bel_slP,Top.belP,Top.bel_Ps,Top.bel_Ls]) (by simp [Top.belT,Top.bel_slL,Top.bel_slP,Top.belP,Top.bel_Ps,Top.bel_Ls])
end
end Go.Proofs.YtlbmbbaefncleaaGreatDoor.Px

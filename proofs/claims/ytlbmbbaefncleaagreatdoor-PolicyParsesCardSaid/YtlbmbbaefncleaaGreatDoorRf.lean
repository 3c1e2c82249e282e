/-
  Joined by a program from the texts PxLng PxPrp PxPrq PxFmt PxFmt2.
-/
import Derived.Test.YtlbmbbaefncleaaGreatDoorRe
import Derived.Test.YtlbmbbaefncleaaGreatDoorSh
import Derived.Test.YtlbmbbaefncleaaGreatDoorRc
set_option maxRecDepth 100000
set_option maxHeartbeats 4000000
set_option linter.all false
namespace Go.Proofs.YtlbmbbaefncleaaGreatDoor.Px
open Go.Vm
section
theorem flat_inj (sw:Int):∀(p q:Pr) (r s:List Nd),okP sw p→okP sw q→flat p++r=flat q++s→p=q∧r=s:=by
 intro p
 induction p with
 | leaf x =>
  intro q r s hp hq h
  have h1:=hp.1
  cases q with
  | leaf y =>
   injection h with h1 h2
   exact ⟨by rw [h1],h2⟩
  | un y q =>
   injection h with h2 _
   have:=hq.1
   rw [h2] at h1
   omega
  | bin y q1 q2 =>
   injection h with h2 _
   have:=hq.1
   rw [h2] at h1
   omega
 | un x p ih =>
  intro q r s hp hq h
  have h1:=hp.1
  cases q with
  | leaf y =>
   injection h with h2 _
   have:=hq.1
   rw [h2] at h1
   omega
  | un y q =>
   injection h with h2 h3
   obtain ⟨e1,e2⟩:=ih q r s hp.2 hq.2 h3
   exact ⟨by rw [h2,e1],e2⟩
  | bin y q1 q2 =>
   injection h with h2 _
   have:=hq.1
   rw [h2] at h1
   omega
 | bin x p1 p2 i1 i2 =>
  intro q r s hp hq h
  have h1:=hp.1
  cases q with
  | leaf y =>
   injection h with h2 _
   have:=hq.1
   rw [h2] at h1
   omega
  | un y q =>
   injection h with h2 _
   have:=hq.1
   rw [h2] at h1
   omega
  | bin y q1 q2 =>
   injection h with h2 h3
   rw [List.append_eq,List.append_eq,List.append_assoc,List.append_assoc] at h3
   obtain ⟨e1,e2⟩:=i1 q1 _ _ hp.2.1 hq.2.1 h3
   obtain ⟨e3,e4⟩:=i2 q2 r s hp.2.2 hq.2.2 e2
   exact ⟨by rw [h2,e1,e3],e4⟩
theorem wf_ok {p:Pr} (hp:okP 1000000000 p) (hl:(flat p).length≤24):PC Tryz.prog 73 [slN (flat p)] (.tup [encX p,.int .i64 0]):=by
 rcases tree28 (flat p) (by omega) with ⟨hc,q,hq,hf,h24,hpc⟩ | ⟨hc,hpc⟩
 ·obtain ⟨e,_⟩:=flat_inj 1000000000 p q [] [] hp hq (by rw [hf])
  rw [←e] at hpc
  exact hpc
 ·exact absurd (tree_checkP hp hl) hc
theorem wf_no {l:List Nd} (hl:l.length≤4000000) (hc:checkP 1000000000 l≠0):PC Tryz.prog 73 [slN l] (.tup [.nili,.int .i64 (checkP 1000000000 l)]):=by
 rcases tree28 l hl with ⟨h,_⟩ | ⟨_,hpc⟩
 ·exact absurd h hc
 ·exact hpc
end
section
theorem rn_clX {q:Nat→Nat} {p:Pr}:rns q (clX p)=clX p:=rns_ok (bel_clX p)
theorem acc_no {s p:List UInt8} (h:begins s p=false):GCall Tryz.prog 169 [.ptr 0 0 0,.str p] [.cells 0 [.str s]] (.bool false) [.cells 0 [.str s]]:=by
 have:=pc169 s p
 rw [h,cutP,if_neg (by rw [h];simp)] at this
 exact this
theorem acc_yes {s p:List UInt8} (h:begins s p=true):GCall Tryz.prog 169 [.ptr 0 0 0,.str p] [.cells 0 [.str s]] (.bool true) [.cells 0 [.str (s.drop p.length)]]:=by
 have:=pc169 s p
 rw [h,cutP,if_pos h] at this
 exact this
def Ans (f:Nat) (xs:List V) (s:List UInt8) (R:PR):Prop :=
 ∃(p:Pr) (r:List UInt8),GCall Tryz.prog f (.ptr 0 0 0::xs) [.cells 0 [.str s]] (.tup [encX p,.bool R.isSome]) [.cells 0 [.str r]]∧r.length≤s.length∧∀p' t,R=some (p',t)→p=p'∧r=t
def lstF (nx:List UInt8→PR) (fl:List UInt8→Pr) (fr:List UInt8→List UInt8) (o:Int) (c:UInt8):Nat→Pr→Bool→List UInt8→Pr × List UInt8 × Bool
 | 0,l,ok,r=>(l,r,ok)
 | k+1,l,ok,r=>if ok=true∧begins r [c]=true then lstF nx fl fr o c k (.bin (op0 o) l (fl (r.drop 1))) ((nx (r.drop 1)).isSome) (fr (r.drop 1)) else (l,r,ok)
theorem lstF_law {nx:List UInt8→PR} {fl:List UInt8→Pr} {fr:List UInt8→List UInt8} {o:Int} {c:UInt8} {n:Nat}
  (h:∀s,s.length<n→(fr s).length≤s.length∧∀p t,nx s=some (p,t)→fl s=p∧fr s=t) :
  ∀(k:Nat) (l:Pr) (x:PR) (r:List UInt8),(∀p t,x=some (p,t)→l=p∧r=t)→r.length<k→r.length≤n →
  (lstF nx fl fr o c k l x.isSome r).2.1.length≤r.length ∧
  (lstF nx fl fr o c k l x.isSome r).2.2=(x.bind fun q=>lst nx o c k q.1 q.2).isSome ∧
  ∀p t,(x.bind fun q=>lst nx o c k q.1 q.2)=some (p,t)→(lstF nx fl fr o c k l x.isSome r).1=p∧(lstF nx fl fr o c k l x.isSome r).2.1=t
 | 0,l,x,r,_,hk,_=>absurd hk (Nat.not_lt_zero _)
 | k+1,l,x,r,hx,hk,hn=>by
  cases x with
  | none =>
   rw [lstF,if_neg (by simp)]
   exact ⟨Nat.le_refl _,rfl,fun p t e=>by cases e⟩
  | some q =>
   obtain ⟨p,t⟩:=q
   obtain ⟨rfl,rfl⟩:=hx p t rfl
   rw [lstF]
   show _∧_=(lst nx o c (k+1) l r).isSome∧∀p' t',lst nx o c (k+1) l r=some (p',t')→_
   rw [lst]
   by_cases hb:begins r [c]=true
   ·have hl:=begins_le hb
    simp only [List.length_cons,List.length_nil] at hl
    have hd:(r.drop 1).length=r.length-1:=List.length_drop
    obtain ⟨h1,h2⟩:=h (r.drop 1) (by omega)
    rw [if_pos ⟨rfl,hb⟩,if_pos hb]
    cases hy:nx (r.drop 1) with
    | none =>
     have i:=lstF_law (o:=o) (c:=c) h k (.bin (op0 o) l (fl (r.drop 1))) none (fr (r.drop 1)) (fun p t e=>by cases e) (by omega) (by omega)
     exact ⟨by omega,i.2.1,fun p t e=>by cases e⟩
    | some z =>
     obtain ⟨y,u⟩:=z
     obtain ⟨e1,e2⟩:=h2 y u hy
     have i:=lstF_law (o:=o) (c:=c) h k (.bin (op0 o) l (fl (r.drop 1))) (some (.bin (op0 o) l y,u)) (fr (r.drop 1)) (fun p t e=>by cases e;exact ⟨by rw [e1],e2⟩) (by omega) (by omega)
     refine ⟨Nat.le_trans i.1 (by omega),i.2.1,i.2.2⟩
   ·rw [if_neg (fun g=>hb g.2),if_neg hb]
    exact ⟨Nat.le_refl _,rfl,fun p t e=>by cases e;exact ⟨rfl,rfl⟩⟩
attribute [local push_cast] fmN fm0 take_N toN1 slN_nil encN slN cfg0 gfp_lenN gfd_lenN lfl_lenN V.rn rns qn setPs rnOs Ob.rn List.set_cons_zero List.size_toArray encX rn_clX
theorem pg49 (F:Nat) (nx:List UInt8→PR) (o:Int) (c:UInt8) (n:Nat) (hn:n≤100001) (h:∀s,s.length<n→Ans F [] s (nx s)) (s:List UInt8) (hs:s.length<n) :
  Ans 133 [.int .i64 o,.str [c],.fn (.func F) [.ptr 0 0 0] []] s (lstP nx o c s):=by
 have hc:∃(fl:List UInt8→Pr) (fr:List UInt8→List UInt8),∀s,s.length<n→GCall Tryz.prog F [.ptr 0 0 0] [.cells 0 [.str s]] (.tup [encX (fl s),.bool (nx s).isSome]) [.cells 0 [.str (fr s)]] ∧
   (fr s).length≤s.length∧∀p t,nx s=some (p,t)→fl s=p∧fr s=t:=by
  refine ⟨fun s=>if h1:s.length<n then (h s h1).choose else .leaf (op0 1),fun s=>if h1:s.length<n then (h s h1).choose_spec.choose else [],fun s h1=>?_⟩
  simp only [dif_pos h1]
  exact (h s h1).choose_spec.choose_spec
 obtain ⟨fl,fr,hf⟩:=hc
 have hlaw:=fun l x r=>lstF_law (nx:=nx) (fl:=fl) (fr:=fr) (o:=o) (c:=c) (n:=n) (fun s hs=>(hf s hs).2) ((fr s).length+1) l x r
 have h0:=hf s hs
 have law:=hlaw (fl s) (nx s) (fr s) h0.2.2 (Nat.lt_succ_self _) (by omega)
 have eP:(nx s).bind (fun q=>lst nx o c ((fr s).length+1) q.1 q.2)=lstP nx o c s:=by
  rw [lstP]
  cases hx:nx s with
  | none=>rfl
  | some q =>
   obtain ⟨p,t⟩:=q
   rw [(h0.2.2 p t hx).2]
   rfl
 rw [eP] at law
 generalize hR:lstF nx fl fr o c ((fr s).length+1) (fl s) (nx s).isSome (fr s)=R at law
 obtain ⟨L,U,OK⟩:=R
 simp only at law
 refine ⟨L,U,?_,by omega,law.2.2⟩
 rw [←law.2.1]
 have g0:=h0.1
 rw [encX] at g0
 refine GC.walk tok mixed cfg0 Tryz.func133 rfl Tryz.call133 ?_;refine vms1 Tryz.ntmps133 ?_
 refine callO.part0 [0] g0 (by decide) rfl rfl ⟨by rfl,by simp,trivial⟩ ?_
 refine vms0 ?_
 refine T.lp tok mixed cfg0 (fun ((l,ok,r):Pr × Bool × List UInt8)=>kp 4 (dd 6 (sv (encX l) (sv (.bool ok) (dd 26 (nl)))))) (fun H0 ((l,ok,r):Pr × Bool × List UInt8)=>[.cells 0 [.str r]]) (fun ((l,ok,r):Pr × Bool × List UInt8)=>r.length≤s.length∧∃m,r.length<m∧lstF nx fl fr o c m l ok r=(L,U,OK)) (fun ((l,ok,r):Pr × Bool × List UInt8)=>r.length) ((fl s,(nx s).isSome,fr s)) ?_ ?_ ?_
 ·exact ⟨h0.2.1,_,Nat.lt_succ_self _,hR⟩
 ·exact Gn.canon (J:=[]) (by first | rfl | (simp [List.append_nil];done) | (simp [List.append_nil];rfl)) (by simp [wk,slN,encX,putT,kp,dd,sv,nl]) (by simp [List.length_append]) (by simp [fmN,fm0,bel_clX,kp,dd,sv,nl]) (by simp [fmN,fm0,bel_clX])
 rintro ⟨l,ok,r⟩ ⟨hl,m,hm,he⟩
 cases m with
 | zero=>omega
 | succ m =>
 rw [lstF] at he
 cases ok
 ·rw [if_neg (by simp)] at he
  cases he
  refine vms0 ?_
  refine endG.ret ([]) (by first | rfl | simp [fmN,fm0,bel_clX,fzs_ok,getO,setO,fzs,fz,fzH,Nat.beq,fmN,fm0,take_N,toN1,slN_nil,encN,slN,cfg0,get_flat_part lenN,get_flat_drop lenN,len_flat lenN,V.rn,rns,qn,setPs,rnOs,Ob.rn,List.set_cons_zero,List.size_toArray,encX,rn_clX]) (by simp) (by simp [fmN,fm0,bel_clX,fzs_ok,imp,lenOK_iff,List.take_of_length_le,evRes,getT,getO,setO,fzs,fz,fzH,Nat.beq,retV,Res.then,ldT,ldR,mkV,getV,fmN,fm0,take_N,toN1,slN_nil,encN,slN,cfg0,get_flat_part lenN,get_flat_drop lenN,len_flat lenN,V.rn,rns,qn,setPs,rnOs,Ob.rn,List.set_cons_zero,List.size_toArray,encX,rn_clX,Tryz.f133]) (by first | rfl | simp [fmN,fm0,bel_clX]) (by first | rfl | simp [fmN,fm0,bel_clX])
 cases hb:begins r [c]
 ·rw [if_neg (by rw [hb];simp)] at he
  cases he
  refine vms0 ?_
  refine callO.part0 [0] (acc_no hb) (by decide) rfl rfl ⟨by rfl,by simp,trivial⟩ ?_
  refine vms0 ?_
  refine endG.ret ([]) (by first | rfl | simp [fmN,fm0,bel_clX,fzs_ok,getO,setO,fzs,fz,fzH,Nat.beq,fmN,fm0,take_N,toN1,slN_nil,encN,slN,cfg0,get_flat_part lenN,get_flat_drop lenN,len_flat lenN,V.rn,rns,qn,setPs,rnOs,Ob.rn,List.set_cons_zero,List.size_toArray,encX,rn_clX]) (by simp) (by simp [fmN,fm0,bel_clX,fzs_ok,imp,lenOK_iff,List.take_of_length_le,evRes,getT,getO,setO,fzs,fz,fzH,Nat.beq,retV,Res.then,ldT,ldR,mkV,getV,fmN,fm0,take_N,toN1,slN_nil,encN,slN,cfg0,get_flat_part lenN,get_flat_drop lenN,len_flat lenN,V.rn,rns,qn,setPs,rnOs,Ob.rn,List.set_cons_zero,List.size_toArray,encX,rn_clX,Tryz.f133]) (by first | rfl | simp [fmN,fm0,bel_clX]) (by first | rfl | simp [fmN,fm0,bel_clX])
 ·have hbl:=begins_le hb
  simp only [List.length_cons,List.length_nil] at hbl
  have hd:(r.drop 1).length=r.length-1:=List.length_drop
  have hy:=hf (r.drop 1) (by omega)
  rw [if_pos ⟨rfl,hb⟩] at he
  have gy:=hy.1
  have gl:=hy.2.1
  rw [encX] at gy
  refine vms0 ?_
  refine callO.part0 [0] (acc_yes hb) (by decide) rfl rfl ⟨by rfl,by simp,trivial⟩ ?_
  simp (maxSteps:=2000000) -implicitDefEqProofs +contextual (disch:=first | assumption | omega | decide +kernel) only [push_cast,↓capI,seval,Nat.reduceLeDiff,Nat.reduceEqDiff,reduceCtorEq,↓reduceIte,List.length_cons,List.length_nil]
  refine callO.part0 [0] gy (by decide) rfl rfl ⟨by rfl,by simp,trivial⟩ ?_
  refine vms0 ?_
  refine ⟨(.bin (op0 o) l (fl (r.drop 1)),(nx (r.drop 1)).isSome,fr (r.drop 1)),⟨by (try simp only);omega,m,by (try simp only);omega,he⟩,by (try simp only);omega,?_⟩;exact Gn.canon (by first | rfl | (simp [List.append_nil,tgX,clX,op0];rfl)) (by simp [wk,slN,encX,tgX,clX,op0]) (by simp [List.length_append]) (by simp [fmN,fm0,bel_clX]) (by simp [fmN,fm0,bel_clX])
end
section
attribute [local push_cast] fmN fm0 take_N toN1 slN_nil encN slN cfg0 gfp_lenN gfd_lenN lfl_lenN V.rn rns qn setPs rnOs Ob.rn List.set_cons_zero List.size_toArray encX rn_clX
theorem pgCat {nx:List UInt8→PR} {n:Nat} (hn:n≤100001) (h:∀s,s.length<n→Ans 170 [] s (nx s)) (s:List UInt8) (hs:s.length<n):Ans 134 [] s (lstP nx 4 44 s):=by
 obtain ⟨p,r,g,hl,hr⟩:=pg49 170 nx 4 44 n hn h s hs
 refine ⟨p,r,?_,hl,hr⟩
 refine GC.walk tok mixed cfg0 Tryz.func134 rfl Tryz.call134 ?_;refine vms1 Tryz.ntmps134 ?_
 refine callO.part0 [0] g (by decide) rfl rfl ⟨by rfl,by simp,trivial⟩ ?_
 refine vms0 ?_
 refine endG.ret ([]) (by first | rfl | simp [fmN,fm0,bel_clX,fzs_ok,getO,setO,fzs,fz,fzH,Nat.beq,fmN,fm0,take_N,toN1,slN_nil,encN,slN,cfg0,get_flat_part lenN,get_flat_drop lenN,len_flat lenN,V.rn,rns,qn,setPs,rnOs,Ob.rn,List.set_cons_zero,List.size_toArray,encX,rn_clX,encX]) (by simp) (by simp [fmN,fm0,bel_clX,fzs_ok,imp,lenOK_iff,List.take_of_length_le,evRes,getT,getO,setO,fzs,fz,fzH,Nat.beq,retV,Res.then,ldT,ldR,mkV,getV,fmN,fm0,take_N,toN1,slN_nil,encN,slN,cfg0,get_flat_part lenN,get_flat_drop lenN,len_flat lenN,V.rn,rns,qn,setPs,rnOs,Ob.rn,List.set_cons_zero,List.size_toArray,encX,rn_clX,Tryz.f134,encX]) (by first | rfl | simp [fmN,fm0,bel_clX,encX]) (by first | rfl | simp [fmN,fm0,bel_clX,encX])
theorem pgAlt {nx:List UInt8→PR} {n:Nat} (hn:n≤100001) (h:∀s,s.length<n→Ans 134 [] s (nx s)) (s:List UInt8) (hs:s.length<n):Ans 84 [] s (lstP nx 5 124 s):=by
 obtain ⟨p,r,g,hl,hr⟩:=pg49 134 nx 5 124 n hn h s hs
 refine ⟨p,r,?_,hl,hr⟩
 refine GC.walk tok mixed cfg0 Tryz.func84 rfl Tryz.call84 ?_;refine vms1 Tryz.ntmps84 ?_
 refine callO.part0 [0] g (by decide) rfl rfl ⟨by rfl,by simp,trivial⟩ ?_
 refine vms0 ?_
 refine endG.ret ([]) (by first | rfl | simp [fmN,fm0,bel_clX,fzs_ok,getO,setO,fzs,fz,fzH,Nat.beq,fmN,fm0,take_N,toN1,slN_nil,encN,slN,cfg0,get_flat_part lenN,get_flat_drop lenN,len_flat lenN,V.rn,rns,qn,setPs,rnOs,Ob.rn,List.set_cons_zero,List.size_toArray,encX,rn_clX,encX]) (by simp) (by simp [fmN,fm0,bel_clX,fzs_ok,imp,lenOK_iff,List.take_of_length_le,evRes,getT,getO,setO,fzs,fz,fzH,Nat.beq,retV,Res.then,ldT,ldR,mkV,getV,fmN,fm0,take_N,toN1,slN_nil,encN,slN,cfg0,get_flat_part lenN,get_flat_drop lenN,len_flat lenN,V.rn,rns,qn,setPs,rnOs,Ob.rn,List.set_cons_zero,List.size_toArray,encX,rn_clX,Tryz.f84,encX]) (by first | rfl | simp [fmN,fm0,bel_clX,encX]) (by first | rfl | simp [fmN,fm0,bel_clX,encX])
theorem strs_len:∀k p s,(strs k p s).2.length≤s.length
 | 0,_,_=>Nat.le_refl _
 | k+1,p,s=>by
  rw [strs]
  split
  ·have:=strs_len k (.un (op0 6) p) (s.drop 1)
   rw [List.length_drop] at this
   omega
  ·exact Nat.le_refl _
theorem pgStr {nx:List UInt8→PR} {n:Nat} (h:∀s,s.length<n→Ans 194 [] s (nx s)) (s:List UInt8) (hs:s.length<n):Ans 170 [] s (pStr nx s):=by
 obtain ⟨p0,r0,g,hl0,hr0⟩:=h s hs
 rw [encX] at g
 cases hx:nx s with
 | none =>
  rw [hx] at g
  have e:pStr nx s=none:=by rw [pStr,hx]
  rw [e]
  refine ⟨p0,r0,?_,hl0,fun p t e=>by cases e⟩
  refine GC.walk tok mixed cfg0 Tryz.func170 rfl Tryz.call170 ?_;refine vms1 Tryz.ntmps170 ?_
  refine callO.part0 [0] g (by decide) rfl rfl ⟨by rfl,by simp,trivial⟩ ?_
  refine vms0 ?_
  refine T.lp tok mixed cfg0 (fun ((p,r):Pr × List UInt8)=>kp 1 (dd 3 (sv (encX p) (kp 1 (dd 15 (nl)))))) (fun H0 ((p,r):Pr × List UInt8)=>[.cells 0 [.str r]]) (fun ((p,r):Pr × List UInt8)=>p=p0∧r=r0) (fun ((p,r):Pr × List UInt8)=>0) ((p0,r0)) ?_ ?_ ?_
  ·exact ⟨rfl,rfl⟩
  ·exact Gn.canon (J:=[]) (by first | rfl | (simp [List.append_nil];done) | (simp [List.append_nil];rfl)) (by simp [wk,slN,encX,putT,kp,dd,sv,nl]) (by simp [List.length_append]) (by simp [fmN,fm0,bel_clX,kp,dd,sv,nl]) (by simp [fmN,fm0,bel_clX])
  rintro ⟨p,r⟩ ⟨rfl,rfl⟩
  refine vms0 ?_
  refine endG.ret ([]) (by first | rfl | simp [fmN,fm0,bel_clX,fzs_ok,getO,setO,fzs,fz,fzH,Nat.beq,fmN,fm0,take_N,toN1,slN_nil,encN,slN,cfg0,get_flat_part lenN,get_flat_drop lenN,len_flat lenN,V.rn,rns,qn,setPs,rnOs,Ob.rn,List.set_cons_zero,List.size_toArray,encX,rn_clX,encX]) (by simp) (by simp [fmN,fm0,bel_clX,fzs_ok,imp,lenOK_iff,List.take_of_length_le,evRes,getT,getO,setO,fzs,fz,fzH,Nat.beq,retV,Res.then,ldT,ldR,mkV,getV,fmN,fm0,take_N,toN1,slN_nil,encN,slN,cfg0,get_flat_part lenN,get_flat_drop lenN,len_flat lenN,V.rn,rns,qn,setPs,rnOs,Ob.rn,List.set_cons_zero,List.size_toArray,encX,rn_clX,Tryz.f170,encX]) (by first | rfl | simp [fmN,fm0,bel_clX,encX]) (by first | rfl | simp [fmN,fm0,bel_clX,encX])
 | some q =>
  obtain ⟨p1,r1⟩:=q
  obtain ⟨rfl,rfl⟩:=hr0 _ _ hx
  rw [hx] at g
  have e:pStr nx s=some (strs (r0.length+1) p0 r0):=by rw [pStr,hx]
  rw [e]
  have hsl:=strs_len (r0.length+1) p0 r0
  generalize hR:strs (r0.length+1) p0 r0=R at hsl
  obtain ⟨P,U⟩:=R
  simp only at hsl
  refine ⟨P,U,?_,by omega,fun p t e=>by cases e;exact ⟨rfl,rfl⟩⟩
  refine GC.walk tok mixed cfg0 Tryz.func170 rfl Tryz.call170 ?_;refine vms1 Tryz.ntmps170 ?_
  refine callO.part0 [0] g (by decide) rfl rfl ⟨by rfl,by simp,trivial⟩ ?_
  refine vms0 ?_
  refine T.lp tok mixed cfg0 (fun ((p,r):Pr × List UInt8)=>kp 1 (dd 3 (sv (encX p) (kp 1 (dd 15 (nl)))))) (fun H0 ((p,r):Pr × List UInt8)=>[.cells 0 [.str r]]) (fun ((p,r):Pr × List UInt8)=>∃m,r.length<m∧strs m p r=(P,U)) (fun ((p,r):Pr × List UInt8)=>r.length) ((p0,r0)) ?_ ?_ ?_
  ·exact ⟨_,Nat.lt_succ_self _,hR⟩
  ·exact Gn.canon (J:=[]) (by first | rfl | (simp [List.append_nil];done) | (simp [List.append_nil];rfl)) (by simp [wk,slN,encX,putT,kp,dd,sv,nl]) (by simp [List.length_append]) (by simp [fmN,fm0,bel_clX,kp,dd,sv,nl]) (by simp [fmN,fm0,bel_clX])
  rintro ⟨p,r⟩ ⟨m,hm,he⟩
  cases m with
  | zero=>omega
  | succ m =>
  rw [strs] at he
  cases hb:begins r [42]
  ·rw [if_neg (by rw [hb];simp)] at he
   cases he
   refine vms0 ?_
   refine callO.part0 [0] (acc_no hb) (by decide) rfl rfl ⟨by rfl,by simp,trivial⟩ ?_
   refine vms0 ?_
   refine endG.ret ([]) (by first | rfl | simp [fmN,fm0,bel_clX,fzs_ok,getO,setO,fzs,fz,fzH,Nat.beq,fmN,fm0,take_N,toN1,slN_nil,encN,slN,cfg0,get_flat_part lenN,get_flat_drop lenN,len_flat lenN,V.rn,rns,qn,setPs,rnOs,Ob.rn,List.set_cons_zero,List.size_toArray,encX,rn_clX,encX]) (by simp) (by simp [fmN,fm0,bel_clX,fzs_ok,imp,lenOK_iff,List.take_of_length_le,evRes,getT,getO,setO,fzs,fz,fzH,Nat.beq,retV,Res.then,ldT,ldR,mkV,getV,fmN,fm0,take_N,toN1,slN_nil,encN,slN,cfg0,get_flat_part lenN,get_flat_drop lenN,len_flat lenN,V.rn,rns,qn,setPs,rnOs,Ob.rn,List.set_cons_zero,List.size_toArray,encX,rn_clX,Tryz.f170,encX]) (by first | rfl | simp [fmN,fm0,bel_clX,encX]) (by first | rfl | simp [fmN,fm0,bel_clX,encX])
  ·have hbl:=begins_le hb
   simp only [List.length_cons,List.length_nil] at hbl
   have hd:(r.drop 1).length=r.length-1:=List.length_drop
   rw [if_pos hb] at he
   refine vms0 ?_
   refine callO.part0 [0] (acc_yes hb) (by decide) rfl rfl ⟨by rfl,by simp,trivial⟩ ?_
   simp (maxSteps:=2000000) -implicitDefEqProofs +contextual (disch:=first | assumption | omega | decide +kernel) only [push_cast,↓capI,seval,Nat.reduceLeDiff,Nat.reduceEqDiff,reduceCtorEq,↓reduceIte,List.length_cons,List.length_nil]
   refine ⟨(.un (op0 6) p,r.drop 1),⟨m,by (try simp only);omega,he⟩,by (try simp only);omega,?_⟩;exact Gn.canon (by first | rfl | (simp [List.append_nil,tgX,clX,op0];rfl)) (by simp [wk,slN,encX,tgX,clX,op0]) (by simp [List.length_append]) (by simp [fmN,fm0,bel_clX]) (by simp [fmN,fm0,bel_clX])
theorem pgNum (s:List UInt8) (hs:s.length≤100000) (h1:begins s [40,41]=false) (h2:begins s [46]=false) (h3:begins s [40]=false):Ans 194 [] s (pNumb s):=by
 have hl:=dropD_len s
 have ht:=(take_digs s).1
 have hd:=(take_digs s).2
 have hk:(s.length:Int)-(dropD s).length=((s.length-(dropD s).length:Nat):Int):=by omega
 have hk2:s.length-(dropD s).length≤s.length:=Nat.sub_le _ _
 generalize s.length-(dropD s).length=k at ht hd hk hk2
 have hpi:=pc82 (digs s) (by omega)
 have htl:min s.length (s.length-k)=s.length-k:=by omega
 have hdt:(dropD s).take (s.length-k)=dropD s:=List.take_of_length_le (by omega)
 have h67:=pc216 s
 unfold digs0 at h67
 rw [encIB] at hpi
 rw [pNumb]
 have eS:(if (parseI (digs s)).2=true then some (Pr.leaf ⟨3,(parseI (digs s)).1⟩,dropD s) else none).isSome=(parseI (digs s)).2:=by
  cases (parseI (digs s)).2<;>rfl
 refine ⟨.leaf ⟨3,(parseI (digs s)).1⟩,dropD s,?_,by omega,fun p t e=>?_⟩
 ·rw [eS]
  generalize parseI (digs s)=pi at hpi
  obtain ⟨n,ok⟩:=pi
  simp only at hpi
  refine GC.walk tok mixed cfg0 Tryz.func194 rfl Tryz.call194 ?_;refine vms1 Tryz.ntmps194 ?_
  refine callO.part0 [0] (acc_no h1) (by decide) rfl rfl ⟨by rfl,by simp,trivial⟩ ?_
  refine vms0 ?_
  refine callO.part0 [0] (acc_no h2) (by decide) rfl rfl ⟨by rfl,by simp,trivial⟩ ?_
  refine vms0 ?_
  refine callO.part0 [0] (acc_no h3) (by decide) rfl rfl ⟨by rfl,by simp,trivial⟩ ?_
  refine vms0 ?_
  refine callG.pc1 h67 ?_
  simp (maxSteps:=2000000) -implicitDefEqProofs +contextual (disch:=first | assumption | omega | decide +kernel) only [push_cast,↓capI,seval,Nat.reduceLeDiff,Nat.reduceEqDiff,reduceCtorEq,↓reduceIte,hk,ht,hd,Nat.sub_zero]
  refine callO.pc hpi ?_
  refine vms3 ht hd hdt ?_
  refine endG.ret ([]) (by first | rfl | simp [fmN,fm0,bel_clX,fzs_ok,getO,setO,fzs,fz,fzH,Nat.beq,fmN,fm0,take_N,toN1,slN_nil,encN,slN,cfg0,get_flat_part lenN,get_flat_drop lenN,len_flat lenN,V.rn,rns,qn,setPs,rnOs,Ob.rn,List.set_cons_zero,List.size_toArray,encX,rn_clX,encX,tgX,clX,nN]) (by simp) (by simp [fmN,fm0,bel_clX,fzs_ok,imp,lenOK_iff,List.take_of_length_le,evRes,getT,getO,setO,fzs,fz,fzH,Nat.beq,retV,Res.then,ldT,ldR,mkV,getV,fmN,fm0,take_N,toN1,slN_nil,encN,slN,cfg0,get_flat_part lenN,get_flat_drop lenN,len_flat lenN,V.rn,rns,qn,setPs,rnOs,Ob.rn,List.set_cons_zero,List.size_toArray,encX,rn_clX,Tryz.f194,encX,tgX,clX,nN]) (by first | rfl | simp [fmN,fm0,bel_clX,encX,tgX,clX,nN]) (by first | rfl | simp [fmN,fm0,bel_clX,encX,tgX,clX,nN])
 ·split at e
  ·cases e;exact ⟨rfl,rfl⟩
  ·cases e
theorem pg63:∀k,k≤100001→∀s:List UInt8,s.length<k→Ans 194 [] s (pAtm k s)
 | 0,_,s,h=>absurd h (Nat.not_lt_zero _)
 | k+1,hk,s,hs=>by
  have ih:=pg63 k (by omega)
  rw [pAtm]
  by_cases h1:begins s [40,41]=true
  ·have hl:=begins_le h1
   simp only [List.length_cons,List.length_nil] at hl
   rw [if_pos h1]
   refine ⟨.leaf (op0 1),s.drop 2,?_,by rw [List.length_drop];omega,fun p t e=>by cases e;exact ⟨rfl,rfl⟩⟩
   refine GC.walk tok mixed cfg0 Tryz.func194 rfl Tryz.call194 ?_;refine vms1 Tryz.ntmps194 ?_
   refine callO.part0 [0] (acc_yes h1) (by decide) rfl rfl ⟨by rfl,by simp,trivial⟩ ?_
   refine vms0 ?_
   refine endG.ret ([]) (by first | rfl | simp [fmN,fm0,bel_clX,fzs_ok,getO,setO,fzs,fz,fzH,Nat.beq,fmN,fm0,take_N,toN1,slN_nil,encN,slN,cfg0,get_flat_part lenN,get_flat_drop lenN,len_flat lenN,V.rn,rns,qn,setPs,rnOs,Ob.rn,List.set_cons_zero,List.size_toArray,encX,rn_clX,encX,tgX,clX,nN,op0]) (by simp) (by simp [fmN,fm0,bel_clX,fzs_ok,imp,lenOK_iff,List.take_of_length_le,evRes,getT,getO,setO,fzs,fz,fzH,Nat.beq,retV,Res.then,ldT,ldR,mkV,getV,fmN,fm0,take_N,toN1,slN_nil,encN,slN,cfg0,get_flat_part lenN,get_flat_drop lenN,len_flat lenN,V.rn,rns,qn,setPs,rnOs,Ob.rn,List.set_cons_zero,List.size_toArray,encX,rn_clX,Tryz.f194,encX,tgX,clX,nN,op0]) (by first | rfl | simp [fmN,fm0,bel_clX,encX,tgX,clX,nN,op0]) (by first | rfl | simp [fmN,fm0,bel_clX,encX,tgX,clX,nN,op0])
  have f1:=Bool.eq_false_iff.2 h1
  rw [if_neg h1]
  by_cases h2:begins s [46]=true
  ·have hl:=begins_le h2
   simp only [List.length_cons,List.length_nil] at hl
   rw [if_pos h2]
   refine ⟨.leaf (op0 2),s.drop 1,?_,by rw [List.length_drop];omega,fun p t e=>by cases e;exact ⟨rfl,rfl⟩⟩
   refine GC.walk tok mixed cfg0 Tryz.func194 rfl Tryz.call194 ?_;refine vms1 Tryz.ntmps194 ?_
   refine callO.part0 [0] (acc_no f1) (by decide) rfl rfl ⟨by rfl,by simp,trivial⟩ ?_
   refine vms0 ?_
   refine callO.part0 [0] (acc_yes h2) (by decide) rfl rfl ⟨by rfl,by simp,trivial⟩ ?_
   refine vms0 ?_
   refine endG.ret ([]) (by first | rfl | simp [fmN,fm0,bel_clX,fzs_ok,getO,setO,fzs,fz,fzH,Nat.beq,fmN,fm0,take_N,toN1,slN_nil,encN,slN,cfg0,get_flat_part lenN,get_flat_drop lenN,len_flat lenN,V.rn,rns,qn,setPs,rnOs,Ob.rn,List.set_cons_zero,List.size_toArray,encX,rn_clX,encX,tgX,clX,nN,op0]) (by simp) (by simp [fmN,fm0,bel_clX,fzs_ok,imp,lenOK_iff,List.take_of_length_le,evRes,getT,getO,setO,fzs,fz,fzH,Nat.beq,retV,Res.then,ldT,ldR,mkV,getV,fmN,fm0,take_N,toN1,slN_nil,encN,slN,cfg0,get_flat_part lenN,get_flat_drop lenN,len_flat lenN,V.rn,rns,qn,setPs,rnOs,Ob.rn,List.set_cons_zero,List.size_toArray,encX,rn_clX,Tryz.f194,encX,tgX,clX,nN,op0]) (by first | rfl | simp [fmN,fm0,bel_clX,encX,tgX,clX,nN,op0]) (by first | rfl | simp [fmN,fm0,bel_clX,encX,tgX,clX,nN,op0])
  have f2:=Bool.eq_false_iff.2 h2
  rw [if_neg h2]
  by_cases h3:begins s [40]=true
  ·have hl:=begins_le h3
   simp only [List.length_cons,List.length_nil] at hl
   have hd:(s.drop 1).length=s.length-1:=List.length_drop
   obtain ⟨p,r,g,g1,g2⟩:=pgAlt (by omega) (fun s hs=>pgCat (by omega) (fun s hs=>pgStr ih s hs) s hs) (s.drop 1) (by omega)
   rw [if_pos h3]
   rw [encX] at g
   cases hn:lstP (lstP (pStr (pAtm k)) 4 44) 5 124 (s.drop 1) with
   | none =>
    rw [hn] at g
    refine ⟨p,r,?_,by omega,fun p t e=>by cases e⟩
    refine GC.walk tok mixed cfg0 Tryz.func194 rfl Tryz.call194 ?_;refine vms1 Tryz.ntmps194 ?_
    refine callO.part0 [0] (acc_no f1) (by decide) rfl rfl ⟨by rfl,by simp,trivial⟩ ?_
    refine vms0 ?_
    refine callO.part0 [0] (acc_no f2) (by decide) rfl rfl ⟨by rfl,by simp,trivial⟩ ?_
    refine vms0 ?_
    refine callO.part0 [0] (acc_yes h3) (by decide) rfl rfl ⟨by rfl,by simp,trivial⟩ ?_
    simp (maxSteps:=2000000) -implicitDefEqProofs +contextual (disch:=first | assumption | omega | decide +kernel) only [push_cast,↓capI,seval,Nat.reduceLeDiff,Nat.reduceEqDiff,reduceCtorEq,↓reduceIte,List.length_cons,List.length_nil]
    refine callO.part0 [0] g (by decide) rfl rfl ⟨by rfl,by simp,trivial⟩ ?_
    refine vms0 ?_
    refine endG.ret ([]) (by first | rfl | simp [fmN,fm0,bel_clX,fzs_ok,getO,setO,fzs,fz,fzH,Nat.beq,fmN,fm0,take_N,toN1,slN_nil,encN,slN,cfg0,get_flat_part lenN,get_flat_drop lenN,len_flat lenN,V.rn,rns,qn,setPs,rnOs,Ob.rn,List.set_cons_zero,List.size_toArray,encX,rn_clX,encX]) (by simp) (by simp [fmN,fm0,bel_clX,fzs_ok,imp,lenOK_iff,List.take_of_length_le,evRes,getT,getO,setO,fzs,fz,fzH,Nat.beq,retV,Res.then,ldT,ldR,mkV,getV,fmN,fm0,take_N,toN1,slN_nil,encN,slN,cfg0,get_flat_part lenN,get_flat_drop lenN,len_flat lenN,V.rn,rns,qn,setPs,rnOs,Ob.rn,List.set_cons_zero,List.size_toArray,encX,rn_clX,Tryz.f194,encX]) (by first | rfl | simp [fmN,fm0,bel_clX,encX]) (by first | rfl | simp [fmN,fm0,bel_clX,encX])
   | some q =>
    obtain ⟨p',u⟩:=q
    rw [hn] at g
    obtain ⟨e1,e2⟩:=g2 _ _ hn
    subst e1 e2
    simp only
    cases hb:begins r [41]
    ·rw [if_neg (by simp)]
     refine ⟨p,r,?_,by omega,fun p t e=>by cases e⟩
     refine GC.walk tok mixed cfg0 Tryz.func194 rfl Tryz.call194 ?_;refine vms1 Tryz.ntmps194 ?_
     refine callO.part0 [0] (acc_no f1) (by decide) rfl rfl ⟨by rfl,by simp,trivial⟩ ?_
     refine vms0 ?_
     refine callO.part0 [0] (acc_no f2) (by decide) rfl rfl ⟨by rfl,by simp,trivial⟩ ?_
     refine vms0 ?_
     refine callO.part0 [0] (acc_yes h3) (by decide) rfl rfl ⟨by rfl,by simp,trivial⟩ ?_
     simp (maxSteps:=2000000) -implicitDefEqProofs +contextual (disch:=first | assumption | omega | decide +kernel) only [push_cast,↓capI,seval,Nat.reduceLeDiff,Nat.reduceEqDiff,reduceCtorEq,↓reduceIte,List.length_cons,List.length_nil]
     refine callO.part0 [0] g (by decide) rfl rfl ⟨by rfl,by simp,trivial⟩ ?_
     refine vms0 ?_
     refine callO.part0 [0] (acc_no hb) (by decide) rfl rfl ⟨by rfl,by simp,trivial⟩ ?_
     refine vms0 ?_
     refine endG.ret ([]) (by first | rfl | simp [fmN,fm0,bel_clX,fzs_ok,getO,setO,fzs,fz,fzH,Nat.beq,fmN,fm0,take_N,toN1,slN_nil,encN,slN,cfg0,get_flat_part lenN,get_flat_drop lenN,len_flat lenN,V.rn,rns,qn,setPs,rnOs,Ob.rn,List.set_cons_zero,List.size_toArray,encX,rn_clX,encX]) (by simp) (by simp [fmN,fm0,bel_clX,fzs_ok,imp,lenOK_iff,List.take_of_length_le,evRes,getT,getO,setO,fzs,fz,fzH,Nat.beq,retV,Res.then,ldT,ldR,mkV,getV,fmN,fm0,take_N,toN1,slN_nil,encN,slN,cfg0,get_flat_part lenN,get_flat_drop lenN,len_flat lenN,V.rn,rns,qn,setPs,rnOs,Ob.rn,List.set_cons_zero,List.size_toArray,encX,rn_clX,Tryz.f194,encX]) (by first | rfl | simp [fmN,fm0,bel_clX,encX]) (by first | rfl | simp [fmN,fm0,bel_clX,encX])
    ·rw [if_pos rfl]
     refine ⟨p,r.drop 1,?_,by rw [List.length_drop];omega,fun p t e=>by cases e;exact ⟨rfl,rfl⟩⟩
     refine GC.walk tok mixed cfg0 Tryz.func194 rfl Tryz.call194 ?_;refine vms1 Tryz.ntmps194 ?_
     refine callO.part0 [0] (acc_no f1) (by decide) rfl rfl ⟨by rfl,by simp,trivial⟩ ?_
     refine vms0 ?_
     refine callO.part0 [0] (acc_no f2) (by decide) rfl rfl ⟨by rfl,by simp,trivial⟩ ?_
     refine vms0 ?_
     refine callO.part0 [0] (acc_yes h3) (by decide) rfl rfl ⟨by rfl,by simp,trivial⟩ ?_
     simp (maxSteps:=2000000) -implicitDefEqProofs +contextual (disch:=first | assumption | omega | decide +kernel) only [push_cast,↓capI,seval,Nat.reduceLeDiff,Nat.reduceEqDiff,reduceCtorEq,↓reduceIte,List.length_cons,List.length_nil]
     refine callO.part0 [0] g (by decide) rfl rfl ⟨by rfl,by simp,trivial⟩ ?_
     refine vms0 ?_
     refine callO.part0 [0] (acc_yes hb) (by decide) rfl rfl ⟨by rfl,by simp,trivial⟩ ?_
     refine vms0 ?_
     refine endG.ret ([]) (by first | rfl | simp [fmN,fm0,bel_clX,fzs_ok,getO,setO,fzs,fz,fzH,Nat.beq,fmN,fm0,take_N,toN1,slN_nil,encN,slN,cfg0,get_flat_part lenN,get_flat_drop lenN,len_flat lenN,V.rn,rns,qn,setPs,rnOs,Ob.rn,List.set_cons_zero,List.size_toArray,encX,rn_clX,encX]) (by simp) (by simp [fmN,fm0,bel_clX,fzs_ok,imp,lenOK_iff,List.take_of_length_le,evRes,getT,getO,setO,fzs,fz,fzH,Nat.beq,retV,Res.then,ldT,ldR,mkV,getV,fmN,fm0,take_N,toN1,slN_nil,encN,slN,cfg0,get_flat_part lenN,get_flat_drop lenN,len_flat lenN,V.rn,rns,qn,setPs,rnOs,Ob.rn,List.set_cons_zero,List.size_toArray,encX,rn_clX,Tryz.f194,encX]) (by first | rfl | simp [fmN,fm0,bel_clX,encX]) (by first | rfl | simp [fmN,fm0,bel_clX,encX])
  rw [if_neg h3]
  exact pgNum s (by omega) f1 f2 (Bool.eq_false_iff.2 h3)
theorem pg36 (s:List UInt8) (hs:s.length≤100000):Ans 84 [] s (pOr (s.length+1) s) :=
 pgAlt (n:=s.length+1) (by omega) (fun t ht=>pgCat (n:=s.length+1) (by omega) (fun t ht=>pgStr (pg63 (s.length+1) (by omega)) t ht) t ht) s (Nat.lt_succ_self _)
end
section
def dec8 (n:Nat):List UInt8 :=
 if n<10 then [UInt8.ofNat (48+n)] else if n<100 then [UInt8.ofNat (48+n / 10),UInt8.ofNat (48+n % 10)]
 else [UInt8.ofNat (48+n / 100),UInt8.ofNat (48+n / 10 % 10),UInt8.ofNat (48+n % 10)]
theorem u32_id {x:Int} (h:0≤x∧x<4294967296):IntKind.u32.wrap x=x:=by
 unfold IntKind.wrap
 simp [IntKind.bits,IntKind.signed]
 omega
theorem u8_id {x:Int} (h:0≤x∧x<256):IntKind.u8.wrap x=x:=by
 unfold IntKind.wrap
 simp [IntKind.bits,IntKind.signed]
 omega
theorem fin10n {P:Nat→Prop} (h:∀m:Fin 10,P m.1):∀n,n<10→P n:=fun n hn=>h ⟨n,hn⟩
theorem fin100n {P:Nat→Prop} (h:∀m:Fin 100,10≤m.1→P m.1):∀n,n<100→10≤n→P n:=fun n hn h2=>h ⟨n,hn⟩ h2
theorem gl0:(GlobTab.gl 1:Option (List (IntKind × Int)))=some [(.u64,1),(.u64,10),(.u64,100),(.u64,1000),(.u64,10000),(.u64,100000),(.u64,1000000),(.u64,10000000),(.u64,100000000),(.u64,1000000000),(.u64,10000000000),(.u64,100000000000),(.u64,1000000000000),(.u64,10000000000000),(.u64,100000000000000),(.u64,1000000000000000),(.u64,10000000000000000),(.u64,100000000000000000),(.u64,1000000000000000000),(.u64,10000000000000000000)]:=rfl
attribute [local push_cast] cfg0 take_rest ibeq_dec V.rn rns qn setPs rnOs Ob.rn gl0 glV List.map V.st List.set_cons_zero List.size_toArray
theorem pc181 (n:Nat) (hn:n<100):PC Tryz.prog 181 [.int .i64 n] (.str (dec8 n)):=by
 refine PC.walk tok mixed cfg0 Tryz.func181 rfl Tryz.call181 (by simp) (by first | rfl | simp) ?_;refine vms1 Tryz.ntmps181 ?_
 refine ⟨fun h=>?_,fun h=>?_⟩
 ·have h2:n<10:=by omega
  refine endK.retA ?_;simp [evRes,getT,retV,Tryz.f181]
  clear h hn
  revert n
  apply fin10n
  decide
 ·have hl:(n:Int)*2+2≤200:=by omega
  refine ⟨hl,fun _=>?_⟩
  have h3:10≤n:=by omega
  have e1:((n:Int)*2+2).toNat-((n:Int)*2).toNat=2:=by omega
  have e2:((n:Int)*2).toNat=n*2:=by omega
  refine endK.retA ?_;simp [evRes,getT,retV,Tryz.f181,e1,e2]
  rename_i hx
  clear h hl e1 e2 hx
  revert n
  apply fin100n
  decide
theorem pc208 (n:Nat) (hn:n=7∨n=8):PC Tryz.prog 208 [.int .i64 n] (.int .i64 2):=by
 rcases hn with rfl | rfl
 ·refine PC.walk tok mixed cfg0 Tryz.func208 rfl Tryz.call208 (by simp) (by first | rfl | simp) ?_;refine vms1 Tryz.ntmps208 ?_
  refine endK.retA ?_;simp [evRes,getT,retV,Tryz.f208]
  rfl
 ·refine PC.walk tok mixed cfg0 Tryz.func208 rfl Tryz.call208 (by simp) (by first | rfl | simp) ?_;refine vms1 Tryz.ntmps208 ?_
  refine endK.retA ?_;simp [evRes,getT,retV,Tryz.f208]
  rfl
theorem pc210 (b:Bool):PC Tryz.prog 210 [.bool b] (.int .i64 (if b then 1 else 0)):=by
 cases b
 ·refine PC.walk tok mixed cfg0 Tryz.func210 rfl Tryz.call210 (by simp) (by first | rfl | simp) ?_;refine vms1 Tryz.ntmps210 ?_
  refine endK.retA ?_;simp [evRes,getT,retV,Tryz.f210]
 ·refine PC.walk tok mixed cfg0 Tryz.func210 rfl Tryz.call210 (by simp) (by first | rfl | simp) ?_;refine vms1 Tryz.ntmps210 ?_
  refine endK.retA ?_;simp [evRes,getT,retV,Tryz.f210]
theorem pc182 (n:Nat) (hn:100≤n∧n<256):PC Tryz.prog 182 [.int .u64 n] (.int .i64 3):=by
 have h64:len64 n=7∨len64 n=8:=by
  have:n.log2=6∨n.log2=7:=by
   have h1:6≤n.log2:=(Nat.le_log2 (by omega)).2 (by omega)
   have h2:n.log2<8:=(Nat.log2_lt (by omega)).2 (by omega)
   omega
  unfold len64
  rw [if_neg (by omega)]
  omega
 refine PC.walk tok mixed cfg0 Tryz.func182 rfl Tryz.call182 (by simp) (by first | rfl | simp) ?_;refine vms1 Tryz.ntmps182 ?_
 refine callO.pc (pc209 n (by omega)) ?_
 refine vms0 ?_
 refine callO.pc (pc208 _ h64) ?_
 refine vms0 ?_
 have h100:(100:Int)≤(n:Int):=by omega
 refine callO.pc (pc210 true) ?_
 refine vms0 ?_
 refine endK.retA ?_;simp [evRes,getT,retV,Tryz.f182]
def z24:List V:=List.replicate 24 (.int .u8 0)
def buf3 (n:Nat):List V:=[.int .u8 0,.int .u8 ((48+n / 100:Nat):Int),.int .u8 ((48+n / 10 % 10:Nat):Int),.int .u8 ((48+n % 10:Nat):Int)]++List.replicate 20 (.int .u8 0)
theorem bigL:((List.append (List.append [48,48,48,49,48,50,48,51,48,52,48,53,48,54,48,55,48,56,48,57,49,48,49,49,49,50,49,51,49,52,49,53,49,54,49,55,49,56,49,57,50,48,50,49,50,50,50,51,50,52] [50,53,50,54,50,55,50,56,50,57,51,48,51,49,51,50,51,51,51,52,51,53,51,54,51,55,51,56,51,57,52,48,52,49,52,50,52,51,52,52,52,53,52,54,52,55,52,56,52,57]) (List.append [53,48,53,49,53,50,53,51,53,52,53,53,53,54,53,55,53,56,53,57,54,48,54,49,54,50,54,51,54,52,54,53,54,54,54,55,54,56,54,57,55,48,55,49,55,50,55,51,55,52] [55,53,55,54,55,55,55,56,55,57,56,48,56,49,56,50,56,51,56,52,56,53,56,54,56,55,56,56,56,57,57,48,57,49,57,50,57,51,57,52,57,53,57,54,57,55,57,56,57,57])):List UInt8).length=200:=rfl
theorem bigA (m:Nat) (h:m<100):(((List.append (List.append [48,48,48,49,48,50,48,51,48,52,48,53,48,54,48,55,48,56,48,57,49,48,49,49,49,50,49,51,49,52,49,53,49,54,49,55,49,56,49,57,50,48,50,49,50,50,50,51,50,52] [50,53,50,54,50,55,50,56,50,57,51,48,51,49,51,50,51,51,51,52,51,53,51,54,51,55,51,56,51,57,52,48,52,49,52,50,52,51,52,52,52,53,52,54,52,55,52,56,52,57]) (List.append [53,48,53,49,53,50,53,51,53,52,53,53,53,54,53,55,53,56,53,57,54,48,54,49,54,50,54,51,54,52,54,53,54,54,54,55,54,56,54,57,55,48,55,49,55,50,55,51,55,52] [55,53,55,54,55,55,55,56,55,57,56,48,56,49,56,50,56,51,56,52,56,53,56,54,56,55,56,56,56,57,57,48,57,49,57,50,57,51,57,52,57,53,57,54,57,55,57,56,57,57])):List UInt8).getD (m*2) 0).toNat=48+m / 10:=by
 revert m
 exact fun m h=>(by decide:∀m:Fin 100,(((List.append (List.append [48,48,48,49,48,50,48,51,48,52,48,53,48,54,48,55,48,56,48,57,49,48,49,49,49,50,49,51,49,52,49,53,49,54,49,55,49,56,49,57,50,48,50,49,50,50,50,51,50,52] [50,53,50,54,50,55,50,56,50,57,51,48,51,49,51,50,51,51,51,52,51,53,51,54,51,55,51,56,51,57,52,48,52,49,52,50,52,51,52,52,52,53,52,54,52,55,52,56,52,57]) (List.append [53,48,53,49,53,50,53,51,53,52,53,53,53,54,53,55,53,56,53,57,54,48,54,49,54,50,54,51,54,52,54,53,54,54,54,55,54,56,54,57,55,48,55,49,55,50,55,51,55,52] [55,53,55,54,55,55,55,56,55,57,56,48,56,49,56,50,56,51,56,52,56,53,56,54,56,55,56,56,56,57,57,48,57,49,57,50,57,51,57,52,57,53,57,54,57,55,57,56,57,57])):List UInt8).getD (m.1*2) 0).toNat=48+m.1 / 10) ⟨m,h⟩
theorem bigB (m:Nat) (h:m<100):(((List.append (List.append [48,48,48,49,48,50,48,51,48,52,48,53,48,54,48,55,48,56,48,57,49,48,49,49,49,50,49,51,49,52,49,53,49,54,49,55,49,56,49,57,50,48,50,49,50,50,50,51,50,52] [50,53,50,54,50,55,50,56,50,57,51,48,51,49,51,50,51,51,51,52,51,53,51,54,51,55,51,56,51,57,52,48,52,49,52,50,52,51,52,52,52,53,52,54,52,55,52,56,52,57]) (List.append [53,48,53,49,53,50,53,51,53,52,53,53,53,54,53,55,53,56,53,57,54,48,54,49,54,50,54,51,54,52,54,53,54,54,54,55,54,56,54,57,55,48,55,49,55,50,55,51,55,52] [55,53,55,54,55,55,55,56,55,57,56,48,56,49,56,50,56,51,56,52,56,53,56,54,56,55,56,56,56,57,57,48,57,49,57,50,57,51,57,52,57,53,57,54,57,55,57,56,57,57])):List UInt8).getD (m*2+1) 0).toNat=48+m % 10:=by
 revert m
 exact fun m h=>(by decide:∀m:Fin 100,(((List.append (List.append [48,48,48,49,48,50,48,51,48,52,48,53,48,54,48,55,48,56,48,57,49,48,49,49,49,50,49,51,49,52,49,53,49,54,49,55,49,56,49,57,50,48,50,49,50,50,50,51,50,52] [50,53,50,54,50,55,50,56,50,57,51,48,51,49,51,50,51,51,51,52,51,53,51,54,51,55,51,56,51,57,52,48,52,49,52,50,52,51,52,52,52,53,52,54,52,55,52,56,52,57]) (List.append [53,48,53,49,53,50,53,51,53,52,53,53,53,54,53,55,53,56,53,57,54,48,54,49,54,50,54,51,54,52,54,53,54,54,54,55,54,56,54,57,55,48,55,49,55,50,55,51,55,52] [55,53,55,54,55,55,55,56,55,57,56,48,56,49,56,50,56,51,56,52,56,53,56,54,56,55,56,56,56,57,57,48,57,49,57,50,57,51,57,52,57,53,57,54,57,55,57,56,57,57])):List UInt8).getD (m.1*2+1) 0).toNat=48+m.1 % 10) ⟨m,h⟩
theorem g80 (n:Nat) (hn:100≤n∧n<256):GCall Tryz.prog 183 [.buf 0 0 1 3 1,.int .u64 n] [.cells 0 z24] (.tup []) [.cells 0 (buf3 n)]:=by
 unfold z24
 simp only [List.replicate]
 refine GC.walk tok mixed cfg0 Tryz.func183 rfl Tryz.call183 ?_;refine vms1 Tryz.ntmps183 ?_
 refine T.lp tok mixed cfg0 (fun (j:Nat)=>kp 1 (sv (.int .u64 n) (dd 2 (sv (.int .i64 3) (dd 162 (nl)))))) (fun H0 (j:Nat)=>[.cells 0 z24]) (fun (j:Nat)=>j=0) (fun (j:Nat)=>0) (0) ?_ ?_ ?_
 ·rfl
 ·unfold z24
  simp only [List.replicate]
  exact Gn.canon (J:=[]) (by first | rfl | (simp [List.append_nil];done) | (simp [List.append_nil];rfl)) (by simp [wk,putT,kp,dd,sv,nl]) (by simp [List.length_append]) (by simp [kp,dd,sv,nl]) (by simp)
 rintro j rfl
 unfold z24
 simp only [List.replicate]
 refine vms0 ?_
 have e1:IntKind.u32.wrap (n:Int)=(n:Int):=u32_id (by omega)
 have e2:((n:Int)).tmod 100=((n % 100:Nat):Int):=by rw [Int.tmod_eq_emod_of_nonneg (by omega)];omega
 have e3:((n:Int)).tdiv 100=((n / 100:Nat):Int):=by rw [Int.tdiv_eq_ediv_of_nonneg (by omega)];omega
 have e4:IntKind.u32.wrap (((n % 100:Nat):Int)*2)=((n % 100*2:Nat):Int):=by rw [u32_id (by omega)];omega
 have e5:IntKind.u32.wrap (((n % 100*2:Nat):Int)+1)=((n % 100*2+1:Nat):Int):=by rw [u32_id (by omega)];omega
 have e6:IntKind.u32.wrap ((n / 100:Nat):Int)=((n / 100:Nat):Int):=u32_id (by omega)
 have e7:IntKind.u32.wrap (48+((n / 100:Nat):Int))=((48+n / 100:Nat):Int):=by rw [u32_id (by omega)];omega
 have e8:IntKind.u8.wrap (((48+n / 100:Nat):Int))=((48+n / 100:Nat):Int):=u8_id (by omega)
 have h5:n % 100<100:=by omega
 have e9:((n % 100*2+1:Nat):Int).toNat=n % 100*2+1:=Int.toNat_natCast _
 have e10:((n % 100*2:Nat):Int).toNat=n % 100*2:=Int.toNat_natCast _
 have f1:(0:Int)≤((n % 100*2+1:Nat):Int)∧((n % 100*2+1:Nat):Int)<((200:Nat):Int):=by omega
 have f2:(0:Int)≤((n % 100*2:Nat):Int)∧((n % 100*2:Nat):Int)<((200:Nat):Int):=by omega
 simp only [e1,e2,e3,e4,e5,e6,e7,e8,e9,e10,bigL,bigA _ h5,bigB _ h5,f1,f2,true_and,true_imp_iff,and_self]
 have e11:n % 100 / 10=n / 10 % 10:=by omega
 have e12:n % 100 % 10=n % 10:=by omega
 rw [e11,e12]
 unfold buf3
 refine endG.normal ([]) (by first | rfl | simp [fzs_ok,getO,setO,fzs,fz,fzH,Nat.beq,tt_3,tt_4,tt_5,tt_9,tt_128,tt_200,tt_203,tt_205,tt_231,tt_327,tt_251,tt_2,tt_71,tt_246,tt_299,tt_251,cfg0,take_rest,ibeq_dec,V.rn,rns,qn,setPs,rnOs,Ob.rn,gl0,glV,List.map,V.st,List.set_cons_zero,List.size_toArray,List.replicate]) (by simp) (by simp [fzs_ok,imp,lenOK_iff,List.take_of_length_le,evRes,getT,getO,setO,fzs,fz,fzH,Nat.beq,retV,Res.then,ldT,ldR,mkV,getV,tt_3,tt_4,tt_5,tt_9,tt_128,tt_200,tt_203,tt_205,tt_231,tt_327,tt_251,tt_2,tt_71,tt_246,tt_299,tt_251,cfg0,take_rest,ibeq_dec,V.rn,rns,qn,setPs,rnOs,Ob.rn,gl0,glV,List.map,V.st,List.set_cons_zero,List.size_toArray,Tryz.f183,List.replicate]) (by first | rfl | simp [List.replicate]) (by first | rfl | simp [List.replicate])
theorem pc155 (n:Nat) (hn:n<256):PC Tryz.prog 155 [.int .i64 n,.int .i64 10] (.str (dec8 n)):=by
 refine PC.walk tok mixed cfg0 Tryz.func155 rfl Tryz.call155 (by simp) (by first | rfl | simp) ?_;refine vms1 Tryz.ntmps155 ?_
 refine ⟨fun h=>?_,fun h=>?_⟩
 ·refine callO.pc (pc181 n (by omega)) ?_
  refine vms0 ?_
  refine endK.retA ?_;simp [evRes,getT,retV,Tryz.f155]
 have hr:100≤n∧n<256:=by omega
 have hi:¬(n:Int)<0:=by omega
 refine callO.pc (pc182 n hr) ?_
 refine vms1 hi ?_
 refine callO.part0 [0] (g80 n hr) (by decide) rfl rfl ⟨by rfl,by simp,trivial⟩ ?_
 unfold buf3
 simp only [List.replicate,List.append_eq,List.cons_append,List.nil_append]
 refine vms1 hi ?_
 have t1:((48:Int)+(n:Int) / 100).toNat=48+n / 100:=by omega
 have t2:((48:Int)+(n:Int) / 10 % 10).toNat=48+n / 10 % 10:=by omega
 have t3:((48:Int)+(n:Int) % 10).toNat=48+n % 10:=by omega
 have h1:¬n<10:=by omega
 have h2:¬n<100:=by omega
 refine endK.retA ?_;simp [evRes,getT,retV,Tryz.f155,dec8,h1,h2,if_false,t1,t2,t3]
theorem pc119 (n:Nat) (hn:n<256):PC Tryz.prog 119 [.int .i64 n] (.str (dec8 n)):=by
 refine PC.walk tok mixed cfg0 Tryz.func119 rfl Tryz.call119 (by simp) (by first | rfl | simp) ?_;refine vms1 Tryz.ntmps119 ?_
 refine callO.pc (pc155 n hn) ?_
 refine vms0 ?_
 refine endK.retA ?_;simp [evRes,getT,retV,Tryz.f119]
theorem pc75 (n:Nat) (hn:n<256):PC Tryz.prog 75 [.int .i64 n] (.str (dec8 n)):=by
 refine PC.walk tok mixed cfg0 Tryz.func75 rfl Tryz.call75 (by simp) (by first | rfl | simp) ?_;refine vms1 Tryz.ntmps75 ?_
 refine callO.pc (pc119 n hn) ?_
 refine vms0 ?_
 refine endK.retA ?_;simp [evRes,getT,retV,Tryz.f75]
theorem pc37 (n:Nat) (hn:n<256):PC Tryz.prog 37 [.int .i64 n] (.str (dec8 n)):=by
 refine PC.walk tok mixed cfg0 Tryz.func37 rfl Tryz.call37 (by simp) (by first | rfl | simp) ?_;refine vms1 Tryz.ntmps37 ?_
 refine callO.pc (pc75 n hn) ?_
 refine vms0 ?_
 refine endK.retA ?_;simp [evRes,getT,retV,Tryz.f37]
theorem pc60a (n:Nat) (hn:n<10):PC Tryz.prog 79 [.int .u64 n] (.str (dec8 n)):=by
 have hn2:(n:Int)<10:=by omega
 refine PC.walk tok mixed cfg0 Tryz.func79 rfl Tryz.call79 (by simp) (by first | rfl | simp) ?_;refine vms1 Tryz.ntmps79 ?_
 have t1:((48:Int)+(n:Int)).toNat=48+n:=by omega
 refine endK.retA ?_;simp [evRes,getT,retV,Tryz.f79,dec8,hn,t1]
theorem dec8_len (n:Nat):(dec8 n).length≤3:=by
 unfold dec8
 split
 ·simp
 split<;>simp
theorem dec8_app (n:Nat) (h:10≤n) (hn:n<256):dec8 (n / 10)++dec8 (n % 10)=dec8 n:=by
 rw [dec8,dec8,dec8,if_pos (by omega:n % 10<10),if_neg (by omega:¬n<10)]
 split
 ·rw [if_pos (by omega)]
  rfl
 ·rw [if_pos (by omega:n / 10<100),if_neg (by omega:¬n<100),Nat.div_div_eq_div_mul]
  rfl
theorem pc60s (n:Nat) (h10:10≤n) (hn:n<256) (h:PC Tryz.prog 79 [.int .u64 (n / 10:Nat)] (.str (dec8 (n / 10)))):PC Tryz.prog 79 [.int .u64 n] (.str (dec8 n)):=by
 have hn2:¬(n:Int)<10:=by omega
 have e1:IntKind.u64.wrap ((n:Int).tdiv 10)=((n / 10:Nat):Int):=by
  rw [Int.tdiv_eq_ediv_of_nonneg (by omega)]
  exact IntWalk.u64_in _ ⟨by omega,by omega⟩
 have e2:(n:Int).tmod 10=((n % 10:Nat):Int):=by rw [Int.tmod_eq_emod_of_nonneg (by omega)];omega
 refine PC.walk tok mixed cfg0 Tryz.func79 rfl Tryz.call79 (by simp) (by first | rfl | simp) ?_;refine vms1 Tryz.ntmps79 ?_
 rw [e1]
 refine callO.pc h ?_
 simp (maxSteps:=2000000) -implicitDefEqProofs +contextual (disch:=first | assumption | omega | decide +kernel) only [push_cast,↓capI,seval,Nat.reduceLeDiff,Nat.reduceEqDiff,reduceCtorEq,↓reduceIte,e2]
 refine callO.pc (pc60a (n % 10) (by omega)) ?_
 refine vms0 ?_
 refine ⟨by have:=dec8_len (n / 10);have:=dec8_len (n % 10);omega,fun _=>?_⟩
 refine endK.retA ?_;simp [evRes,getT,retV,Tryz.f79,dec8_app n h10 hn]
theorem pc79 (n:Nat) (hn:n<256):PC Tryz.prog 79 [.int .u64 n] (.str (dec8 n)):=by
 by_cases h:n<10
 ·exact pc60a n h
 refine pc60s n (by omega) hn ?_
 by_cases h2:n / 10<10
 ·exact pc60a _ h2
 exact pc60s _ (by omega) (by omega) (pc60a _ (by omega))
theorem pc45 (n:Nat) (hn:n<256):PC Tryz.prog 45 [.int .i64 n] (.str (dec8 n)):=by
 refine PC.walk tok mixed cfg0 Tryz.func45 rfl Tryz.call45 (by simp) (by first | rfl | simp) ?_;refine vms1 Tryz.ntmps45 ?_
 refine callO.pc (pc79 n hn) ?_
 refine vms0 ?_
 refine endK.retA ?_;simp [evRes,getT,retV,Tryz.f45]
end
section
def dgs:Nat→Nat→List UInt8
 | 0,_=>[]
 | k+1,n=>if n<10 then [UInt8.ofNat (48+n)] else dgs k (n / 10)++[UInt8.ofNat (48+n % 10)]
theorem dgs_len:∀k n,(dgs k n).length≤k
 | 0,_=>Nat.le_refl _
 | k+1,n=>by
  rw [dgs]
  split
  ·simp
  ·have:=dgs_len k (n / 10)
   rw [List.length_append,List.length_singleton]
   omega
theorem len64_of {n x:Nat} (h1:2^x≤n) (h2:n<2^(x+1)):len64 n=x+1:=by
 have hn:n≠0:=by
  intro e
  have:=Nat.two_pow_pos x
  omega
 have a1:x≤n.log2:=(Nat.le_log2 hn).2 h1
 have a2:n.log2<x+1:=(Nat.log2_lt hn).2 h2
 unfold len64
 rw [if_neg hn]
 omega
attribute [local push_cast] cfg0 take_rest ibeq_dec V.rn rns qn setPs rnOs Ob.rn gl0 glV List.map V.st List.set_cons_zero List.size_toArray
theorem pow2_log (x:Nat) (hx:x≤64):PC Tryz.prog 208 [.int .i64 x] (.int .i64 ((x*78913 / 262144:Nat):Int)):=by
 have key:∀y:Fin 65,ishr .i64 ((y.val:Int)*78913) 18=((y.val*78913 / 262144:Nat):Int):=by decide +kernel
 have h:=key ⟨x,by omega⟩
 simp only at h
 generalize x*78913 / 262144=t at h
 refine PC.walk tok mixed cfg0 Tryz.func208 rfl Tryz.call208 (by simp) (by first | rfl | simp) ?_;refine vms1 Tryz.ntmps208 ?_
 refine endK.retA ?_;simp [evRes,getT,retV,Tryz.f208,h]
theorem nd2 (n:Nat) (hn:n<2^64) (h64:len64 n≤64) (ht:len64 n*78913 / 262144=2):PC Tryz.prog 182 [.int .u64 n] (.int .i64 (2+if 100≤n then 1 else 0)):=by
 have hl:=pc209 n hn
 have h85:=pow2_log (len64 n) h64
 rw [ht] at h85
 have h86:=pc210 (decide (100≤n))
 have hd:decide ((100:Int)≤(n:Int))=decide (100≤n):=by rw [decide_eq_decide];omega
 have hle:(0:Int)≤(if (decide (100≤n))=true then 1 else 0)∧(if (decide (100≤n))=true then (1:Int) else 0)≤1:=by split<;>decide
 have he:(if (decide (100≤n))=true then (1:Int) else 0)=if 100≤n then 1 else 0:=by simp
 rw [←he]
 generalize (if (decide (100≤n))=true then (1:Int) else 0)=z at h86 hle
 generalize decide (100≤n)=b at h86 hd
 refine PC.walk tok mixed cfg0 Tryz.func182 rfl Tryz.call182 (by simp) (by first | rfl | simp) ?_;refine vms1 Tryz.ntmps182 ?_
 refine callO.pc hl ?_
 refine vms0 ?_
 refine callO.pc h85 ?_
 refine vms1 hd ?_
 refine callO.pc h86 ?_
 refine vms0 ?_
 refine endK.retA ?_;simp [evRes,getT,retV,Tryz.f182]
theorem nd3 (n:Nat) (hn:n<2^64) (h64:len64 n≤64) (ht:len64 n*78913 / 262144=3):PC Tryz.prog 182 [.int .u64 n] (.int .i64 (3+if 1000≤n then 1 else 0)):=by
 have hl:=pc209 n hn
 have h85:=pow2_log (len64 n) h64
 rw [ht] at h85
 have h86:=pc210 (decide (1000≤n))
 have hd:decide ((1000:Int)≤(n:Int))=decide (1000≤n):=by rw [decide_eq_decide];omega
 have hle:(0:Int)≤(if (decide (1000≤n))=true then 1 else 0)∧(if (decide (1000≤n))=true then (1:Int) else 0)≤1:=by split<;>decide
 have he:(if (decide (1000≤n))=true then (1:Int) else 0)=if 1000≤n then 1 else 0:=by simp
 rw [←he]
 generalize (if (decide (1000≤n))=true then (1:Int) else 0)=z at h86 hle
 generalize decide (1000≤n)=b at h86 hd
 refine PC.walk tok mixed cfg0 Tryz.func182 rfl Tryz.call182 (by simp) (by first | rfl | simp) ?_;refine vms1 Tryz.ntmps182 ?_
 refine callO.pc hl ?_
 refine vms0 ?_
 refine callO.pc h85 ?_
 refine vms1 hd ?_
 refine callO.pc h86 ?_
 refine vms0 ?_
 refine endK.retA ?_;simp [evRes,getT,retV,Tryz.f182]
theorem nd4 (n:Nat) (hn:n<2^64) (h64:len64 n≤64) (ht:len64 n*78913 / 262144=4):PC Tryz.prog 182 [.int .u64 n] (.int .i64 (4+if 10000≤n then 1 else 0)):=by
 have hl:=pc209 n hn
 have h85:=pow2_log (len64 n) h64
 rw [ht] at h85
 have h86:=pc210 (decide (10000≤n))
 have hd:decide ((10000:Int)≤(n:Int))=decide (10000≤n):=by rw [decide_eq_decide];omega
 have hle:(0:Int)≤(if (decide (10000≤n))=true then 1 else 0)∧(if (decide (10000≤n))=true then (1:Int) else 0)≤1:=by split<;>decide
 have he:(if (decide (10000≤n))=true then (1:Int) else 0)=if 10000≤n then 1 else 0:=by simp
 rw [←he]
 generalize (if (decide (10000≤n))=true then (1:Int) else 0)=z at h86 hle
 generalize decide (10000≤n)=b at h86 hd
 refine PC.walk tok mixed cfg0 Tryz.func182 rfl Tryz.call182 (by simp) (by first | rfl | simp) ?_;refine vms1 Tryz.ntmps182 ?_
 refine callO.pc hl ?_
 refine vms0 ?_
 refine callO.pc h85 ?_
 refine vms1 hd ?_
 refine callO.pc h86 ?_
 refine vms0 ?_
 refine endK.retA ?_;simp [evRes,getT,retV,Tryz.f182]
theorem nd5 (n:Nat) (hn:n<2^64) (h64:len64 n≤64) (ht:len64 n*78913 / 262144=5):PC Tryz.prog 182 [.int .u64 n] (.int .i64 (5+if 100000≤n then 1 else 0)):=by
 have hl:=pc209 n hn
 have h85:=pow2_log (len64 n) h64
 rw [ht] at h85
 have h86:=pc210 (decide (100000≤n))
 have hd:decide ((100000:Int)≤(n:Int))=decide (100000≤n):=by rw [decide_eq_decide];omega
 have hle:(0:Int)≤(if (decide (100000≤n))=true then 1 else 0)∧(if (decide (100000≤n))=true then (1:Int) else 0)≤1:=by split<;>decide
 have he:(if (decide (100000≤n))=true then (1:Int) else 0)=if 100000≤n then 1 else 0:=by simp
 rw [←he]
 generalize (if (decide (100000≤n))=true then (1:Int) else 0)=z at h86 hle
 generalize decide (100000≤n)=b at h86 hd
 refine PC.walk tok mixed cfg0 Tryz.func182 rfl Tryz.call182 (by simp) (by first | rfl | simp) ?_;refine vms1 Tryz.ntmps182 ?_
 refine callO.pc hl ?_
 refine vms0 ?_
 refine callO.pc h85 ?_
 refine vms1 hd ?_
 refine callO.pc h86 ?_
 refine vms0 ?_
 refine endK.retA ?_;simp [evRes,getT,retV,Tryz.f182]
theorem nd6 (n:Nat) (hn:n<2^64) (h64:len64 n≤64) (ht:len64 n*78913 / 262144=6):PC Tryz.prog 182 [.int .u64 n] (.int .i64 (6+if 1000000≤n then 1 else 0)):=by
 have hl:=pc209 n hn
 have h85:=pow2_log (len64 n) h64
 rw [ht] at h85
 have h86:=pc210 (decide (1000000≤n))
 have hd:decide ((1000000:Int)≤(n:Int))=decide (1000000≤n):=by rw [decide_eq_decide];omega
 have hle:(0:Int)≤(if (decide (1000000≤n))=true then 1 else 0)∧(if (decide (1000000≤n))=true then (1:Int) else 0)≤1:=by split<;>decide
 have he:(if (decide (1000000≤n))=true then (1:Int) else 0)=if 1000000≤n then 1 else 0:=by simp
 rw [←he]
 generalize (if (decide (1000000≤n))=true then (1:Int) else 0)=z at h86 hle
 generalize decide (1000000≤n)=b at h86 hd
 refine PC.walk tok mixed cfg0 Tryz.func182 rfl Tryz.call182 (by simp) (by first | rfl | simp) ?_;refine vms1 Tryz.ntmps182 ?_
 refine callO.pc hl ?_
 refine vms0 ?_
 refine callO.pc h85 ?_
 refine vms1 hd ?_
 refine callO.pc h86 ?_
 refine vms0 ?_
 refine endK.retA ?_;simp [evRes,getT,retV,Tryz.f182]
theorem nd7 (n:Nat) (hn:n<2^64) (h64:len64 n≤64) (ht:len64 n*78913 / 262144=7):PC Tryz.prog 182 [.int .u64 n] (.int .i64 (7+if 10000000≤n then 1 else 0)):=by
 have hl:=pc209 n hn
 have h85:=pow2_log (len64 n) h64
 rw [ht] at h85
 have h86:=pc210 (decide (10000000≤n))
 have hd:decide ((10000000:Int)≤(n:Int))=decide (10000000≤n):=by rw [decide_eq_decide];omega
 have hle:(0:Int)≤(if (decide (10000000≤n))=true then 1 else 0)∧(if (decide (10000000≤n))=true then (1:Int) else 0)≤1:=by split<;>decide
 have he:(if (decide (10000000≤n))=true then (1:Int) else 0)=if 10000000≤n then 1 else 0:=by simp
 rw [←he]
 generalize (if (decide (10000000≤n))=true then (1:Int) else 0)=z at h86 hle
 generalize decide (10000000≤n)=b at h86 hd
 refine PC.walk tok mixed cfg0 Tryz.func182 rfl Tryz.call182 (by simp) (by first | rfl | simp) ?_;refine vms1 Tryz.ntmps182 ?_
 refine callO.pc hl ?_
 refine vms0 ?_
 refine callO.pc h85 ?_
 refine vms1 hd ?_
 refine callO.pc h86 ?_
 refine vms0 ?_
 refine endK.retA ?_;simp [evRes,getT,retV,Tryz.f182]
theorem nd8 (n:Nat) (hn:n<2^64) (h64:len64 n≤64) (ht:len64 n*78913 / 262144=8):PC Tryz.prog 182 [.int .u64 n] (.int .i64 (8+if 100000000≤n then 1 else 0)):=by
 have hl:=pc209 n hn
 have h85:=pow2_log (len64 n) h64
 rw [ht] at h85
 have h86:=pc210 (decide (100000000≤n))
 have hd:decide ((100000000:Int)≤(n:Int))=decide (100000000≤n):=by rw [decide_eq_decide];omega
 have hle:(0:Int)≤(if (decide (100000000≤n))=true then 1 else 0)∧(if (decide (100000000≤n))=true then (1:Int) else 0)≤1:=by split<;>decide
 have he:(if (decide (100000000≤n))=true then (1:Int) else 0)=if 100000000≤n then 1 else 0:=by simp
 rw [←he]
 generalize (if (decide (100000000≤n))=true then (1:Int) else 0)=z at h86 hle
 generalize decide (100000000≤n)=b at h86 hd
 refine PC.walk tok mixed cfg0 Tryz.func182 rfl Tryz.call182 (by simp) (by first | rfl | simp) ?_;refine vms1 Tryz.ntmps182 ?_
 refine callO.pc hl ?_
 refine vms0 ?_
 refine callO.pc h85 ?_
 refine vms1 hd ?_
 refine callO.pc h86 ?_
 refine vms0 ?_
 refine endK.retA ?_;simp [evRes,getT,retV,Tryz.f182]
theorem nd9 (n:Nat) (hn:n<2^64) (h64:len64 n≤64) (ht:len64 n*78913 / 262144=9):PC Tryz.prog 182 [.int .u64 n] (.int .i64 (9+if 1000000000≤n then 1 else 0)):=by
 have hl:=pc209 n hn
 have h85:=pow2_log (len64 n) h64
 rw [ht] at h85
 have h86:=pc210 (decide (1000000000≤n))
 have hd:decide ((1000000000:Int)≤(n:Int))=decide (1000000000≤n):=by rw [decide_eq_decide];omega
 have hle:(0:Int)≤(if (decide (1000000000≤n))=true then 1 else 0)∧(if (decide (1000000000≤n))=true then (1:Int) else 0)≤1:=by split<;>decide
 have he:(if (decide (1000000000≤n))=true then (1:Int) else 0)=if 1000000000≤n then 1 else 0:=by simp
 rw [←he]
 generalize (if (decide (1000000000≤n))=true then (1:Int) else 0)=z at h86 hle
 generalize decide (1000000000≤n)=b at h86 hd
 refine PC.walk tok mixed cfg0 Tryz.func182 rfl Tryz.call182 (by simp) (by first | rfl | simp) ?_;refine vms1 Tryz.ntmps182 ?_
 refine callO.pc hl ?_
 refine vms0 ?_
 refine callO.pc h85 ?_
 refine vms1 hd ?_
 refine callO.pc h86 ?_
 refine vms0 ?_
 refine endK.retA ?_;simp [evRes,getT,retV,Tryz.f182]
theorem numDigits (n k:Nat) (hk:3≤k∧k≤9) (h1:10^(k-1)≤n) (h2:n<10^k):PC Tryz.prog 182 [.int .u64 n] (.int .i64 k):=by
 have hkk:k=3∨k=4∨k=5∨k=6∨k=7∨k=8∨k=9:=by omega
 have hn:100≤n∧n<1000000000:=by
  rcases hkk with rfl | rfl | rfl | rfl | rfl | rfl | rfl<;>simp only [Nat.reducePow,Nat.reduceSub] at h1 h2<;>omega
 by_cases c6:n<128
 ·have hx:len64 n=7:=len64_of (x:=6) (by omega) c6
  have h:=nd2 n (by omega) (by rw [hx];decide) (by rw [hx])
  have e:((2:Int)+if 100≤n then 1 else 0)=(k:Int):=by
   rcases hkk with rfl | rfl | rfl | rfl | rfl | rfl | rfl<;>simp only [Nat.reducePow,Nat.reduceSub] at h1 h2<;>split<;>omega
  rw [e] at h
  exact h
 by_cases c7:n<256
 ·have hx:len64 n=8:=len64_of (x:=7) (by omega) c7
  have h:=nd2 n (by omega) (by rw [hx];decide) (by rw [hx])
  have e:((2:Int)+if 100≤n then 1 else 0)=(k:Int):=by
   rcases hkk with rfl | rfl | rfl | rfl | rfl | rfl | rfl<;>simp only [Nat.reducePow,Nat.reduceSub] at h1 h2<;>split<;>omega
  rw [e] at h
  exact h
 by_cases c8:n<512
 ·have hx:len64 n=9:=len64_of (x:=8) (by omega) c8
  have h:=nd2 n (by omega) (by rw [hx];decide) (by rw [hx])
  have e:((2:Int)+if 100≤n then 1 else 0)=(k:Int):=by
   rcases hkk with rfl | rfl | rfl | rfl | rfl | rfl | rfl<;>simp only [Nat.reducePow,Nat.reduceSub] at h1 h2<;>split<;>omega
  rw [e] at h
  exact h
 by_cases c9:n<1024
 ·have hx:len64 n=10:=len64_of (x:=9) (by omega) c9
  have h:=nd3 n (by omega) (by rw [hx];decide) (by rw [hx])
  have e:((3:Int)+if 1000≤n then 1 else 0)=(k:Int):=by
   rcases hkk with rfl | rfl | rfl | rfl | rfl | rfl | rfl<;>simp only [Nat.reducePow,Nat.reduceSub] at h1 h2<;>split<;>omega
  rw [e] at h
  exact h
 by_cases c10:n<2048
 ·have hx:len64 n=11:=len64_of (x:=10) (by omega) c10
  have h:=nd3 n (by omega) (by rw [hx];decide) (by rw [hx])
  have e:((3:Int)+if 1000≤n then 1 else 0)=(k:Int):=by
   rcases hkk with rfl | rfl | rfl | rfl | rfl | rfl | rfl<;>simp only [Nat.reducePow,Nat.reduceSub] at h1 h2<;>split<;>omega
  rw [e] at h
  exact h
 by_cases c11:n<4096
 ·have hx:len64 n=12:=len64_of (x:=11) (by omega) c11
  have h:=nd3 n (by omega) (by rw [hx];decide) (by rw [hx])
  have e:((3:Int)+if 1000≤n then 1 else 0)=(k:Int):=by
   rcases hkk with rfl | rfl | rfl | rfl | rfl | rfl | rfl<;>simp only [Nat.reducePow,Nat.reduceSub] at h1 h2<;>split<;>omega
  rw [e] at h
  exact h
 by_cases c12:n<8192
 ·have hx:len64 n=13:=len64_of (x:=12) (by omega) c12
  have h:=nd3 n (by omega) (by rw [hx];decide) (by rw [hx])
  have e:((3:Int)+if 1000≤n then 1 else 0)=(k:Int):=by
   rcases hkk with rfl | rfl | rfl | rfl | rfl | rfl | rfl<;>simp only [Nat.reducePow,Nat.reduceSub] at h1 h2<;>split<;>omega
  rw [e] at h
  exact h
 by_cases c13:n<16384
 ·have hx:len64 n=14:=len64_of (x:=13) (by omega) c13
  have h:=nd4 n (by omega) (by rw [hx];decide) (by rw [hx])
  have e:((4:Int)+if 10000≤n then 1 else 0)=(k:Int):=by
   rcases hkk with rfl | rfl | rfl | rfl | rfl | rfl | rfl<;>simp only [Nat.reducePow,Nat.reduceSub] at h1 h2<;>split<;>omega
  rw [e] at h
  exact h
 by_cases c14:n<32768
 ·have hx:len64 n=15:=len64_of (x:=14) (by omega) c14
  have h:=nd4 n (by omega) (by rw [hx];decide) (by rw [hx])
  have e:((4:Int)+if 10000≤n then 1 else 0)=(k:Int):=by
   rcases hkk with rfl | rfl | rfl | rfl | rfl | rfl | rfl<;>simp only [Nat.reducePow,Nat.reduceSub] at h1 h2<;>split<;>omega
  rw [e] at h
  exact h
 by_cases c15:n<65536
 ·have hx:len64 n=16:=len64_of (x:=15) (by omega) c15
  have h:=nd4 n (by omega) (by rw [hx];decide) (by rw [hx])
  have e:((4:Int)+if 10000≤n then 1 else 0)=(k:Int):=by
   rcases hkk with rfl | rfl | rfl | rfl | rfl | rfl | rfl<;>simp only [Nat.reducePow,Nat.reduceSub] at h1 h2<;>split<;>omega
  rw [e] at h
  exact h
 by_cases c16:n<131072
 ·have hx:len64 n=17:=len64_of (x:=16) (by omega) c16
  have h:=nd5 n (by omega) (by rw [hx];decide) (by rw [hx])
  have e:((5:Int)+if 100000≤n then 1 else 0)=(k:Int):=by
   rcases hkk with rfl | rfl | rfl | rfl | rfl | rfl | rfl<;>simp only [Nat.reducePow,Nat.reduceSub] at h1 h2<;>split<;>omega
  rw [e] at h
  exact h
 by_cases c17:n<262144
 ·have hx:len64 n=18:=len64_of (x:=17) (by omega) c17
  have h:=nd5 n (by omega) (by rw [hx];decide) (by rw [hx])
  have e:((5:Int)+if 100000≤n then 1 else 0)=(k:Int):=by
   rcases hkk with rfl | rfl | rfl | rfl | rfl | rfl | rfl<;>simp only [Nat.reducePow,Nat.reduceSub] at h1 h2<;>split<;>omega
  rw [e] at h
  exact h
 by_cases c18:n<524288
 ·have hx:len64 n=19:=len64_of (x:=18) (by omega) c18
  have h:=nd5 n (by omega) (by rw [hx];decide) (by rw [hx])
  have e:((5:Int)+if 100000≤n then 1 else 0)=(k:Int):=by
   rcases hkk with rfl | rfl | rfl | rfl | rfl | rfl | rfl<;>simp only [Nat.reducePow,Nat.reduceSub] at h1 h2<;>split<;>omega
  rw [e] at h
  exact h
 by_cases c19:n<1048576
 ·have hx:len64 n=20:=len64_of (x:=19) (by omega) c19
  have h:=nd6 n (by omega) (by rw [hx];decide) (by rw [hx])
  have e:((6:Int)+if 1000000≤n then 1 else 0)=(k:Int):=by
   rcases hkk with rfl | rfl | rfl | rfl | rfl | rfl | rfl<;>simp only [Nat.reducePow,Nat.reduceSub] at h1 h2<;>split<;>omega
  rw [e] at h
  exact h
 by_cases c20:n<2097152
 ·have hx:len64 n=21:=len64_of (x:=20) (by omega) c20
  have h:=nd6 n (by omega) (by rw [hx];decide) (by rw [hx])
  have e:((6:Int)+if 1000000≤n then 1 else 0)=(k:Int):=by
   rcases hkk with rfl | rfl | rfl | rfl | rfl | rfl | rfl<;>simp only [Nat.reducePow,Nat.reduceSub] at h1 h2<;>split<;>omega
  rw [e] at h
  exact h
 by_cases c21:n<4194304
 ·have hx:len64 n=22:=len64_of (x:=21) (by omega) c21
  have h:=nd6 n (by omega) (by rw [hx];decide) (by rw [hx])
  have e:((6:Int)+if 1000000≤n then 1 else 0)=(k:Int):=by
   rcases hkk with rfl | rfl | rfl | rfl | rfl | rfl | rfl<;>simp only [Nat.reducePow,Nat.reduceSub] at h1 h2<;>split<;>omega
  rw [e] at h
  exact h
 by_cases c22:n<8388608
 ·have hx:len64 n=23:=len64_of (x:=22) (by omega) c22
  have h:=nd6 n (by omega) (by rw [hx];decide) (by rw [hx])
  have e:((6:Int)+if 1000000≤n then 1 else 0)=(k:Int):=by
   rcases hkk with rfl | rfl | rfl | rfl | rfl | rfl | rfl<;>simp only [Nat.reducePow,Nat.reduceSub] at h1 h2<;>split<;>omega
  rw [e] at h
  exact h
 by_cases c23:n<16777216
 ·have hx:len64 n=24:=len64_of (x:=23) (by omega) c23
  have h:=nd7 n (by omega) (by rw [hx];decide) (by rw [hx])
  have e:((7:Int)+if 10000000≤n then 1 else 0)=(k:Int):=by
   rcases hkk with rfl | rfl | rfl | rfl | rfl | rfl | rfl<;>simp only [Nat.reducePow,Nat.reduceSub] at h1 h2<;>split<;>omega
  rw [e] at h
  exact h
 by_cases c24:n<33554432
 ·have hx:len64 n=25:=len64_of (x:=24) (by omega) c24
  have h:=nd7 n (by omega) (by rw [hx];decide) (by rw [hx])
  have e:((7:Int)+if 10000000≤n then 1 else 0)=(k:Int):=by
   rcases hkk with rfl | rfl | rfl | rfl | rfl | rfl | rfl<;>simp only [Nat.reducePow,Nat.reduceSub] at h1 h2<;>split<;>omega
  rw [e] at h
  exact h
 by_cases c25:n<67108864
 ·have hx:len64 n=26:=len64_of (x:=25) (by omega) c25
  have h:=nd7 n (by omega) (by rw [hx];decide) (by rw [hx])
  have e:((7:Int)+if 10000000≤n then 1 else 0)=(k:Int):=by
   rcases hkk with rfl | rfl | rfl | rfl | rfl | rfl | rfl<;>simp only [Nat.reducePow,Nat.reduceSub] at h1 h2<;>split<;>omega
  rw [e] at h
  exact h
 by_cases c26:n<134217728
 ·have hx:len64 n=27:=len64_of (x:=26) (by omega) c26
  have h:=nd8 n (by omega) (by rw [hx];decide) (by rw [hx])
  have e:((8:Int)+if 100000000≤n then 1 else 0)=(k:Int):=by
   rcases hkk with rfl | rfl | rfl | rfl | rfl | rfl | rfl<;>simp only [Nat.reducePow,Nat.reduceSub] at h1 h2<;>split<;>omega
  rw [e] at h
  exact h
 by_cases c27:n<268435456
 ·have hx:len64 n=28:=len64_of (x:=27) (by omega) c27
  have h:=nd8 n (by omega) (by rw [hx];decide) (by rw [hx])
  have e:((8:Int)+if 100000000≤n then 1 else 0)=(k:Int):=by
   rcases hkk with rfl | rfl | rfl | rfl | rfl | rfl | rfl<;>simp only [Nat.reducePow,Nat.reduceSub] at h1 h2<;>split<;>omega
  rw [e] at h
  exact h
 by_cases c28:n<536870912
 ·have hx:len64 n=29:=len64_of (x:=28) (by omega) c28
  have h:=nd8 n (by omega) (by rw [hx];decide) (by rw [hx])
  have e:((8:Int)+if 100000000≤n then 1 else 0)=(k:Int):=by
   rcases hkk with rfl | rfl | rfl | rfl | rfl | rfl | rfl<;>simp only [Nat.reducePow,Nat.reduceSub] at h1 h2<;>split<;>omega
  rw [e] at h
  exact h
 by_cases c29:n<1073741824
 ·have hx:len64 n=30:=len64_of (x:=29) (by omega) c29
  have h:=nd9 n (by omega) (by rw [hx];decide) (by rw [hx])
  have e:((9:Int)+if 1000000000≤n then 1 else 0)=(k:Int):=by
   rcases hkk with rfl | rfl | rfl | rfl | rfl | rfl | rfl<;>simp only [Nat.reducePow,Nat.reduceSub] at h1 h2<;>split<;>omega
  rw [e] at h
  exact h
 omega
end
end Go.Proofs.YtlbmbbaefncleaaGreatDoor.Px

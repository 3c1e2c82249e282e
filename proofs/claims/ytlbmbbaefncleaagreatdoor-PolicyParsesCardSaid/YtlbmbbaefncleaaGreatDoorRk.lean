/-
  Joined by a program from the texts PxRprl PxRprm PxRpar PdRprn PdRprl PdRprm PdRpar R14 Eql Law L4 Lift34.
-/
import Derived.Test.YtlbmbbaefncleaaGreatDoorRg
import Derived.Test.YtlbmbbaefncleaaGreatDoorRh
import Derived.Test.YtlbmbbaefncleaaGreatDoorRj
import Derived.Test.YtlbmbbaefncleaaGreatDoorRc
import Derived.Test.YtlbmbbaefncleaaGreatDoorRows
import Derived.Test.YtlbmbbaefncleaaGreatDoorSg
import Derived.Lib.LaidTab
import Derived.Lib.LaidU8
import Derived.LaidMore
import Derived.Stop.Joined
set_option maxRecDepth 100000
set_option maxHeartbeats 4000000
set_option linter.all false
namespace Go.Proofs.YtlbmbbaefncleaaGreatDoor.Px
open Go.Vm
section
def encPR (l:List Nd) (r:List UInt8) (ok:Bool):V:=.agg [slM l,.str r,.bool ok]
@[simp] theorem bel_PR {n:Nat} {l:List Nd} {r:List UInt8} {ok:Bool}:(encPR l r ok).bel n=true:=by simp [encPR,bel_agg,belAll_cons,belAll_nil,bel_slM]
theorem ones_N:∀ {xs:List Nd},ones true (xs.flatMap encN) True=True
 | []=>rfl
 | x::xs=>by simp only [List.flatMap_cons,encN,List.cons_append,List.nil_append,ones,V.one];exact ones_N
def cfgJ:Cfg:={ lv:=[10],ef:=[],ord:=[],em:=[] }
def jn (o:Int) (a b:List Nd):List Nd:=op0 o::(a++b)
theorem jn_len (o:Int) (a b:List Nd):(jn o a b).length=a.length+b.length+1:=by
 rw [jn,List.length_cons,List.length_append]
theorem slM_sl {l:List Nd}:slM l=.sl l.isEmpty (l.flatMap encN) l.length:=by cases l<;>rfl
theorem laxs_N:∀l:List Nd,laxs (l.flatMap encN)=l.flatMap encN
 | []=>rfl
 | x::l=>by rw [List.flatMap_cons,laxs_append,laxs_N l];rfl
theorem lax_M (l:List Nd):lax (slM l)=slN l:=by
 unfold slM
 split
 ·rename_i h
  rw [h]
  rfl
 ·rw [slN,Go.Vm.lax,laxs_N]
theorem st_M {l:List Nd}:(slM l).st=slM l:=by unfold slM;split<;>rfl
theorem os_M {g:Bool} {l:List Nd} {xs:List V} {p:Prop}:optSide g (slM l::xs) p=optSide g xs p:=by unfold slM;split<;>rfl
attribute [local push_cast] fmN fm0 take_N toN1 slN_nil encN slN cfg0 take_rest ibeq_dec st_M os_M encPR slM_sl ones_N cfgJ lfl_lenN
theorem pc141 (o:Int) (a b:List Nd) (ha:a.length≤4000000) (hb:b.length≤4000000):PC Tryz.prog 141 [.int .i64 o,slN a,slN b] (slN (jn o a b)):=by
 refine PC.walk tok mixed cfgJ Tryz.func141 rfl Tryz.call141 (by simp [fmN,fm0,belAll_append]) (by first | rfl | simp [fmN,fm0,belAll_append]) ?_;simp (maxSteps:=2000000) -implicitDefEqProofs +contextual (disch:=first | assumption | omega | decide +kernel) only [push_cast,↓capI,seval,Nat.reduceLeDiff,Nat.reduceEqDiff,reduceCtorEq,↓reduceIte,Tryz.ntmps141,cfgJ]
 refine endK.gn (Gn.freeze (id:=0) rfl) ?_;refine endK.ret ?_ (by first | rfl | simp [fmN,fm0,belAll_append]);simp [fmN,fm0,belAll_append,fzs_ok,imp,lenOK_iff,List.take_of_length_le,evRes,getT,getO,setO,fzs,fz,fzH,Nat.beq,retV,Res.then,ldT,ldR,mkV,getV,fmN,fm0,take_N,toN1,slN_nil,encN,slN,cfg0,take_rest,ibeq_dec,st_M,os_M,encPR,slM_sl,ones_N,cfgJ,len_flat lenN,Tryz.f141,slN,jn,op0]
 exact ⟨List.take_of_length_le (by simp [len_flat lenN];omega),by omega⟩
theorem pc53m (o:Int) (a b:List Nd) (ha:a.length≤4000000) (hb:b.length≤4000000):PC Tryz.prog 141 [.int .i64 o,slM a,slM b] (slM (jn o a b)):=by
 have h:=pc141 o a b ha hb
 rw [slM_cons (l:=jn o a b) (List.cons_ne_nil _ _)]
 refine PC.lax ?_
 rw [laxs,laxs,laxs,lax_M,lax_M]
 exact h
theorem pc140 (s:List UInt8) (c:UInt8):PC Tryz.prog 140 [.str s,.int .u8 c.toNat] (.bool (begins s [c])):=by
 cases s with
 | nil =>
  refine PC.walk tok mixed cfg0 Tryz.func140 rfl Tryz.call140 (by simp [fmN,fm0,belAll_append]) (by first | rfl | simp [fmN,fm0,belAll_append]) ?_;refine vms1 Tryz.ntmps140 ?_
  refine endK.ret ?_ (by first | rfl | simp [fmN,fm0,belAll_append]);simp [evRes,getT,retV,Tryz.f140,begins_nil]
 | cons x s =>
  have e:begins (x::s) [c]=decide ((x.toNat:Int)=c.toNat):=by
   rw [begins_cons,Bool.eq_iff_iff,beq_iff_eq,decide_eq_true_eq,Int.ofNat_inj,UInt8.toNat_inj]
  rw [e]
  refine PC.walk tok mixed cfg0 Tryz.func140 rfl Tryz.call140 (by simp [fmN,fm0,belAll_append]) (by first | rfl | simp [fmN,fm0,belAll_append]) ?_;refine vms1 Tryz.ntmps140 ?_
  refine endK.ret ?_ (by first | rfl | simp [fmN,fm0,belAll_append]);simp [evRes,getT,retV,Tryz.f140]
def AnsR (F:Nat) (s:List UInt8) (R:PR):Prop :=
 ∃(l:List Nd) (r:List UInt8),PC Tryz.prog F [.str s] (encPR l r R.isSome)∧l.length+r.length≤s.length+1∧r.length≤s.length∧∀p t,R=some (p,t)→l=flat p∧r=t
def lstL (nx:List UInt8→PR) (fl:List UInt8→List Nd) (fr:List UInt8→List UInt8) (o:Int) (c:UInt8):Nat→List Nd→Bool→List UInt8→List Nd × List UInt8 × Bool
 | 0,l,ok,r=>(l,r,ok)
 | k+1,l,ok,r=>if ok=true∧begins r [c]=true then lstL nx fl fr o c k (jn o l (fl (r.drop 1))) ((nx (r.drop 1)).isSome) (fr (r.drop 1)) else (l,r,ok)
theorem lstL_no {nx:List UInt8→PR} {fl:List UInt8→List Nd} {fr:List UInt8→List UInt8} {o:Int} {c:UInt8} {k:Nat} {l:List Nd} {r:List UInt8}:lstL nx fl fr o c k l false r=(l,r,false):=by
 cases k with
 | zero=>rfl
 | succ k=>rw [lstL,if_neg (by simp)]
theorem lstL_law {nx:List UInt8→PR} {fl:List UInt8→List Nd} {fr:List UInt8→List UInt8} {o:Int} {c:UInt8} {n:Nat} (he:Eats nx)
  (h:∀s,s.length<n→(fl s).length+(fr s).length≤s.length+1∧(fr s).length≤s.length∧∀p t,nx s=some (p,t)→fl s=flat p∧fr s=t) :
  ∀(k:Nat) (l:List Nd) (x:PR) (r:List UInt8),(∀p t,x=some (p,t)→l=flat p∧r=t)→r.length<k→r.length≤n →
  (lstL nx fl fr o c k l x.isSome r).2.1.length≤r.length∧(lstL nx fl fr o c k l x.isSome r).1.length+(lstL nx fl fr o c k l x.isSome r).2.1.length≤l.length+r.length+(if x.isSome=true then 1 else 0) ∧
  (lstL nx fl fr o c k l x.isSome r).2.2=(x.bind fun q=>lst nx o c k q.1 q.2).isSome ∧
  ∀p t,(x.bind fun q=>lst nx o c k q.1 q.2)=some (p,t)→(lstL nx fl fr o c k l x.isSome r).1=flat p∧(lstL nx fl fr o c k l x.isSome r).2.1=t
 | 0,l,x,r,_,hk,_=>absurd hk (Nat.not_lt_zero _)
 | k+1,l,x,r,hx,hk,hn=>by
  cases x with
  | none =>
   rw [show (none:PR).isSome=false from rfl,lstL_no]
   exact ⟨Nat.le_refl _,Nat.le_refl _,rfl,fun p t e=>by cases e⟩
  | some q =>
   obtain ⟨p,t⟩:=q
   obtain ⟨rfl,rfl⟩:=hx p t rfl
   rw [lstL]
   show _∧_∧_=(lst nx o c (k+1) p r).isSome∧∀p' t',lst nx o c (k+1) p r=some (p',t')→_
   rw [lst]
   by_cases hb:begins r [c]=true
   ·have hl:=begins_le hb
    simp only [List.length_cons,List.length_nil] at hl
    have hd:(r.drop 1).length=r.length-1:=List.length_drop
    obtain ⟨h1,h0,h2⟩:=h (r.drop 1) (by omega)
    rw [if_pos ⟨rfl,hb⟩,if_pos hb,if_pos (show (some (p,r)).isSome=true from rfl)]
    cases hy:nx (r.drop 1) with
    | none =>
     rw [show (none:PR).isSome=false from rfl,lstL_no]
     refine ⟨by simp only;omega,?_,rfl,fun p t e=>by cases e⟩
     simp only [jn_len]
     omega
    | some z =>
     obtain ⟨y,u⟩:=z
     obtain ⟨e1,e2⟩:=h2 y u hy
     have hE:=(he _ _ _ hy).1
     have i:=lstL_law (o:=o) (c:=c) he h k (jn o (flat p) (fl (r.drop 1))) (some (.bin (op0 o) p y,u)) (fr (r.drop 1)) (fun p t e=>by cases e;exact ⟨by rw [e1];rfl,e2⟩) (by omega) (by omega)
     rw [jn_len,if_pos (show (some (Pr.bin (op0 o) p y,u)).isSome=true from rfl)] at i
     rw [e1,e2] at i ⊢
     refine ⟨Nat.le_trans i.1 (by rw [←e2];omega),Nat.le_trans i.2.1 (by omega),i.2.2⟩
   ·rw [if_neg (fun g=>hb g.2),if_neg hb]
    exact ⟨Nat.le_refl _,Nat.le_add_right _ _,rfl,fun p t e=>by cases e;exact ⟨rfl,rfl⟩⟩
theorem pcL51 {nx:List UInt8→PR} {n:Nat} (hn:n≤100001) (he:Eats nx) (h:∀s,s.length<n→AnsR 172 s (nx s)) (s:List UInt8) (hs:s.length<n):AnsR 139 s (lstP nx 4 44 s):=by
 have hc:∃(fl:List UInt8→List Nd) (fr:List UInt8→List UInt8),∀s,s.length<n→PC Tryz.prog 172 [.str s] (encPR (fl s) (fr s) (nx s).isSome) ∧
   (fl s).length+(fr s).length≤s.length+1∧(fr s).length≤s.length∧∀p t,nx s=some (p,t)→fl s=flat p∧fr s=t:=by
  refine ⟨fun s=>if h1:s.length<n then (h s h1).choose else [],fun s=>if h1:s.length<n then (h s h1).choose_spec.choose else [],fun s h1=>?_⟩
  simp only [dif_pos h1]
  exact (h s h1).choose_spec.choose_spec
 obtain ⟨fl,fr,hf⟩:=hc
 have h0:=hf s hs
 have law:=lstL_law (nx:=nx) (fl:=fl) (fr:=fr) (o:=4) (c:=44) (n:=n) he (fun s hs=>(hf s hs).2) ((fr s).length+1) (fl s) (nx s) (fr s) h0.2.2.2 (Nat.lt_succ_self _) (by omega)
 have eP:(nx s).bind (fun q=>lst nx 4 44 ((fr s).length+1) q.1 q.2)=lstP nx 4 44 s:=by
  rw [lstP]
  cases hx:nx s with
  | none=>rfl
  | some q =>
   obtain ⟨p,t⟩:=q
   rw [(h0.2.2.2 p t hx).2]
   rfl
 rw [eP] at law
 have hsum:(fl s).length+(fr s).length+(if (nx s).isSome=true then 1 else 0)≤s.length+1∧((nx s).isSome=true→(fl s).length+(fr s).length≤s.length):=by
  cases hx:nx s with
  | none=>exact ⟨h0.2.1,fun h=>by cases h⟩
  | some q =>
   obtain ⟨p,t⟩:=q
   obtain ⟨e1,e2⟩:=h0.2.2.2 p t hx
   have:=(he _ _ _ hx).1
   rw [e1,e2]
   exact ⟨by rw [if_pos (show (some (p,t)).isSome=true from rfl)];omega,fun _=>this⟩
 generalize hR:lstL nx fl fr 4 44 ((fr s).length+1) (fl s) (nx s).isSome (fr s)=R at law
 obtain ⟨L,U,OK⟩:=R
 simp only at law
 refine ⟨L,U,?_,by omega,by omega,law.2.2.2⟩
 rw [←law.2.2.1]
 have g0:=h0.1
 refine PC.walk tok mixed cfg0 Tryz.func139 rfl Tryz.call139 (by simp [fmN,fm0,belAll_append]) (by first | rfl | simp [fmN,fm0,belAll_append]) ?_;refine vms1 Tryz.ntmps139 ?_
 refine callO.pc g0 ?_
 refine vms0 ?_
 refine T.lp tok mixed cfg0 (fun ((l,ok,r):List Nd × Bool × List UInt8)=>dd 2 (kp 2 (dd 25 (nl)))) (fun H0 ((l,ok,r):List Nd × Bool × List UInt8)=>[.cells 0 [.sl true [] 0,.str [],.bool false],.cells 0 [.sl l.isEmpty (l.flatMap encN) l.length,.str r,.bool ok]]) (fun ((l,ok,r):List Nd × Bool × List UInt8)=>(ok=true→l.length+r.length≤s.length)∧l.length≤s.length+1∧r.length≤s.length∧∃m,r.length<m∧lstL nx fl fr 4 44 m l ok r=(L,U,OK)) (fun ((l,ok,r):List Nd × Bool × List UInt8)=>r.length) ((fl s,(nx s).isSome,fr s)) ?_ ?_ ?_
 ·exact ⟨hsum.2,by omega,h0.2.2.1,_,Nat.lt_succ_self _,hR⟩
 ·exact Gn.canon (J:=[]) (by first | rfl | (simp [List.append_nil];done) | (simp [List.append_nil];rfl)) (by simp [wk,slN,putT,kp,dd,sv,nl]) (by simp [List.length_append]) (by simp [fmN,fm0,belAll_append,kp,dd,sv,nl]) (by simp [fmN,fm0,belAll_append])
 rintro ⟨l,ok,r⟩ ⟨hl,hl2,hr2,m,hm,he2⟩
 cases m with
 | zero=>omega
 | succ m =>
 cases ok
 ·rw [lstL_no] at he2
  cases he2
  refine vms0 ?_
  refine endK.ret ?_ (by first | rfl | simp [fmN,fm0,belAll_append]);simp [fmN,fm0,belAll_append,fzs_ok,imp,lenOK_iff,List.take_of_length_le,evRes,getT,getO,setO,fzs,fz,fzH,Nat.beq,retV,Res.then,ldT,ldR,mkV,getV,fmN,fm0,take_N,toN1,slN_nil,encN,slN,cfg0,take_rest,ibeq_dec,st_M,os_M,encPR,slM_sl,ones_N,cfgJ,len_flat lenN,Tryz.f139,encPR,tt_147]
 rw [lstL] at he2
 have hl3:=hl rfl
 have g2:=pc140 r 44
 rw [show ((44:UInt8).toNat:Int)=44 from rfl] at g2
 cases hb:begins r [44]
 ·rw [hb] at g2
  rw [if_neg (by rw [hb];simp)] at he2
  cases he2
  refine vms0 ?_
  refine callO.pc g2 ?_
  refine vms0 ?_
  refine endK.ret ?_ (by first | rfl | simp [fmN,fm0,belAll_append]);simp [fmN,fm0,belAll_append,fzs_ok,imp,lenOK_iff,List.take_of_length_le,evRes,getT,getO,setO,fzs,fz,fzH,Nat.beq,retV,Res.then,ldT,ldR,mkV,getV,fmN,fm0,take_N,toN1,slN_nil,encN,slN,cfg0,take_rest,ibeq_dec,st_M,os_M,encPR,slM_sl,ones_N,cfgJ,len_flat lenN,Tryz.f139,encPR,tt_147]
 ·rw [hb] at g2
  have hbl:=begins_le hb
  simp only [List.length_cons,List.length_nil] at hbl
  have hd:(r.drop 1).length=r.length-1:=List.length_drop
  have hdt:(r.drop 1).take (r.length-1)=r.drop 1:=List.take_of_length_le (by omega)
  have hml:min (r.length-1) (r.length-1)=r.length-1:=Nat.min_self _
  obtain ⟨y1,y2,y3,y4⟩:=hf (r.drop 1) (by omega)
  have hy5:(nx (r.drop 1)).isSome=true→(fl (r.drop 1)).length+(fr (r.drop 1)).length≤(r.drop 1).length:=by
   cases hx:nx (r.drop 1) with
   | none=>exact fun h=>by cases h
   | some q =>
    obtain ⟨p,t⟩:=q
    obtain ⟨e1,e2⟩:=y4 p t hx
    rw [e1,e2]
    exact fun _=>(he _ _ _ hx).1
  have hj:=pc53m 4 l (fl (r.drop 1)) (by omega) (by omega)
  simp only [slM_sl] at hj
  rw [if_pos ⟨rfl,hb⟩] at he2
  refine vms0 ?_
  refine callO.pc g2 ?_
  refine vms1 hdt ?_
  refine callO.pc y1 ?_
  refine vms0 ?_
  refine callG.pc1 hj ?_
  refine vms0 ?_
  refine ⟨(jn 4 l (fl (r.drop 1)),(nx (r.drop 1)).isSome,fr (r.drop 1)),⟨fun h=>by simp only [jn_len];have:=hy5 h;omega,by (try simp only [jn_len]);omega,by (try simp only);omega,m,by (try simp only);omega,he2⟩,by (try simp only);omega,?_⟩;exact Gn.canon (by first | rfl | (simp [List.append_nil];rfl)) (by simp [wk,slN]) (by simp [List.length_append]) (by simp [fmN,fm0,belAll_append]) (by simp [fmN,fm0,belAll_append])
theorem pcL37 {nx:List UInt8→PR} {n:Nat} (hn:n≤100001) (he:Eats nx) (h:∀s,s.length<n→AnsR 139 s (nx s)) (s:List UInt8) (hs:s.length<n):AnsR 88 s (lstP nx 5 124 s):=by
 have hc:∃(fl:List UInt8→List Nd) (fr:List UInt8→List UInt8),∀s,s.length<n→PC Tryz.prog 139 [.str s] (encPR (fl s) (fr s) (nx s).isSome) ∧
   (fl s).length+(fr s).length≤s.length+1∧(fr s).length≤s.length∧∀p t,nx s=some (p,t)→fl s=flat p∧fr s=t:=by
  refine ⟨fun s=>if h1:s.length<n then (h s h1).choose else [],fun s=>if h1:s.length<n then (h s h1).choose_spec.choose else [],fun s h1=>?_⟩
  simp only [dif_pos h1]
  exact (h s h1).choose_spec.choose_spec
 obtain ⟨fl,fr,hf⟩:=hc
 have h0:=hf s hs
 have law:=lstL_law (nx:=nx) (fl:=fl) (fr:=fr) (o:=5) (c:=124) (n:=n) he (fun s hs=>(hf s hs).2) ((fr s).length+1) (fl s) (nx s) (fr s) h0.2.2.2 (Nat.lt_succ_self _) (by omega)
 have eP:(nx s).bind (fun q=>lst nx 5 124 ((fr s).length+1) q.1 q.2)=lstP nx 5 124 s:=by
  rw [lstP]
  cases hx:nx s with
  | none=>rfl
  | some q =>
   obtain ⟨p,t⟩:=q
   rw [(h0.2.2.2 p t hx).2]
   rfl
 rw [eP] at law
 have hsum:(fl s).length+(fr s).length+(if (nx s).isSome=true then 1 else 0)≤s.length+1∧((nx s).isSome=true→(fl s).length+(fr s).length≤s.length):=by
  cases hx:nx s with
  | none=>exact ⟨h0.2.1,fun h=>by cases h⟩
  | some q =>
   obtain ⟨p,t⟩:=q
   obtain ⟨e1,e2⟩:=h0.2.2.2 p t hx
   have:=(he _ _ _ hx).1
   rw [e1,e2]
   exact ⟨by rw [if_pos (show (some (p,t)).isSome=true from rfl)];omega,fun _=>this⟩
 generalize hR:lstL nx fl fr 5 124 ((fr s).length+1) (fl s) (nx s).isSome (fr s)=R at law
 obtain ⟨L,U,OK⟩:=R
 simp only at law
 refine ⟨L,U,?_,by omega,by omega,law.2.2.2⟩
 rw [←law.2.2.1]
 have g0:=h0.1
 refine PC.walk tok mixed cfg0 Tryz.func88 rfl Tryz.call88 (by simp [fmN,fm0,belAll_append]) (by first | rfl | simp [fmN,fm0,belAll_append]) ?_;refine vms1 Tryz.ntmps88 ?_
 refine callO.pc g0 ?_
 refine vms0 ?_
 refine T.lp tok mixed cfg0 (fun ((l,ok,r):List Nd × Bool × List UInt8)=>dd 2 (kp 2 (dd 25 (nl)))) (fun H0 ((l,ok,r):List Nd × Bool × List UInt8)=>[.cells 0 [.sl true [] 0,.str [],.bool false],.cells 0 [.sl l.isEmpty (l.flatMap encN) l.length,.str r,.bool ok]]) (fun ((l,ok,r):List Nd × Bool × List UInt8)=>(ok=true→l.length+r.length≤s.length)∧l.length≤s.length+1∧r.length≤s.length∧∃m,r.length<m∧lstL nx fl fr 5 124 m l ok r=(L,U,OK)) (fun ((l,ok,r):List Nd × Bool × List UInt8)=>r.length) ((fl s,(nx s).isSome,fr s)) ?_ ?_ ?_
 ·exact ⟨hsum.2,by omega,h0.2.2.1,_,Nat.lt_succ_self _,hR⟩
 ·exact Gn.canon (J:=[]) (by first | rfl | (simp [List.append_nil];done) | (simp [List.append_nil];rfl)) (by simp [wk,slN,putT,kp,dd,sv,nl]) (by simp [List.length_append]) (by simp [fmN,fm0,belAll_append,kp,dd,sv,nl]) (by simp [fmN,fm0,belAll_append])
 rintro ⟨l,ok,r⟩ ⟨hl,hl2,hr2,m,hm,he2⟩
 cases m with
 | zero=>omega
 | succ m =>
 cases ok
 ·rw [lstL_no] at he2
  cases he2
  refine vms0 ?_
  refine endK.ret ?_ (by first | rfl | simp [fmN,fm0,belAll_append]);simp [fmN,fm0,belAll_append,fzs_ok,imp,lenOK_iff,List.take_of_length_le,evRes,getT,getO,setO,fzs,fz,fzH,Nat.beq,retV,Res.then,ldT,ldR,mkV,getV,fmN,fm0,take_N,toN1,slN_nil,encN,slN,cfg0,take_rest,ibeq_dec,st_M,os_M,encPR,slM_sl,ones_N,cfgJ,len_flat lenN,Tryz.f88,encPR,tt_147]
 rw [lstL] at he2
 have hl3:=hl rfl
 have g2:=pc140 r 124
 rw [show ((124:UInt8).toNat:Int)=124 from rfl] at g2
 cases hb:begins r [124]
 ·rw [hb] at g2
  rw [if_neg (by rw [hb];simp)] at he2
  cases he2
  refine vms0 ?_
  refine callO.pc g2 ?_
  refine vms0 ?_
  refine endK.ret ?_ (by first | rfl | simp [fmN,fm0,belAll_append]);simp [fmN,fm0,belAll_append,fzs_ok,imp,lenOK_iff,List.take_of_length_le,evRes,getT,getO,setO,fzs,fz,fzH,Nat.beq,retV,Res.then,ldT,ldR,mkV,getV,fmN,fm0,take_N,toN1,slN_nil,encN,slN,cfg0,take_rest,ibeq_dec,st_M,os_M,encPR,slM_sl,ones_N,cfgJ,len_flat lenN,Tryz.f88,encPR,tt_147]
 ·rw [hb] at g2
  have hbl:=begins_le hb
  simp only [List.length_cons,List.length_nil] at hbl
  have hd:(r.drop 1).length=r.length-1:=List.length_drop
  have hdt:(r.drop 1).take (r.length-1)=r.drop 1:=List.take_of_length_le (by omega)
  have hml:min (r.length-1) (r.length-1)=r.length-1:=Nat.min_self _
  obtain ⟨y1,y2,y3,y4⟩:=hf (r.drop 1) (by omega)
  have hy5:(nx (r.drop 1)).isSome=true→(fl (r.drop 1)).length+(fr (r.drop 1)).length≤(r.drop 1).length:=by
   cases hx:nx (r.drop 1) with
   | none=>exact fun h=>by cases h
   | some q =>
    obtain ⟨p,t⟩:=q
    obtain ⟨e1,e2⟩:=y4 p t hx
    rw [e1,e2]
    exact fun _=>(he _ _ _ hx).1
  have hj:=pc53m 5 l (fl (r.drop 1)) (by omega) (by omega)
  simp only [slM_sl] at hj
  rw [if_pos ⟨rfl,hb⟩] at he2
  refine vms0 ?_
  refine callO.pc g2 ?_
  refine vms1 hdt ?_
  refine callO.pc y1 ?_
  refine vms0 ?_
  refine callG.pc1 hj ?_
  refine vms0 ?_
  refine ⟨(jn 5 l (fl (r.drop 1)),(nx (r.drop 1)).isSome,fr (r.drop 1)),⟨fun h=>by simp only [jn_len];have:=hy5 h;omega,by (try simp only [jn_len]);omega,by (try simp only);omega,m,by (try simp only);omega,he2⟩,by (try simp only);omega,?_⟩;exact Gn.canon (by first | rfl | (simp [List.append_nil];rfl)) (by simp [wk,slN]) (by simp [List.length_append]) (by simp [fmN,fm0,belAll_append]) (by simp [fmN,fm0,belAll_append])
end
section
theorem flat_isE (p:Pr):(flat p).isEmpty=false:=by
 cases h:flat p with
 | nil=>exact absurd h (flat_ne p)
 | cons x l=>rfl
theorem jn6 (p:Pr):jn 6 (flat p) []=flat (.un (op0 6) p):=by rw [jn,flat,List.append_nil]
attribute [local push_cast] fmN fm0 take_N toN1 slN_nil encN slN cfg0 take_rest ibeq_dec st_M os_M encPR slM_sl ones_N cfgJ lfl_lenN
theorem pcR60 {nx:List UInt8→PR} {n:Nat} (hn:n≤100001) (he:Eats nx) (h:∀s,s.length<n→AnsR 196 s (nx s)) (s:List UInt8) (hs:s.length<n):AnsR 172 s (pStr nx s):=by
 obtain ⟨l0,r0,g,hl0,hl1,hr0⟩:=h s hs
 cases hx:nx s with
 | none =>
  rw [hx] at g
  have e:pStr nx s=none:=by rw [pStr,hx]
  rw [e]
  refine ⟨l0,r0,?_,hl0,hl1,fun p t e=>by cases e⟩
  refine PC.walk tok mixed cfg0 Tryz.func172 rfl Tryz.call172 (by simp [fmN,fm0,belAll_append]) (by first | rfl | simp [fmN,fm0,belAll_append]) ?_;refine vms1 Tryz.ntmps172 ?_
  refine callO.pc g ?_
  refine vms0 ?_
  refine T.lp tok mixed cfg0 (fun ((l,r):List Nd × List UInt8)=>dd 2 (kp 2 (dd 17 (nl)))) (fun H0 ((l,r):List Nd × List UInt8)=>[.cells 0 [.sl true [] 0,.str [],.bool false],.cells 0 [.sl l.isEmpty (l.flatMap encN) l.length,.str r,.bool false]]) (fun ((l,r):List Nd × List UInt8)=>l=l0∧r=r0) (fun ((l,r):List Nd × List UInt8)=>0) ((l0,r0)) ?_ ?_ ?_
  ·exact ⟨rfl,rfl⟩
  ·exact Gn.canon (J:=[]) (by first | rfl | (simp [List.append_nil];done) | (simp [List.append_nil];rfl)) (by simp [wk,slN,putT,kp,dd,sv,nl]) (by simp [List.length_append]) (by simp [fmN,fm0,belAll_append,kp,dd,sv,nl]) (by simp [fmN,fm0,belAll_append])
  rintro ⟨l,r⟩ ⟨rfl,rfl⟩
  refine vms0 ?_
  refine endK.ret ?_ (by first | rfl | simp [fmN,fm0,belAll_append]);simp [fmN,fm0,belAll_append,fzs_ok,imp,lenOK_iff,List.take_of_length_le,evRes,getT,getO,setO,fzs,fz,fzH,Nat.beq,retV,Res.then,ldT,ldR,mkV,getV,fmN,fm0,take_N,toN1,slN_nil,encN,slN,cfg0,take_rest,ibeq_dec,st_M,os_M,encPR,slM_sl,ones_N,cfgJ,len_flat lenN,Tryz.f172,encPR,tt_147]
 | some q =>
  obtain ⟨p1,r1⟩:=q
  obtain ⟨rfl,rfl⟩:=hr0 _ _ hx
  rw [hx] at g
  have e:pStr nx s=some (strs (r0.length+1) p1 r0):=by rw [pStr,hx]
  rw [e]
  have hE:=he _ _ _ hx
  have hsl:=strs_eats (r0.length+1) p1 r0 hE.2
  have hsl2:=strs_len (r0.length+1) p1 r0
  generalize hR:strs (r0.length+1) p1 r0=R at hsl hsl2
  obtain ⟨P,U⟩:=R
  simp only at hsl hsl2
  refine ⟨flat P,U,?_,by omega,by omega,fun p t e=>by cases e;exact ⟨rfl,rfl⟩⟩
  refine PC.walk tok mixed cfg0 Tryz.func172 rfl Tryz.call172 (by simp [fmN,fm0,belAll_append]) (by first | rfl | simp [fmN,fm0,belAll_append]) ?_;refine vms1 Tryz.ntmps172 ?_
  refine callO.pc g ?_
  refine vms0 ?_
  refine T.lp tok mixed cfg0 (fun ((p,r):Pr × List UInt8)=>dd 2 (kp 2 (dd 17 (nl)))) (fun H0 ((p,r):Pr × List UInt8)=>[.cells 0 [.sl true [] 0,.str [],.bool false],.cells 0 [.sl (flat p).isEmpty ((flat p).flatMap encN) (flat p).length,.str r,.bool true]]) (fun ((p,r):Pr × List UInt8)=>(flat p).length+r.length≤s.length∧∃m,r.length<m∧strs m p r=(P,U)) (fun ((p,r):Pr × List UInt8)=>r.length) ((p1,r0)) ?_ ?_ ?_
  ·exact ⟨hE.1,_,Nat.lt_succ_self _,hR⟩
  ·exact Gn.canon (J:=[]) (by first | rfl | (simp [List.append_nil];done) | (simp [List.append_nil];rfl)) (by simp [wk,slN,putT,kp,dd,sv,nl]) (by simp [List.length_append]) (by simp [fmN,fm0,belAll_append,kp,dd,sv,nl]) (by simp [fmN,fm0,belAll_append])
  rintro ⟨p,r⟩ ⟨hpl,m,hm,he2⟩
  cases m with
  | zero=>omega
  | succ m =>
  rw [strs] at he2
  have g2:=pc140 r 42
  rw [show ((42:UInt8).toNat:Int)=42 from rfl] at g2
  cases hb:begins r [42]
  ·rw [hb] at g2
   rw [if_neg (by rw [hb];simp)] at he2
   cases he2
   refine vms0 ?_
   refine callO.pc g2 ?_
   refine vms0 ?_
   refine endK.ret ?_ (by first | rfl | simp [fmN,fm0,belAll_append]);simp [fmN,fm0,belAll_append,fzs_ok,imp,lenOK_iff,List.take_of_length_le,evRes,getT,getO,setO,fzs,fz,fzH,Nat.beq,retV,Res.then,ldT,ldR,mkV,getV,fmN,fm0,take_N,toN1,slN_nil,encN,slN,cfg0,take_rest,ibeq_dec,st_M,os_M,encPR,slM_sl,ones_N,cfgJ,len_flat lenN,Tryz.f172,encPR,tt_147]
  ·rw [hb] at g2
   have hbl:=begins_le hb
   simp only [List.length_cons,List.length_nil] at hbl
   have hd:(r.drop 1).length=r.length-1:=List.length_drop
   have hdt:(r.drop 1).take (r.length-1)=r.drop 1:=List.take_of_length_le (by omega)
   have hj:=pc53m 6 (flat p) [] (by omega) (by simp)
   rw [jn6] at hj
   simp only [slM_sl,List.isEmpty_nil,List.flatMap_nil,List.length_nil] at hj
   rw [if_pos hb] at he2
   refine vms0 ?_
   refine callO.pc g2 ?_
   refine vms1 hdt ?_
   refine callG.pc1 hj ?_
   refine vms1 hdt ?_
   refine ⟨(.un (op0 6) p,r.drop 1),⟨by simp only [flat,List.length_cons];omega,m,by (try simp only);omega,he2⟩,by (try simp only);omega,?_⟩;exact Gn.canon (by first | rfl | (simp [List.append_nil];rfl)) (by simp [wk,slN]) (by simp [List.length_append]) (by simp [fmN,fm0,belAll_append]) (by simp [fmN,fm0,belAll_append])
end
section
theorem digs_get:∀ {s:List UInt8} {i:Nat},i<(digs s).length→∃h:i<s.length,isDig s[i]=true
 | [],i,h=>by cases h
 | c::s,i,h=>by
  rw [digs,List.takeWhile_cons] at h
  cases hc:isDig c
  ·rw [hc,if_neg (by simp)] at h;cases h
  ·rw [hc,if_pos rfl,List.length_cons] at h
   cases i with
   | zero=>exact ⟨Nat.succ_pos _,hc⟩
   | succ i =>
    obtain ⟨h1,h2⟩:=digs_get (s:=s) (i:=i) (Nat.lt_of_succ_lt_succ h)
    exact ⟨Nat.succ_lt_succ h1,h2⟩
theorem digs_end:∀ {s:List UInt8} (h:(digs s).length<s.length),isDig s[(digs s).length]=false
 | [],h=>by cases h
 | c::s,h=>by
  cases hc:isDig c
  ·have e:digs (c::s)=[]:=by rw [digs,List.takeWhile_cons,if_neg (by rw [hc];simp)]
   simp only [e,List.length_nil,List.getElem_cons_zero]
   exact hc
  ·have e:digs (c::s)=c::digs s:=by rw [digs,List.takeWhile_cons,if_pos hc];rfl
   rw [e,List.length_cons,List.length_cons] at h
   have ih:=digs_end (s:=s) (Nat.lt_of_succ_lt_succ h)
   simp only [e,List.length_cons,List.getElem_cons_succ]
   exact ih
theorem pc52n (s:List UInt8) (c:UInt8) (k:Int) (hk:(c.toNat:Int)=k) (b:Bool) (h:begins s [c]=b):PC Tryz.prog 140 [.str s,.int .u8 k] (.bool b):=by
 have:=pc140 s c
 rw [hk,h] at this
 exact this
theorem no2 {s:List UInt8} (h:begins s [40,41]=false):(2≤s.length∧¬s.take 2=[40,41])∨¬2≤s.length:=by
 by_cases h2:2≤s.length
 ·refine .inl ⟨h2,fun e=>?_⟩
  simp [begins,h2,e] at h
 ·exact .inr h2
theorem yes2 {s:List UInt8} (h:begins s [40,41]=true):2≤s.length∧s.take 2=[40,41]:=by
 simpa [begins] using h
attribute [local push_cast] fmN fm0 take_N toN1 slN_nil encN slN cfg0 take_rest ibeq_dec st_M os_M encPR slM_sl ones_N cfgJ lfl_lenN
theorem pcR64n (s:List UInt8) (hs:s.length≤100000) (f1:begins s [40,41]=false) (f2:begins s [46]=false) (f3:begins s [40]=false):AnsR 196 s (pNumb s):=by
 have hl:=dropD_len s
 have hlen:s.length-(dropD s).length=(digs s).length:=by omega
 have ht:=(take_digs s).1
 have hd:=(take_digs s).2
 rw [hlen] at ht hd
 have h69:=pc86 (digs s) (by omega) (digs_all s)
 have hg:=fun i=>@digs_get s i
 have he:=@digs_end s
 rw [encIB] at h69
 have g2:=pc52n s 46 46 rfl _ f2
 have g3:=pc52n s 40 40 rfl _ f3
 have eS:(pNumb s).isSome=(parseI (digs s)).2:=by
  rw [pNumb]
  cases (parseI (digs s)).2<;>rfl
 refine ⟨[⟨3,(parseI (digs s)).1⟩],dropD s,?_,by rw [List.length_singleton];omega,by omega,fun p t e=>?_⟩
 case refine_2 =>
  rw [pNumb] at e
  split at e
  ·cases e;exact ⟨rfl,rfl⟩
  ·cases e
 rw [eS]
 generalize parseI (digs s)=r at h69 ⊢
 obtain ⟨v,ok⟩:=r
 simp only at h69 ⊢
 have hkl:(digs s).length≤s.length:=by omega
 generalize hdd:dropD s=q at hd hl ⊢
 generalize digs s=d at *
 generalize hk:d.length=k at *
 have hql:min s.length (s.length-k)=s.length-k:=by omega
 have hqt:q.take (s.length-k)=q:=List.take_of_length_le (by omega)
 rcases no2 f1 with ⟨n1,n2⟩ | n1
 all_goals
  refine PC.walk tok mixed cfg0 Tryz.func196 rfl Tryz.call196 (by simp [fmN,fm0,belAll_append]) (by first | rfl | simp [fmN,fm0,belAll_append]) ?_;simp (maxSteps:=2000000) -implicitDefEqProofs +contextual (disch:=first | assumption | omega | decide +kernel) only [push_cast,↓capI,seval,Nat.reduceLeDiff,Nat.reduceEqDiff,reduceCtorEq,↓reduceIte,Tryz.ntmps196]
  (try simp (maxSteps:=2000000) -implicitDefEqProofs +contextual (disch:=first | assumption | omega | decide +kernel) only [push_cast,↓capI,seval,Nat.reduceLeDiff,Nat.reduceEqDiff,reduceCtorEq,↓reduceIte,n1,n2])
  (try simp (maxSteps:=2000000) -implicitDefEqProofs +contextual (disch:=first | assumption | omega | decide +kernel) only [push_cast,↓capI,seval,Nat.reduceLeDiff,Nat.reduceEqDiff,reduceCtorEq,↓reduceIte,n1])
  refine callO.pc g2 ?_
  simp (maxSteps:=2000000) -implicitDefEqProofs +contextual (disch:=first | assumption | omega | decide +kernel) only [push_cast,↓capI,seval,Nat.reduceLeDiff,Nat.reduceEqDiff,reduceCtorEq,↓reduceIte]
  refine callO.pc g3 ?_
  simp (maxSteps:=2000000) -implicitDefEqProofs +contextual (disch:=first | assumption | omega | decide +kernel) only [push_cast,↓capI,seval,Nat.reduceLeDiff,Nat.reduceEqDiff,reduceCtorEq,↓reduceIte]
  refine T.lp tok mixed cfg0 (fun (i:Nat)=>kp 1 (dd 1 (kp 1 (dd 1 (sv (.int .i64 i) (dd 75 (nl))))))) (fun H0 (i:Nat)=>[.cells 0 [.sl true [] 0,.str [],.bool false]]) (fun (i:Nat)=>i≤k) (fun (i:Nat)=>k-i) (0) ?_ ?_ ?_
  ·exact Nat.zero_le _
  ·exact Gn.canon (J:=[]) (by first | rfl | (simp [List.append_nil];done) | (simp [List.append_nil];rfl)) (by simp [wk,slN,putT,kp,dd,sv,nl]) (by simp [List.length_append]) (by simp [fmN,fm0,belAll_append,kp,dd,sv,nl]) (by simp [fmN,fm0,belAll_append])
  intro i hi
  by_cases hlt:i<k
  ·obtain ⟨h1,h2⟩:=hg i hlt
   have hgd:s.getD i 0=s[i]:=by rw [List.getD_eq_getElem?_getD,List.getElem?_eq_getElem h1];rfl
   obtain ⟨h48,h57⟩:=dig_range h2
   simp (maxSteps:=2000000) -implicitDefEqProofs +contextual (disch:=first | assumption | omega | decide +kernel) only [push_cast,↓capI,seval,Nat.reduceLeDiff,Nat.reduceEqDiff,reduceCtorEq,↓reduceIte,h1,hgd,h48,h57]
   refine ⟨i+1,by omega,by (try simp only);omega,?_⟩;exact Gn.canon (by first | rfl | (simp [List.append_nil];rfl)) (by simp [wk,slN]) (by simp [List.length_append]) (by simp [fmN,fm0,belAll_append]) (by simp [fmN,fm0,belAll_append])
  have hik:i=k:=by omega
  subst hik
  by_cases h1:i<s.length
  ·have h2:=he h1
   have hgd:s.getD i 0=s[i]:=by rw [List.getD_eq_getElem?_getD,List.getElem?_eq_getElem h1];rfl
   have hb:=s[i].toNat_lt
   simp only [isDig,Bool.and_eq_false_iff,decide_eq_false_iff_not] at h2
   by_cases h48:48≤s[i].toNat
   ·have h57:¬s[i].toNat≤57:=by omega
    simp (maxSteps:=2000000) -implicitDefEqProofs +contextual (disch:=first | assumption | omega | decide +kernel) only [push_cast,↓capI,seval,Nat.reduceLeDiff,Nat.reduceEqDiff,reduceCtorEq,↓reduceIte,h1,hgd,h48,h57]
    refine callO.pc (by rw [Nat.sub_zero,ht];exact h69) ?_
    simp (maxSteps:=2000000) -implicitDefEqProofs +contextual (disch:=first | assumption | omega | decide +kernel) only [push_cast,↓capI,seval,Nat.reduceLeDiff,Nat.reduceEqDiff,reduceCtorEq,↓reduceIte,hd,hqt]
    refine endK.ret ?_ (by first | rfl | simp [fmN,fm0,belAll_append]);simp [fmN,fm0,belAll_append,fzs_ok,imp,lenOK_iff,List.take_of_length_le,evRes,getT,getO,setO,fzs,fz,fzH,Nat.beq,retV,Res.then,ldT,ldR,mkV,getV,fmN,fm0,take_N,toN1,slN_nil,encN,slN,cfg0,take_rest,ibeq_dec,st_M,os_M,encPR,slM_sl,ones_N,cfgJ,len_flat lenN,Tryz.f196,encPR,tt_147,slM_sl,fmN,fm0]
   ·simp (maxSteps:=2000000) -implicitDefEqProofs +contextual (disch:=first | assumption | omega | decide +kernel) only [push_cast,↓capI,seval,Nat.reduceLeDiff,Nat.reduceEqDiff,reduceCtorEq,↓reduceIte,h1,hgd,h48]
    refine callO.pc (by rw [Nat.sub_zero,ht];exact h69) ?_
    simp (maxSteps:=2000000) -implicitDefEqProofs +contextual (disch:=first | assumption | omega | decide +kernel) only [push_cast,↓capI,seval,Nat.reduceLeDiff,Nat.reduceEqDiff,reduceCtorEq,↓reduceIte,hd,hqt]
    refine endK.ret ?_ (by first | rfl | simp [fmN,fm0,belAll_append]);simp [fmN,fm0,belAll_append,fzs_ok,imp,lenOK_iff,List.take_of_length_le,evRes,getT,getO,setO,fzs,fz,fzH,Nat.beq,retV,Res.then,ldT,ldR,mkV,getV,fmN,fm0,take_N,toN1,slN_nil,encN,slN,cfg0,take_rest,ibeq_dec,st_M,os_M,encPR,slM_sl,ones_N,cfgJ,len_flat lenN,Tryz.f196,encPR,tt_147,slM_sl,fmN,fm0]
  ·simp (maxSteps:=2000000) -implicitDefEqProofs +contextual (disch:=first | assumption | omega | decide +kernel) only [push_cast,↓capI,seval,Nat.reduceLeDiff,Nat.reduceEqDiff,reduceCtorEq,↓reduceIte,h1]
   refine callO.pc (by rw [Nat.sub_zero,ht];exact h69) ?_
   simp (maxSteps:=2000000) -implicitDefEqProofs +contextual (disch:=first | assumption | omega | decide +kernel) only [push_cast,↓capI,seval,Nat.reduceLeDiff,Nat.reduceEqDiff,reduceCtorEq,↓reduceIte,hd,hqt]
   refine endK.ret ?_ (by first | rfl | simp [fmN,fm0,belAll_append]);simp [fmN,fm0,belAll_append,fzs_ok,imp,lenOK_iff,List.take_of_length_le,evRes,getT,getO,setO,fzs,fz,fzH,Nat.beq,retV,Res.then,ldT,ldR,mkV,getV,fmN,fm0,take_N,toN1,slN_nil,encN,slN,cfg0,take_rest,ibeq_dec,st_M,os_M,encPR,slM_sl,ones_N,cfgJ,len_flat lenN,Tryz.f196,encPR,tt_147,slM_sl,fmN,fm0]
theorem pcR64:∀k,k≤100001→∀s:List UInt8,s.length<k→AnsR 196 s (pAtm k s)
 | 0,_,s,h=>absurd h (Nat.not_lt_zero _)
 | k+1,hk,s,hs=>by
  have ih:=pcR64 k (by omega)
  rw [pAtm]
  by_cases h1:begins s [40,41]=true
  ·obtain ⟨n1,n2⟩:=yes2 h1
   have hd2:(s.drop 2).take (s.length-2)=s.drop 2:=List.take_of_length_le (by rw [List.length_drop];exact Nat.le_refl _)
   rw [if_pos h1]
   refine ⟨[op0 1],s.drop 2,?_,by rw [List.length_singleton,List.length_drop];omega,by rw [List.length_drop];omega,fun p t e=>by cases e;exact ⟨rfl,rfl⟩⟩
   refine PC.walk tok mixed cfg0 Tryz.func196 rfl Tryz.call196 (by simp [fmN,fm0,belAll_append]) (by first | rfl | simp [fmN,fm0,belAll_append]) ?_;simp (maxSteps:=2000000) -implicitDefEqProofs +contextual (disch:=first | assumption | omega | decide +kernel) only [push_cast,↓capI,seval,Nat.reduceLeDiff,Nat.reduceEqDiff,reduceCtorEq,↓reduceIte,Tryz.ntmps196]
   simp (maxSteps:=2000000) -implicitDefEqProofs +contextual (disch:=first | assumption | omega | decide +kernel) only [push_cast,↓capI,seval,Nat.reduceLeDiff,Nat.reduceEqDiff,reduceCtorEq,↓reduceIte,n1,n2,hd2]
   refine endK.ret ?_ (by first | rfl | simp [fmN,fm0,belAll_append]);simp [fmN,fm0,belAll_append,fzs_ok,imp,lenOK_iff,List.take_of_length_le,evRes,getT,getO,setO,fzs,fz,fzH,Nat.beq,retV,Res.then,ldT,ldR,mkV,getV,fmN,fm0,take_N,toN1,slN_nil,encN,slN,cfg0,take_rest,ibeq_dec,st_M,os_M,encPR,slM_sl,ones_N,cfgJ,len_flat lenN,Tryz.f196,encPR,tt_147,slM_sl,fmN,fm0,op0,hd2]
  have f1:=Bool.eq_false_iff.2 h1
  rw [if_neg h1]
  by_cases h2:begins s [46]=true
  ·have hl:=begins_le h2
   simp only [List.length_cons,List.length_nil] at hl
   have g2:=pc52n s 46 46 rfl _ h2
   have hd1:(s.drop 1).take (s.length-1)=s.drop 1:=List.take_of_length_le (by rw [List.length_drop];exact Nat.le_refl _)
   rw [if_pos h2]
   refine ⟨[op0 2],s.drop 1,?_,by rw [List.length_singleton,List.length_drop];omega,by rw [List.length_drop];omega,fun p t e=>by cases e;exact ⟨rfl,rfl⟩⟩
   rcases no2 f1 with ⟨n1,n2⟩ | n1
   all_goals
    refine PC.walk tok mixed cfg0 Tryz.func196 rfl Tryz.call196 (by simp [fmN,fm0,belAll_append]) (by first | rfl | simp [fmN,fm0,belAll_append]) ?_;simp (maxSteps:=2000000) -implicitDefEqProofs +contextual (disch:=first | assumption | omega | decide +kernel) only [push_cast,↓capI,seval,Nat.reduceLeDiff,Nat.reduceEqDiff,reduceCtorEq,↓reduceIte,Tryz.ntmps196]
    (try simp (maxSteps:=2000000) -implicitDefEqProofs +contextual (disch:=first | assumption | omega | decide +kernel) only [push_cast,↓capI,seval,Nat.reduceLeDiff,Nat.reduceEqDiff,reduceCtorEq,↓reduceIte,n1,n2])
    (try simp (maxSteps:=2000000) -implicitDefEqProofs +contextual (disch:=first | assumption | omega | decide +kernel) only [push_cast,↓capI,seval,Nat.reduceLeDiff,Nat.reduceEqDiff,reduceCtorEq,↓reduceIte,n1])
    refine callO.pc g2 ?_
    simp (maxSteps:=2000000) -implicitDefEqProofs +contextual (disch:=first | assumption | omega | decide +kernel) only [push_cast,↓capI,seval,Nat.reduceLeDiff,Nat.reduceEqDiff,reduceCtorEq,↓reduceIte,hd1]
    refine endK.ret ?_ (by first | rfl | simp [fmN,fm0,belAll_append]);simp [fmN,fm0,belAll_append,fzs_ok,imp,lenOK_iff,List.take_of_length_le,evRes,getT,getO,setO,fzs,fz,fzH,Nat.beq,retV,Res.then,ldT,ldR,mkV,getV,fmN,fm0,take_N,toN1,slN_nil,encN,slN,cfg0,take_rest,ibeq_dec,st_M,os_M,encPR,slM_sl,ones_N,cfgJ,len_flat lenN,Tryz.f196,encPR,tt_147,slM_sl,fmN,fm0,op0,hd1]
  have f2:=Bool.eq_false_iff.2 h2
  have g2:=pc52n s 46 46 rfl _ f2
  rw [if_neg h2]
  by_cases h3:begins s [40]=true
  ·have hl:=begins_le h3
   simp only [List.length_cons,List.length_nil] at hl
   have hd:(s.drop 1).length=s.length-1:=List.length_drop
   have hd1:(s.drop 1).take (s.length-1)=s.drop 1:=List.take_of_length_le (by omega)
   have g3:=pc52n s 40 40 rfl _ h3
   have eA:=pAtm_eats k
   have eS:=pStr_eats eA
   have eC:Eats (lstP (pStr (pAtm k)) 4 44):=lstP_eats eS (.inl rfl)
   obtain ⟨l,r,g,e0,e1,e2⟩:=pcL37 (n:=k) (by omega) eC (fun s hs=>pcL51 (n:=k) (by omega) eS (fun s hs=>pcR60 (n:=k) (by omega) eA ih s hs) s hs) (s.drop 1) (by omega)
   rw [if_pos h3]
   cases hn:lstP (lstP (pStr (pAtm k)) 4 44) 5 124 (s.drop 1) with
   | none =>
    rw [hn] at g
    refine ⟨[],[],?_,Nat.zero_le _,Nat.zero_le _,fun p t e=>by cases e⟩
    rcases no2 f1 with ⟨n1,n2⟩ | n1
    all_goals
     refine PC.walk tok mixed cfg0 Tryz.func196 rfl Tryz.call196 (by simp [fmN,fm0,belAll_append]) (by first | rfl | simp [fmN,fm0,belAll_append]) ?_;simp (maxSteps:=2000000) -implicitDefEqProofs +contextual (disch:=first | assumption | omega | decide +kernel) only [push_cast,↓capI,seval,Nat.reduceLeDiff,Nat.reduceEqDiff,reduceCtorEq,↓reduceIte,Tryz.ntmps196]
     (try simp (maxSteps:=2000000) -implicitDefEqProofs +contextual (disch:=first | assumption | omega | decide +kernel) only [push_cast,↓capI,seval,Nat.reduceLeDiff,Nat.reduceEqDiff,reduceCtorEq,↓reduceIte,n1,n2])
     (try simp (maxSteps:=2000000) -implicitDefEqProofs +contextual (disch:=first | assumption | omega | decide +kernel) only [push_cast,↓capI,seval,Nat.reduceLeDiff,Nat.reduceEqDiff,reduceCtorEq,↓reduceIte,n1])
     refine callO.pc g2 ?_
     simp (maxSteps:=2000000) -implicitDefEqProofs +contextual (disch:=first | assumption | omega | decide +kernel) only [push_cast,↓capI,seval,Nat.reduceLeDiff,Nat.reduceEqDiff,reduceCtorEq,↓reduceIte]
     refine callO.pc g3 ?_
     simp (maxSteps:=2000000) -implicitDefEqProofs +contextual (disch:=first | assumption | omega | decide +kernel) only [push_cast,↓capI,seval,Nat.reduceLeDiff,Nat.reduceEqDiff,reduceCtorEq,↓reduceIte,hd1]
     refine callO.pc g ?_
     simp (maxSteps:=2000000) -implicitDefEqProofs +contextual (disch:=first | assumption | omega | decide +kernel) only [push_cast,↓capI,seval,Nat.reduceLeDiff,Nat.reduceEqDiff,reduceCtorEq,↓reduceIte]
     refine endK.ret ?_ (by first | rfl | simp [fmN,fm0,belAll_append]);simp [fmN,fm0,belAll_append,fzs_ok,imp,lenOK_iff,List.take_of_length_le,evRes,getT,getO,setO,fzs,fz,fzH,Nat.beq,retV,Res.then,ldT,ldR,mkV,getV,fmN,fm0,take_N,toN1,slN_nil,encN,slN,cfg0,take_rest,ibeq_dec,st_M,os_M,encPR,slM_sl,ones_N,cfgJ,len_flat lenN,Tryz.f196,encPR,tt_147,slM_sl,fmN,fm0]
   | some q =>
    obtain ⟨p,u⟩:=q
    rw [hn] at g
    obtain ⟨q1,q2⟩:=e2 p u hn
    subst q1 q2
    simp only
    cases hb:begins r [41]
    ·have g5:=pc52n r 41 41 rfl _ hb
     rw [if_neg (by simp)]
     refine ⟨[],[],?_,Nat.zero_le _,Nat.zero_le _,fun p t e=>by cases e⟩
     rcases no2 f1 with ⟨n1,n2⟩ | n1
     all_goals
      refine PC.walk tok mixed cfg0 Tryz.func196 rfl Tryz.call196 (by simp [fmN,fm0,belAll_append]) (by first | rfl | simp [fmN,fm0,belAll_append]) ?_;simp (maxSteps:=2000000) -implicitDefEqProofs +contextual (disch:=first | assumption | omega | decide +kernel) only [push_cast,↓capI,seval,Nat.reduceLeDiff,Nat.reduceEqDiff,reduceCtorEq,↓reduceIte,Tryz.ntmps196]
      (try simp (maxSteps:=2000000) -implicitDefEqProofs +contextual (disch:=first | assumption | omega | decide +kernel) only [push_cast,↓capI,seval,Nat.reduceLeDiff,Nat.reduceEqDiff,reduceCtorEq,↓reduceIte,n1,n2])
      (try simp (maxSteps:=2000000) -implicitDefEqProofs +contextual (disch:=first | assumption | omega | decide +kernel) only [push_cast,↓capI,seval,Nat.reduceLeDiff,Nat.reduceEqDiff,reduceCtorEq,↓reduceIte,n1])
      refine callO.pc g2 ?_
      simp (maxSteps:=2000000) -implicitDefEqProofs +contextual (disch:=first | assumption | omega | decide +kernel) only [push_cast,↓capI,seval,Nat.reduceLeDiff,Nat.reduceEqDiff,reduceCtorEq,↓reduceIte]
      refine callO.pc g3 ?_
      simp (maxSteps:=2000000) -implicitDefEqProofs +contextual (disch:=first | assumption | omega | decide +kernel) only [push_cast,↓capI,seval,Nat.reduceLeDiff,Nat.reduceEqDiff,reduceCtorEq,↓reduceIte,hd1]
      refine callO.pc g ?_
      simp (maxSteps:=2000000) -implicitDefEqProofs +contextual (disch:=first | assumption | omega | decide +kernel) only [push_cast,↓capI,seval,Nat.reduceLeDiff,Nat.reduceEqDiff,reduceCtorEq,↓reduceIte]
      refine callO.pc g5 ?_
      simp (maxSteps:=2000000) -implicitDefEqProofs +contextual (disch:=first | assumption | omega | decide +kernel) only [push_cast,↓capI,seval,Nat.reduceLeDiff,Nat.reduceEqDiff,reduceCtorEq,↓reduceIte]
      refine endK.ret ?_ (by first | rfl | simp [fmN,fm0,belAll_append]);simp [fmN,fm0,belAll_append,fzs_ok,imp,lenOK_iff,List.take_of_length_le,evRes,getT,getO,setO,fzs,fz,fzH,Nat.beq,retV,Res.then,ldT,ldR,mkV,getV,fmN,fm0,take_N,toN1,slN_nil,encN,slN,cfg0,take_rest,ibeq_dec,st_M,os_M,encPR,slM_sl,ones_N,cfgJ,len_flat lenN,Tryz.f196,encPR,tt_147,slM_sl,fmN,fm0]
    ·have g5:=pc52n r 41 41 rfl _ hb
     have hbl:=begins_le hb
     simp only [List.length_cons,List.length_nil] at hbl
     have hdr:(r.drop 1).take (r.length-1)=r.drop 1:=List.take_of_length_le (by rw [List.length_drop];exact Nat.le_refl _)
     rw [if_pos rfl]
     refine ⟨flat p,r.drop 1,?_,by rw [List.length_drop];omega,by rw [List.length_drop];omega,fun p t e=>by cases e;exact ⟨rfl,rfl⟩⟩
     obtain ⟨n1,n2⟩:=(no2 f1).resolve_right (by omega)
     refine PC.walk tok mixed cfg0 Tryz.func196 rfl Tryz.call196 (by simp [fmN,fm0,belAll_append]) (by first | rfl | simp [fmN,fm0,belAll_append]) ?_;simp (maxSteps:=2000000) -implicitDefEqProofs +contextual (disch:=first | assumption | omega | decide +kernel) only [push_cast,↓capI,seval,Nat.reduceLeDiff,Nat.reduceEqDiff,reduceCtorEq,↓reduceIte,Tryz.ntmps196]
     (try simp (maxSteps:=2000000) -implicitDefEqProofs +contextual (disch:=first | assumption | omega | decide +kernel) only [push_cast,↓capI,seval,Nat.reduceLeDiff,Nat.reduceEqDiff,reduceCtorEq,↓reduceIte,n1,n2])
     refine callO.pc g2 ?_
     simp (maxSteps:=2000000) -implicitDefEqProofs +contextual (disch:=first | assumption | omega | decide +kernel) only [push_cast,↓capI,seval,Nat.reduceLeDiff,Nat.reduceEqDiff,reduceCtorEq,↓reduceIte]
     refine callO.pc g3 ?_
     simp (maxSteps:=2000000) -implicitDefEqProofs +contextual (disch:=first | assumption | omega | decide +kernel) only [push_cast,↓capI,seval,Nat.reduceLeDiff,Nat.reduceEqDiff,reduceCtorEq,↓reduceIte,hd1]
     refine callO.pc g ?_
     simp (maxSteps:=2000000) -implicitDefEqProofs +contextual (disch:=first | assumption | omega | decide +kernel) only [push_cast,↓capI,seval,Nat.reduceLeDiff,Nat.reduceEqDiff,reduceCtorEq,↓reduceIte]
     refine callO.pc g5 ?_
     simp (maxSteps:=2000000) -implicitDefEqProofs +contextual (disch:=first | assumption | omega | decide +kernel) only [push_cast,↓capI,seval,Nat.reduceLeDiff,Nat.reduceEqDiff,reduceCtorEq,↓reduceIte,hdr]
     refine endK.ret ?_ (by first | rfl | simp [fmN,fm0,belAll_append]);simp [fmN,fm0,belAll_append,fzs_ok,imp,lenOK_iff,List.take_of_length_le,evRes,getT,getO,setO,fzs,fz,fzH,Nat.beq,retV,Res.then,ldT,ldR,mkV,getV,fmN,fm0,take_N,toN1,slN_nil,encN,slN,cfg0,take_rest,ibeq_dec,st_M,os_M,encPR,slM_sl,ones_N,cfgJ,len_flat lenN,Tryz.f196,encPR,tt_147,slM_sl,fmN,fm0,hdr]
  rw [if_neg h3]
  exact pcR64n s (by omega) f1 f2 (Bool.eq_false_iff.2 h3)
theorem pcR37 (s:List UInt8) (hs:s.length≤100000):AnsR 88 s (pOr (s.length+1) s) :=
 have eA:=pAtm_eats (s.length+1)
 have eS:=pStr_eats eA
 pcL37 (n:=s.length+1) (by omega) (lstP_eats eS (.inl rfl)) (fun t ht=>pcL51 (n:=s.length+1) (by omega) eS (fun t ht=>pcR60 (n:=s.length+1) (by omega) eA (pcR64 (s.length+1) (by omega)) t ht) t ht) s (Nat.lt_succ_self _)
theorem pc52 (s:List UInt8):PC Tryz.prog 52 [.str s] (encMI (parP s)):=by
 by_cases h:16384<s.length
 ·have e:parP s=([],4):=by rw [parP,if_pos h]
  rw [e]
  refine PC.walk tok mixed cfg0 Tryz.func52 rfl Tryz.call52 (by simp [fmN,fm0,belAll_append]) (by first | rfl | simp [fmN,fm0,belAll_append]) ?_;simp (maxSteps:=2000000) -implicitDefEqProofs +contextual (disch:=first | assumption | omega | decide +kernel) only [push_cast,↓capI,seval,Nat.reduceLeDiff,Nat.reduceEqDiff,reduceCtorEq,↓reduceIte,Tryz.ntmps52]
  refine endK.ret ?_ (by first | rfl | simp [fmN,fm0,belAll_append]);simp [evRes,getT,retV,Tryz.f52,encMI,slM_nil]
 have e:parP s=parQ s (pOr (s.length+1) s):=by rw [parP,if_neg h]
 rw [e]
 obtain ⟨l,r,g,hl,hl2,hr⟩:=pcR37 s (by omega)
 have heat:=pOr_eats (s.length+1) s
 cases hx:pOr (s.length+1) s with
 | none =>
  rw [hx] at g
  refine PC.walk tok mixed cfg0 Tryz.func52 rfl Tryz.call52 (by simp [fmN,fm0,belAll_append]) (by first | rfl | simp [fmN,fm0,belAll_append]) ?_;simp (maxSteps:=2000000) -implicitDefEqProofs +contextual (disch:=first | assumption | omega | decide +kernel) only [push_cast,↓capI,seval,Nat.reduceLeDiff,Nat.reduceEqDiff,reduceCtorEq,↓reduceIte,Tryz.ntmps52]
  refine callO.pc g ?_
  simp (maxSteps:=2000000) -implicitDefEqProofs +contextual (disch:=first | assumption | omega | decide +kernel) only [push_cast,↓capI,seval,Nat.reduceLeDiff,Nat.reduceEqDiff,reduceCtorEq,↓reduceIte]
  refine endK.ret ?_ (by first | rfl | simp [fmN,fm0,belAll_append]);simp [evRes,getT,retV,Tryz.f52,parQ,encMI,slM_nil]
 | some q =>
  obtain ⟨p,t⟩:=q
  rw [hx] at g
  obtain ⟨q1,q2⟩:=hr p t hx
  subst q1 q2
  obtain ⟨hlen,hok⟩:=heat p _ hx
  cases r with
  | cons c u =>
   have hne:(c::u=[])=False:=eq_false (List.cons_ne_nil _ _)
   refine PC.walk tok mixed cfg0 Tryz.func52 rfl Tryz.call52 (by simp [fmN,fm0,belAll_append]) (by first | rfl | simp [fmN,fm0,belAll_append]) ?_;simp (maxSteps:=2000000) -implicitDefEqProofs +contextual (disch:=first | assumption | omega | decide +kernel) only [push_cast,↓capI,seval,Nat.reduceLeDiff,Nat.reduceEqDiff,reduceCtorEq,↓reduceIte,Tryz.ntmps52]
   refine callO.pc g ?_
   simp (maxSteps:=2000000) -implicitDefEqProofs +contextual (disch:=first | assumption | omega | decide +kernel) only [push_cast,↓capI,seval,Nat.reduceLeDiff,Nat.reduceEqDiff,reduceCtorEq,↓reduceIte,hne]
   refine endK.ret ?_ (by first | rfl | simp [fmN,fm0,belAll_append]);simp [evRes,getT,retV,Tryz.f52,parQ,encMI,slM_nil]
  | nil =>
   have hE:=flat_isE p
   by_cases h24:24<(flat p).length
   ·refine PC.walk tok mixed cfg0 Tryz.func52 rfl Tryz.call52 (by simp [fmN,fm0,belAll_append]) (by first | rfl | simp [fmN,fm0,belAll_append]) ?_;simp (maxSteps:=2000000) -implicitDefEqProofs +contextual (disch:=first | assumption | omega | decide +kernel) only [push_cast,↓capI,seval,Nat.reduceLeDiff,Nat.reduceEqDiff,reduceCtorEq,↓reduceIte,Tryz.ntmps52]
    refine callO.pc g ?_
    simp (maxSteps:=2000000) -implicitDefEqProofs +contextual (disch:=first | assumption | omega | decide +kernel) only [push_cast,↓capI,seval,Nat.reduceLeDiff,Nat.reduceEqDiff,reduceCtorEq,↓reduceIte,h24,hE]
    refine endK.ret ?_ (by first | rfl | simp [fmN,fm0,belAll_append]);simp [evRes,getT,retV,Tryz.f52,parQ,encMI,slM_nil,h24]
   ·have i1:=pc78 (flat p) (by omega) p 0 [] hok (by rw [List.drop_zero,List.append_nil])
    by_cases ht:tx p=s
    ·refine PC.walk tok mixed cfg0 Tryz.func52 rfl Tryz.call52 (by simp [fmN,fm0,belAll_append]) (by first | rfl | simp [fmN,fm0,belAll_append]) ?_;simp (maxSteps:=2000000) -implicitDefEqProofs +contextual (disch:=first | assumption | omega | decide +kernel) only [push_cast,↓capI,seval,Nat.reduceLeDiff,Nat.reduceEqDiff,reduceCtorEq,↓reduceIte,Tryz.ntmps52]
     refine callO.pc g ?_
     simp (maxSteps:=2000000) -implicitDefEqProofs +contextual (disch:=first | assumption | omega | decide +kernel) only [push_cast,↓capI,seval,Nat.reduceLeDiff,Nat.reduceEqDiff,reduceCtorEq,↓reduceIte,h24,hE]
     refine callO.pc i1 ?_
     simp (maxSteps:=2000000) -implicitDefEqProofs +contextual (disch:=first | assumption | omega | decide +kernel) only [push_cast,↓capI,seval,Nat.reduceLeDiff,Nat.reduceEqDiff,reduceCtorEq,↓reduceIte,ht]
     refine endK.ret ?_ (by first | rfl | simp [fmN,fm0,belAll_append]);simp [evRes,getT,retV,Tryz.f52,parQ,encMI,slM_cons (flat_ne p),h24,ht,slN]
    ·refine PC.walk tok mixed cfg0 Tryz.func52 rfl Tryz.call52 (by simp [fmN,fm0,belAll_append]) (by first | rfl | simp [fmN,fm0,belAll_append]) ?_;simp (maxSteps:=2000000) -implicitDefEqProofs +contextual (disch:=first | assumption | omega | decide +kernel) only [push_cast,↓capI,seval,Nat.reduceLeDiff,Nat.reduceEqDiff,reduceCtorEq,↓reduceIte,Tryz.ntmps52]
     refine callO.pc g ?_
     simp (maxSteps:=2000000) -implicitDefEqProofs +contextual (disch:=first | assumption | omega | decide +kernel) only [push_cast,↓capI,seval,Nat.reduceLeDiff,Nat.reduceEqDiff,reduceCtorEq,↓reduceIte,h24,hE]
     refine callO.pc i1 ?_
     simp (maxSteps:=2000000) -implicitDefEqProofs +contextual (disch:=first | assumption | omega | decide +kernel) only [push_cast,↓capI,seval,Nat.reduceLeDiff,Nat.reduceEqDiff,reduceCtorEq,↓reduceIte,ht]
     refine endK.ret ?_ (by first | rfl | simp [fmN,fm0,belAll_append]);simp [evRes,getT,retV,Tryz.f52,parQ,encMI,slM_nil,h24,ht]
end
end Go.Proofs.YtlbmbbaefncleaaGreatDoor.Px
namespace Go.Proofs.YtlbmbbaefncleaaGreatDoor.Pd
open Go.Vm Px
section
def okN (s:List UInt8):Bool:=(parseI (digs s)).2&&decide ((parseI (digs s)).1≤255)
def encNR (s:List UInt8):V:=.tup [.int .i64 (parseI (digs s)).1,.str (dropD s),.bool (okN s)]
@[simp] theorem bel_NR {n:Nat} {s:List UInt8}:(encNR s).bel n=true:=rfl
def encPR (l:List Nd) (r:List UInt8) (ok:Bool):V:=.agg [slM l,.str r,.bool ok]
@[simp] theorem bel_PR {n:Nat} {l:List Nd} {r:List UInt8} {ok:Bool}:(encPR l r ok).bel n=true:=by simp [encPR,bel_agg,belAll_cons,belAll_nil,bel_slM]
def AnsR (F:Nat) (xs:List V) (s:List UInt8) (R:PR):Prop :=
 ∃(l:List Nd) (r:List UInt8),PC Tryz.prog F xs (encPR l r R.isSome)∧l.length+r.length≤s.length∧∀p t,R=some (p,t)→l=flat p∧r=t
attribute [local push_cast] fmN fm0 take_N toN1 slN_nil cfg0 take_rest ibeq_dec encN slN
theorem pc137 (s p:List UInt8):PC Tryz.prog 137 [.str s,.str p] (.bool (begins s p)):=by
 refine PC.walk tok mixed cfg0 Tryz.func137 rfl Tryz.call137 (by simp [bel_encDR,bel_encIB]) (by first | rfl | simp [bel_encDR,bel_encIB]) ?_;refine vms1 Tryz.ntmps137 ?_
 refine ⟨fun h=>?_,fun h=>?_⟩
 ·refine endK.ret ?_ (by first | rfl | simp [bel_encDR,bel_encIB]);simp [evRes,getT,retV,Tryz.f137,begins,h]
 ·refine endK.ret ?_ (by first | rfl | simp [bel_encDR,bel_encIB]);simp [evRes,getT,retV,Tryz.f137,begins,h]
theorem digs_get:∀ {s:List UInt8} {i:Nat},i<(digs s).length→∃h:i<s.length,isDig s[i]=true
 | [],i,h=>by cases h
 | c::s,i,h=>by
  rw [digs,List.takeWhile_cons] at h
  cases hc:isDig c
  ·rw [hc,if_neg (by simp)] at h;cases h
  ·rw [hc,if_pos rfl,List.length_cons] at h
   cases i with
   | zero=>exact ⟨Nat.succ_pos _,hc⟩
   | succ i =>
    obtain ⟨h1,h2⟩:=digs_get (s:=s) (i:=i) (Nat.lt_of_succ_lt_succ h)
    exact ⟨Nat.succ_lt_succ h1,h2⟩
theorem digs_end:∀ {s:List UInt8} (h:(digs s).length<s.length),isDig s[(digs s).length]=false
 | [],h=>by cases h
 | c::s,h=>by
  cases hc:isDig c
  ·have e:digs (c::s)=[]:=by rw [digs,List.takeWhile_cons,if_neg (by rw [hc];simp)]
   simp only [e,List.length_nil,List.getElem_cons_zero]
   exact hc
  ·have e:digs (c::s)=c::digs s:=by rw [digs,List.takeWhile_cons,if_pos hc];rfl
   rw [e,List.length_cons,List.length_cons] at h
   have ih:=digs_end (s:=s) (Nat.lt_of_succ_lt_succ h)
   simp only [e,List.length_cons,List.getElem_cons_succ]
   exact ih
theorem pc217 (s:List UInt8) (hs:s.length≤4000000000):PC Tryz.prog 217 [.str s] (encNR s):=by
 have hl:=dropD_len s
 have hlen:s.length-(dropD s).length=(digs s).length:=by omega
 have ht:=(take_digs s).1
 have hd:=(take_digs s).2
 rw [hlen] at ht hd
 have h96:=pc86 (digs s) (by omega) (digs_all s)
 have hg:=fun i=>@digs_get s i
 have he:=@digs_end s
 rw [encIB] at h96
 have hkl:(digs s).length≤s.length:=by omega
 unfold encNR okN
 generalize parseI (digs s)=r at h96 ⊢
 generalize hdd:dropD s=q at hd hl ⊢
 generalize digs s=d at *
 generalize hk:d.length=k at *
 have hql:min s.length (s.length-k)=s.length-k:=by omega
 have hqt:q.take (s.length-k)=q:=List.take_of_length_le (by omega)
 refine PC.walk tok mixed cfg0 Tryz.func217 rfl Tryz.call217 (by simp [bel_encDR,bel_encIB]) (by first | rfl | simp [bel_encDR,bel_encIB]) ?_;refine vms1 Tryz.ntmps217 ?_
 refine T.lp tok mixed cfg0 (fun (i:Nat)=>kp 1 (dd 4 (sv (.int .i64 i) (dd 36 (nl))))) (fun H0 (i:Nat)=>H0) (fun (i:Nat)=>i≤k) (fun (i:Nat)=>k-i) (0) ?_ ?_ ?_
 ·exact Nat.zero_le _
 ·exact Gn.canon (J:=[]) (by first | rfl | (simp [List.append_nil];done) | (simp [List.append_nil];rfl)) (by simp [wk,slN,putT,kp,dd,sv,nl]) (by simp [List.length_append]) (by simp [bel_encDR,bel_encIB,kp,dd,sv,nl]) (by simp [bel_encDR,bel_encIB])
 intro i hi
 by_cases hlt:i<k
 ·obtain ⟨h1,h2⟩:=hg i hlt
  have hgd:s.getD i 0=s[i]:=by rw [List.getD_eq_getElem?_getD,List.getElem?_eq_getElem h1];rfl
  obtain ⟨h48,h57⟩:=dig_range h2
  refine vms4 h1 hgd h48 h57 ?_
  refine ⟨i+1,by omega,by (try simp only);omega,?_⟩;exact Gn.canon (by first | rfl | (simp [List.append_nil];rfl)) (by simp [wk,slN]) (by simp [List.length_append]) (by simp [bel_encDR,bel_encIB]) (by simp [bel_encDR,bel_encIB])
 have hik:i=k:=by omega
 subst hik
 by_cases h1:i<s.length
 ·have h2:=he h1
  have hgd:s.getD i 0=s[i]:=by rw [List.getD_eq_getElem?_getD,List.getElem?_eq_getElem h1];rfl
  have hb:=s[i].toNat_lt
  simp only [isDig,Bool.and_eq_false_iff,decide_eq_false_iff_not] at h2
  by_cases h48:48≤s[i].toNat
  ·have h57:¬s[i].toNat≤57:=by omega
   refine vms4 h1 hgd h48 h57 ?_
   refine callO.pc (by rw [Nat.sub_zero,ht];exact h96) ?_
   refine vms2 hd hqt ?_
   refine ⟨fun h=>?_,fun h=>?_⟩
   ·refine endK.ret ?_ (by first | rfl | simp [bel_encDR,bel_encIB]);simp [evRes,getT,retV,Tryz.f217]
   ·refine endK.ret ?_ (by first | rfl | simp [bel_encDR,bel_encIB]);simp [evRes,getT,retV,Tryz.f217]
  ·refine vms3 h1 hgd h48 ?_
   refine callO.pc (by rw [Nat.sub_zero,ht];exact h96) ?_
   refine vms2 hd hqt ?_
   refine ⟨fun h=>?_,fun h=>?_⟩
   ·refine endK.ret ?_ (by first | rfl | simp [bel_encDR,bel_encIB]);simp [evRes,getT,retV,Tryz.f217]
   ·refine endK.ret ?_ (by first | rfl | simp [bel_encDR,bel_encIB]);simp [evRes,getT,retV,Tryz.f217]
 ·refine vms1 h1 ?_
  refine callO.pc (by rw [Nat.sub_zero,ht];exact h96) ?_
  refine vms2 hd hqt ?_
  refine ⟨fun h=>?_,fun h=>?_⟩
  ·refine endK.ret ?_ (by first | rfl | simp [bel_encDR,bel_encIB]);simp [evRes,getT,retV,Tryz.f217]
  ·refine endK.ret ?_ (by first | rfl | simp [bel_encDR,bel_encIB]);simp [evRes,getT,retV,Tryz.f217]
theorem andself (v m:UInt8):(ibits BinOp.and IntKind.u8 v.toNat m.toNat=v.toNat)=(v &&& ~~~ m=0):=by
 rw [and8,eq8]
 exact propext (and_self_iff8 v m)
theorem and255s (v:UInt8):(ibits BinOp.and IntKind.u8 v.toNat 255=v.toNat)=True:=by
 have h:=andself v 255
 rw [show ((255:UInt8).toNat:Int)=255 from rfl] at h
 rw [h]
 exact eq_true UInt8.and_zero
theorem pc74r (i:Int) (s:List UInt8) (hs:s.length≤100000):∃(l:List Nd) (r:List UInt8),PC Tryz.prog 195 [.int .i64 i,.str s] (encPR l r (pTest i s).isSome)∧l.length≤1∧r.length≤s.length∧∀p t,pTest i s=some (p,t)→l=flat p∧r=t:=by
 have h1:=dropD_len s
 have h2:=dropD_len ((dropD s).drop 1)
 rw [List.length_drop] at h2
 have g1:=pc217 s (by omega)
 have g3:=pc217 ((dropD s).drop 1) (by rw [List.length_drop];omega)
 have g2:=pc137 (dropD s) [47]
 have n1:=parseI_nn (no_minus (digs_all s))
 have n3:=parseI_nn (no_minus (digs_all ((dropD s).drop 1)))
 rw [encNR] at g1 g3
 have e1:pnum s=if okN s=true then some (UInt8.ofNat (parseI (digs s)).1.toNat) else none:=by
  rw [pnum,okN]
  simp only [Bool.and_eq_true,decide_eq_true_eq]
 have e3:pnum ((dropD s).drop 1)=if okN ((dropD s).drop 1)=true then some (UInt8.ofNat (parseI (digs ((dropD s).drop 1))).1.toNat) else none:=by
  rw [pnum,okN]
  simp only [Bool.and_eq_true,decide_eq_true_eq]
 obtain ⟨a,ha⟩:∃a:Nat,(parseI (digs s)).1=(a:Int):=⟨_,(Int.toNat_of_nonneg n1).symm⟩
 obtain ⟨b,hb⟩:∃b:Nat,(parseI (digs ((dropD s).drop 1))).1=(b:Int):=⟨_,(Int.toNat_of_nonneg n3).symm⟩
 rw [ha,Int.toNat_natCast] at e1
 rw [hb,Int.toNat_natCast] at e3
 rw [ha] at g1
 rw [hb] at g3
 have wa:=u8W a
 have wb:=u8W b
 rw [pTest,e1]
 cases hv:okN s
 ·rw [hv] at g1
  rw [if_neg (by simp)]
  refine ⟨[⟨3,i,UInt8.ofNat a,255⟩],dropD s,?_,by simp,by omega,fun p t e=>by cases e⟩
  refine PC.walk tok mixed cfg0 Tryz.func195 rfl Tryz.call195 (by simp [bel_encDR,bel_encIB]) (by first | rfl | simp [bel_encDR,bel_encIB]) ?_;refine vms1 Tryz.ntmps195 ?_
  refine callO.pc g1 ?_
  simp (maxSteps:=2000000) -implicitDefEqProofs +contextual (disch:=first | assumption | omega | decide +kernel) only [push_cast,↓capI,seval,Nat.reduceLeDiff,Nat.reduceEqDiff,reduceCtorEq,↓reduceIte,wa]
  refine endK.ret ?_ (by first | rfl | simp [bel_encDR,bel_encIB]);simp [bel_encDR,bel_encIB,fzs_ok,imp,lenOK_iff,List.take_of_length_le,evRes,getT,getO,setO,fzs,fz,fzH,Nat.beq,retV,Res.then,ldT,ldR,mkV,getV,fmN,fm0,take_N,toN1,slN_nil,tt_3,tt_4,tt_5,tt_9,tt_54,tt_25,tt_104,tt_128,tt_144,tt_71,cfg0,take_rest,ibeq_dec,encN,slN,Tryz.f195,encPR,slM,slN,encN]
 rw [hv] at g1
 rw [if_pos rfl]
 simp only
 cases hbg:begins (dropD s) [47]
 ·rw [hbg] at g2
  rw [if_neg (by simp)]
  have hz:=and255s (UInt8.ofNat a)
  refine ⟨[⟨3,i,UInt8.ofNat a,255⟩],dropD s,?_,by simp,by omega,fun p t e=>by cases e;exact ⟨rfl,rfl⟩⟩
  refine PC.walk tok mixed cfg0 Tryz.func195 rfl Tryz.call195 (by simp [bel_encDR,bel_encIB]) (by first | rfl | simp [bel_encDR,bel_encIB]) ?_;refine vms1 Tryz.ntmps195 ?_
  refine callO.pc g1 ?_
  simp (maxSteps:=2000000) -implicitDefEqProofs +contextual (disch:=first | assumption | omega | decide +kernel) only [push_cast,↓capI,seval,Nat.reduceLeDiff,Nat.reduceEqDiff,reduceCtorEq,↓reduceIte,wa]
  refine callO.pc g2 ?_
  simp (maxSteps:=2000000) -implicitDefEqProofs +contextual (disch:=first | assumption | omega | decide +kernel) only [push_cast,↓capI,seval,Nat.reduceLeDiff,Nat.reduceEqDiff,reduceCtorEq,↓reduceIte,wa]
  refine vms1 hz ?_
  refine endK.ret ?_ (by first | rfl | simp [bel_encDR,bel_encIB]);simp [bel_encDR,bel_encIB,fzs_ok,imp,lenOK_iff,List.take_of_length_le,evRes,getT,getO,setO,fzs,fz,fzH,Nat.beq,retV,Res.then,ldT,ldR,mkV,getV,fmN,fm0,take_N,toN1,slN_nil,tt_3,tt_4,tt_5,tt_9,tt_54,tt_25,tt_104,tt_128,tt_144,tt_71,cfg0,take_rest,ibeq_dec,encN,slN,Tryz.f195,encPR,slM,slN,encN]
 ·rw [hbg] at g2
  rw [if_pos rfl,e3]
  have hl1:=begins_le hbg
  simp only [List.length_cons,List.length_nil] at hl1
  cases hv2:okN ((dropD s).drop 1)
  ·rw [hv2] at g3
   rw [if_neg (by simp)]
   refine ⟨[⟨3,i,UInt8.ofNat a,UInt8.ofNat b⟩],dropD ((dropD s).drop 1),?_,by simp,by omega,fun p t e=>by cases e⟩
   refine PC.walk tok mixed cfg0 Tryz.func195 rfl Tryz.call195 (by simp [bel_encDR,bel_encIB]) (by first | rfl | simp [bel_encDR,bel_encIB]) ?_;refine vms1 Tryz.ntmps195 ?_
   refine callO.pc g1 ?_
   simp (maxSteps:=2000000) -implicitDefEqProofs +contextual (disch:=first | assumption | omega | decide +kernel) only [push_cast,↓capI,seval,Nat.reduceLeDiff,Nat.reduceEqDiff,reduceCtorEq,↓reduceIte,wa]
   refine callO.pc g2 ?_
   simp (maxSteps:=2000000) -implicitDefEqProofs +contextual (disch:=first | assumption | omega | decide +kernel) only [push_cast,↓capI,seval,Nat.reduceLeDiff,Nat.reduceEqDiff,reduceCtorEq,↓reduceIte,wa]
   refine callO.pc g3 ?_
   simp (maxSteps:=2000000) -implicitDefEqProofs +contextual (disch:=first | assumption | omega | decide +kernel) only [push_cast,↓capI,seval,Nat.reduceLeDiff,Nat.reduceEqDiff,reduceCtorEq,↓reduceIte,wa,wb]
   refine endK.ret ?_ (by first | rfl | simp [bel_encDR,bel_encIB]);simp [bel_encDR,bel_encIB,fzs_ok,imp,lenOK_iff,List.take_of_length_le,evRes,getT,getO,setO,fzs,fz,fzH,Nat.beq,retV,Res.then,ldT,ldR,mkV,getV,fmN,fm0,take_N,toN1,slN_nil,tt_3,tt_4,tt_5,tt_9,tt_54,tt_25,tt_104,tt_128,tt_144,tt_71,cfg0,take_rest,ibeq_dec,encN,slN,Tryz.f195,encPR,slM,slN,encN]
  ·rw [hv2] at g3
   rw [if_pos rfl]
   simp only
   have hz:=andself (UInt8.ofNat a) (UInt8.ofNat b)
   by_cases h0:UInt8.ofNat a &&& ~~~ UInt8.ofNat b=0
   ·rw [if_pos h0]
    refine ⟨[⟨3,i,UInt8.ofNat a,UInt8.ofNat b⟩],dropD ((dropD s).drop 1),?_,by simp,by omega,fun p t e=>by cases e;exact ⟨rfl,rfl⟩⟩
    refine PC.walk tok mixed cfg0 Tryz.func195 rfl Tryz.call195 (by simp [bel_encDR,bel_encIB]) (by first | rfl | simp [bel_encDR,bel_encIB]) ?_;refine vms1 Tryz.ntmps195 ?_
    refine callO.pc g1 ?_
    simp (maxSteps:=2000000) -implicitDefEqProofs +contextual (disch:=first | assumption | omega | decide +kernel) only [push_cast,↓capI,seval,Nat.reduceLeDiff,Nat.reduceEqDiff,reduceCtorEq,↓reduceIte,wa]
    refine callO.pc g2 ?_
    simp (maxSteps:=2000000) -implicitDefEqProofs +contextual (disch:=first | assumption | omega | decide +kernel) only [push_cast,↓capI,seval,Nat.reduceLeDiff,Nat.reduceEqDiff,reduceCtorEq,↓reduceIte,wa]
    refine callO.pc g3 ?_
    simp (maxSteps:=2000000) -implicitDefEqProofs +contextual (disch:=first | assumption | omega | decide +kernel) only [push_cast,↓capI,seval,Nat.reduceLeDiff,Nat.reduceEqDiff,reduceCtorEq,↓reduceIte,wa,wb,hz,h0]
    refine endK.ret ?_ (by first | rfl | simp [bel_encDR,bel_encIB]);simp [bel_encDR,bel_encIB,fzs_ok,imp,lenOK_iff,List.take_of_length_le,evRes,getT,getO,setO,fzs,fz,fzH,Nat.beq,retV,Res.then,ldT,ldR,mkV,getV,fmN,fm0,take_N,toN1,slN_nil,tt_3,tt_4,tt_5,tt_9,tt_54,tt_25,tt_104,tt_128,tt_144,tt_71,cfg0,take_rest,ibeq_dec,encN,slN,Tryz.f195,encPR,slM,slN,encN,hz,h0]
   ·rw [if_neg h0]
    refine ⟨[⟨3,i,UInt8.ofNat a,UInt8.ofNat b⟩],dropD ((dropD s).drop 1),?_,by simp,by omega,fun p t e=>by cases e⟩
    refine PC.walk tok mixed cfg0 Tryz.func195 rfl Tryz.call195 (by simp [bel_encDR,bel_encIB]) (by first | rfl | simp [bel_encDR,bel_encIB]) ?_;refine vms1 Tryz.ntmps195 ?_
    refine callO.pc g1 ?_
    simp (maxSteps:=2000000) -implicitDefEqProofs +contextual (disch:=first | assumption | omega | decide +kernel) only [push_cast,↓capI,seval,Nat.reduceLeDiff,Nat.reduceEqDiff,reduceCtorEq,↓reduceIte,wa]
    refine callO.pc g2 ?_
    simp (maxSteps:=2000000) -implicitDefEqProofs +contextual (disch:=first | assumption | omega | decide +kernel) only [push_cast,↓capI,seval,Nat.reduceLeDiff,Nat.reduceEqDiff,reduceCtorEq,↓reduceIte,wa]
    refine callO.pc g3 ?_
    simp (maxSteps:=2000000) -implicitDefEqProofs +contextual (disch:=first | assumption | omega | decide +kernel) only [push_cast,↓capI,seval,Nat.reduceLeDiff,Nat.reduceEqDiff,reduceCtorEq,↓reduceIte,wa,wb,hz,h0]
    refine endK.ret ?_ (by first | rfl | simp [bel_encDR,bel_encIB]);simp [bel_encDR,bel_encIB,fzs_ok,imp,lenOK_iff,List.take_of_length_le,evRes,getT,getO,setO,fzs,fz,fzH,Nat.beq,retV,Res.then,ldT,ldR,mkV,getV,fmN,fm0,take_N,toN1,slN_nil,tt_3,tt_4,tt_5,tt_9,tt_54,tt_25,tt_104,tt_128,tt_144,tt_71,cfg0,take_rest,ibeq_dec,encN,slN,Tryz.f195,encPR,slM,slN,encN,hz,h0]
end
section
theorem slM_sl {l:List Nd}:slM l=.sl l.isEmpty (l.flatMap encN) l.length:=by cases l<;>rfl
theorem pc48m (o:Int) (a b:List Nd) (ha:a.length≤4000000) (hb:b.length≤4000000):PC Tryz.prog 138 [.int .i64 o,slM a,slM b] (slM (jn o a b)):=by
 have h:=pc138 o a b ha hb
 rw [slM_cons (l:=jn o a b) (List.cons_ne_nil _ _)]
 refine PC.lax ?_
 rw [laxs,laxs,laxs,lax_M,lax_M]
 exact h
attribute [local push_cast] fmN fm0 take_N toN1 slN_nil cfg0 take_rest ibeq_dec encN slN st_M os_M encPR slM_sl
theorem pcL46 {nx:List UInt8→PR} {n:Nat} (hn:n≤100001) (h:∀s,s.length<n→AnsR 171 [.str s] s (nx s)) (s:List UInt8) (hs:s.length<n):AnsR 136 [.str s] s (lstP nx 5 38 s):=by
 have hc:∃(fl:List UInt8→List Nd) (fr:List UInt8→List UInt8),∀s,s.length<n→PC Tryz.prog 171 [.str s] (encPR (fl s) (fr s) (nx s).isSome) ∧
   (fl s).length+(fr s).length≤s.length∧∀p t,nx s=some (p,t)→fl s=flat p∧fr s=t:=by
  refine ⟨fun s=>if h1:s.length<n then (h s h1).choose else [],fun s=>if h1:s.length<n then (h s h1).choose_spec.choose else [],fun s h1=>?_⟩
  simp only [dif_pos h1]
  exact (h s h1).choose_spec.choose_spec
 obtain ⟨fl,fr,hf⟩:=hc
 have h0:=hf s hs
 have law:=lstF_law (nx:=nx) (fl:=fl) (fr:=fr) (o:=5) (c:=38) (n:=n) (fun s hs=>(hf s hs).2) ((fr s).length+1) (fl s) (nx s) (fr s) h0.2.2 (Nat.lt_succ_self _) (by omega)
 have eP:(nx s).bind (fun q=>lst nx 5 38 ((fr s).length+1) q.1 q.2)=lstP nx 5 38 s:=by
  rw [lstP]
  cases hx:nx s with
  | none=>rfl
  | some q =>
   obtain ⟨p,t⟩:=q
   rw [(h0.2.2 p t hx).2]
   rfl
 rw [eP] at law
 generalize hR:lstF nx fl fr 5 38 ((fr s).length+1) (fl s) (nx s).isSome (fr s)=R at law
 obtain ⟨L,U,OK⟩:=R
 simp only at law
 refine ⟨L,U,?_,by omega,law.2.2⟩
 rw [←law.2.1]
 have g0:=h0.1
 refine PC.walk tok mixed cfg0 Tryz.func136 rfl Tryz.call136 (by simp) (by first | rfl | simp) ?_;refine vms1 Tryz.ntmps136 ?_
 refine callO.pc g0 ?_
 refine vms0 ?_
 refine T.lp tok mixed cfg0 (fun ((l,ok,r):List Nd × Bool × List UInt8)=>dd 2 (kp 2 (dd 25 (nl)))) (fun H0 ((l,ok,r):List Nd × Bool × List UInt8)=>[.cells 0 [.sl true [] 0,.str [],.bool false],.cells 0 [.sl l.isEmpty (l.flatMap encN) l.length,.str r,.bool ok]]) (fun ((l,ok,r):List Nd × Bool × List UInt8)=>l.length+r.length≤s.length∧∃m,r.length<m∧lstF nx fl fr 5 38 m l ok r=(L,U,OK)) (fun ((l,ok,r):List Nd × Bool × List UInt8)=>r.length) ((fl s,(nx s).isSome,fr s)) ?_ ?_ ?_
 ·exact ⟨h0.2.1,_,Nat.lt_succ_self _,hR⟩
 ·exact Gn.canon (J:=[]) (by first | rfl | (simp [List.append_nil];done) | (simp [List.append_nil];rfl)) (by simp [wk,slN,putT,kp,dd,sv,nl]) (by simp [List.length_append]) (by simp [kp,dd,sv,nl]) (by simp)
 rintro ⟨l,ok,r⟩ ⟨hl,m,hm,he⟩
 cases m with
 | zero=>omega
 | succ m =>
 rw [lstF] at he
 cases ok
 ·rw [if_neg (by simp)] at he
  cases he
  refine vms0 ?_
  refine endK.retA ?_;simp [fzs_ok,imp,lenOK_iff,List.take_of_length_le,evRes,getT,getO,setO,fzs,fz,fzH,Nat.beq,retV,Res.then,ldT,ldR,mkV,getV,fmN,fm0,take_N,toN1,slN_nil,tt_3,tt_4,tt_5,tt_9,tt_54,tt_25,tt_104,tt_128,tt_144,tt_71,cfg0,take_rest,ibeq_dec,encN,slN,st_M,os_M,encPR,slM_sl,Tryz.f136,encPR]
 have g2:=pc137 r [38]
 cases hb:begins r [38]
 ·rw [hb] at g2
  rw [if_neg (by rw [hb];simp)] at he
  cases he
  refine vms0 ?_
  refine callO.pc g2 ?_
  refine vms0 ?_
  refine endK.retA ?_;simp [fzs_ok,imp,lenOK_iff,List.take_of_length_le,evRes,getT,getO,setO,fzs,fz,fzH,Nat.beq,retV,Res.then,ldT,ldR,mkV,getV,fmN,fm0,take_N,toN1,slN_nil,tt_3,tt_4,tt_5,tt_9,tt_54,tt_25,tt_104,tt_128,tt_144,tt_71,cfg0,take_rest,ibeq_dec,encN,slN,st_M,os_M,encPR,slM_sl,Tryz.f136,encPR]
 ·rw [hb] at g2
  have hbl:=begins_le hb
  simp only [List.length_cons,List.length_nil] at hbl
  have hd:(r.drop 1).length=r.length-1:=List.length_drop
  have hdt:(r.drop 1).take (r.length-1)=r.drop 1:=List.take_of_length_le (by omega)
  have hml:min (r.length-1) (r.length-1)=r.length-1:=Nat.min_self _
  have hy:=hf (r.drop 1) (by omega)
  have hj:=pc48m 5 l (fl (r.drop 1)) (by omega) (by omega)
  simp only [slM_sl] at hj
  rw [if_pos ⟨rfl,hb⟩] at he
  refine vms0 ?_
  refine callO.pc g2 ?_
  refine vms1 hdt ?_
  refine callO.pc hy.1 ?_
  refine vms0 ?_
  refine callG.pc1 hj ?_
  refine vms0 ?_
  refine ⟨(jn 5 l (fl (r.drop 1)),(nx (r.drop 1)).isSome,fr (r.drop 1)),⟨by (try simp only [jn_len]);omega,m,by (try simp only);omega,he⟩,by (try simp only);omega,?_⟩;exact Gn.canon (by first | rfl | (simp [List.append_nil];rfl)) (by simp [wk,slN]) (by simp [List.length_append]) (by simp) (by simp)
theorem pcL26 {nx:List UInt8→PR} {n:Nat} (hn:n≤100001) (h:∀s,s.length<n→AnsR 136 [.str s] s (nx s)) (s:List UInt8) (hs:s.length<n):AnsR 87 [.str s] s (lstP nx 6 124 s):=by
 have hc:∃(fl:List UInt8→List Nd) (fr:List UInt8→List UInt8),∀s,s.length<n→PC Tryz.prog 136 [.str s] (encPR (fl s) (fr s) (nx s).isSome) ∧
   (fl s).length+(fr s).length≤s.length∧∀p t,nx s=some (p,t)→fl s=flat p∧fr s=t:=by
  refine ⟨fun s=>if h1:s.length<n then (h s h1).choose else [],fun s=>if h1:s.length<n then (h s h1).choose_spec.choose else [],fun s h1=>?_⟩
  simp only [dif_pos h1]
  exact (h s h1).choose_spec.choose_spec
 obtain ⟨fl,fr,hf⟩:=hc
 have h0:=hf s hs
 have law:=lstF_law (nx:=nx) (fl:=fl) (fr:=fr) (o:=6) (c:=124) (n:=n) (fun s hs=>(hf s hs).2) ((fr s).length+1) (fl s) (nx s) (fr s) h0.2.2 (Nat.lt_succ_self _) (by omega)
 have eP:(nx s).bind (fun q=>lst nx 6 124 ((fr s).length+1) q.1 q.2)=lstP nx 6 124 s:=by
  rw [lstP]
  cases hx:nx s with
  | none=>rfl
  | some q =>
   obtain ⟨p,t⟩:=q
   rw [(h0.2.2 p t hx).2]
   rfl
 rw [eP] at law
 generalize hR:lstF nx fl fr 6 124 ((fr s).length+1) (fl s) (nx s).isSome (fr s)=R at law
 obtain ⟨L,U,OK⟩:=R
 simp only at law
 refine ⟨L,U,?_,by omega,law.2.2⟩
 rw [←law.2.1]
 have g0:=h0.1
 refine PC.walk tok mixed cfg0 Tryz.func87 rfl Tryz.call87 (by simp) (by first | rfl | simp) ?_;refine vms1 Tryz.ntmps87 ?_
 refine callO.pc g0 ?_
 refine vms0 ?_
 refine T.lp tok mixed cfg0 (fun ((l,ok,r):List Nd × Bool × List UInt8)=>dd 2 (kp 2 (dd 25 (nl)))) (fun H0 ((l,ok,r):List Nd × Bool × List UInt8)=>[.cells 0 [.sl true [] 0,.str [],.bool false],.cells 0 [.sl l.isEmpty (l.flatMap encN) l.length,.str r,.bool ok]]) (fun ((l,ok,r):List Nd × Bool × List UInt8)=>l.length+r.length≤s.length∧∃m,r.length<m∧lstF nx fl fr 6 124 m l ok r=(L,U,OK)) (fun ((l,ok,r):List Nd × Bool × List UInt8)=>r.length) ((fl s,(nx s).isSome,fr s)) ?_ ?_ ?_
 ·exact ⟨h0.2.1,_,Nat.lt_succ_self _,hR⟩
 ·exact Gn.canon (J:=[]) (by first | rfl | (simp [List.append_nil];done) | (simp [List.append_nil];rfl)) (by simp [wk,slN,putT,kp,dd,sv,nl]) (by simp [List.length_append]) (by simp [kp,dd,sv,nl]) (by simp)
 rintro ⟨l,ok,r⟩ ⟨hl,m,hm,he⟩
 cases m with
 | zero=>omega
 | succ m =>
 rw [lstF] at he
 cases ok
 ·rw [if_neg (by simp)] at he
  cases he
  refine vms0 ?_
  refine endK.retA ?_;simp [fzs_ok,imp,lenOK_iff,List.take_of_length_le,evRes,getT,getO,setO,fzs,fz,fzH,Nat.beq,retV,Res.then,ldT,ldR,mkV,getV,fmN,fm0,take_N,toN1,slN_nil,tt_3,tt_4,tt_5,tt_9,tt_54,tt_25,tt_104,tt_128,tt_144,tt_71,cfg0,take_rest,ibeq_dec,encN,slN,st_M,os_M,encPR,slM_sl,Tryz.f87,encPR]
 have g2:=pc137 r [124]
 cases hb:begins r [124]
 ·rw [hb] at g2
  rw [if_neg (by rw [hb];simp)] at he
  cases he
  refine vms0 ?_
  refine callO.pc g2 ?_
  refine vms0 ?_
  refine endK.retA ?_;simp [fzs_ok,imp,lenOK_iff,List.take_of_length_le,evRes,getT,getO,setO,fzs,fz,fzH,Nat.beq,retV,Res.then,ldT,ldR,mkV,getV,fmN,fm0,take_N,toN1,slN_nil,tt_3,tt_4,tt_5,tt_9,tt_54,tt_25,tt_104,tt_128,tt_144,tt_71,cfg0,take_rest,ibeq_dec,encN,slN,st_M,os_M,encPR,slM_sl,Tryz.f87,encPR]
 ·rw [hb] at g2
  have hbl:=begins_le hb
  simp only [List.length_cons,List.length_nil] at hbl
  have hd:(r.drop 1).length=r.length-1:=List.length_drop
  have hdt:(r.drop 1).take (r.length-1)=r.drop 1:=List.take_of_length_le (by omega)
  have hml:min (r.length-1) (r.length-1)=r.length-1:=Nat.min_self _
  have hy:=hf (r.drop 1) (by omega)
  have hj:=pc48m 6 l (fl (r.drop 1)) (by omega) (by omega)
  simp only [slM_sl] at hj
  rw [if_pos ⟨rfl,hb⟩] at he
  refine vms0 ?_
  refine callO.pc g2 ?_
  refine vms1 hdt ?_
  refine callO.pc hy.1 ?_
  refine vms0 ?_
  refine callG.pc1 hj ?_
  refine vms0 ?_
  refine ⟨(jn 6 l (fl (r.drop 1)),(nx (r.drop 1)).isSome,fr (r.drop 1)),⟨by (try simp only [jn_len]);omega,m,by (try simp only);omega,he⟩,by (try simp only);omega,?_⟩;exact Gn.canon (by first | rfl | (simp [List.append_nil];rfl)) (by simp [wk,slN]) (by simp [List.length_append]) (by simp) (by simp)
end
section
attribute [local push_cast] fmN fm0 take_N toN1 slN_nil cfg0 take_rest ibeq_dec encN slN st_M os_M encPR slM_sl
theorem pc63f (s:List UInt8) (hs:s.length≤100000) (hh:noHead s) (i0:Nat) (hi:i0≤2) (hb:∀j:Nat,j<i0→begins s (fname j++[61])=false) (h:begins s (fname i0++[61])=true)
  (l:List Nd) (r:List UInt8) (ok:Bool) (g:PC Tryz.prog 195 [.int .i64 i0,.str (s.drop ((fname i0).length+1))] (encPR l r ok)) :
  PC Tryz.prog 171 [.str s] (encPR l r ok):=by
 obtain ⟨h1,h2,h3,h4⟩:=hh
 have g1:=pc137 s [33]
 have g2:=pc137 s [116,114,117,101]
 have g3:=pc137 s [102,97,108,115,101]
 have g4:=pc137 s [40]
 rw [h1] at g1
 rw [h2] at g2
 rw [h3] at g3
 rw [h4] at g4
 have hl:=begins_le h
 rw [List.length_append,List.length_singleton] at hl
 refine PC.walk tok mixed cfg0 Tryz.func171 rfl Tryz.call171 (by simp) (by first | rfl | simp) ?_;refine vms1 Tryz.ntmps171 ?_
 refine callO.pc g1 ?_
 refine vms0 ?_
 refine callO.pc g2 ?_
 refine vms0 ?_
 refine callO.pc g3 ?_
 refine vms0 ?_
 refine callO.pc g4 ?_
 refine vms0 ?_
 refine T.lp tok mixed cfg0 (fun (i:Nat)=>kp 1 (dd 1 (kp 1 (dd 2 (sv (.int .i64 i) (dd 66 (nl))))))) (fun H0 (i:Nat)=>H0) (fun (i:Nat)=>i≤i0) (fun (i:Nat)=>3-i) (0) ?_ ?_ ?_
 ·exact Nat.zero_le _
 ·exact Gn.canon (J:=[]) (by first | rfl | (simp [List.append_nil];done) | (simp [List.append_nil];rfl)) (by simp [wk,slN,putT,kp,dd,sv,nl]) (by simp [List.length_append]) (by simp [kp,dd,sv,nl]) (by simp)
 intro i hi2
 have hlen:=fname_len4 i
 rw [List.length_append,List.length_singleton] at hlen
 have gi:=pc137 s (fname i++[61])
 refine vms0 ?_
 refine callO.pc (pc121 i) ?_
 refine vms0 ?_
 by_cases e:i=i0
 ·subst e
  rw [h] at gi
  refine callO.pc gi ?_
  refine vms0 ?_
  refine callO.pc (pc121 i) ?_
  have et:(((fname i).length:Int)+1).toNat=(fname i).length+1:=by omega
  refine vms0 ?_
  rw [et]
  refine callO.pc g ?_
  refine vms0 ?_
  refine endK.retA ?_;simp [fzs_ok,imp,lenOK_iff,List.take_of_length_le,evRes,getT,getO,setO,fzs,fz,fzH,Nat.beq,retV,Res.then,ldT,ldR,mkV,getV,fmN,fm0,take_N,toN1,slN_nil,tt_3,tt_4,tt_5,tt_9,tt_54,tt_25,tt_104,tt_128,tt_144,tt_71,cfg0,take_rest,ibeq_dec,encN,slN,st_M,os_M,encPR,slM_sl,Tryz.f171,encPR,slM_sl]
 ·rw [hb i (by omega)] at gi
  refine callO.pc gi ?_
  refine vms0 ?_
  refine ⟨i+1,by omega,by (try simp only);omega,?_⟩;exact Gn.canon (by first | rfl | (simp [List.append_nil];rfl)) (by simp [wk,slN]) (by simp [List.length_append]) (by simp) (by simp)
theorem pc63n (s:List UInt8) (hs:s.length≤100000) (hh:noHead s) (hb:∀j:Nat,j<3→begins s (fname j++[61])=false) :
  PC Tryz.prog 171 [.str s] (encPR [] [] false):=by
 obtain ⟨h1,h2,h3,h4⟩:=hh
 have g1:=pc137 s [33]
 have g2:=pc137 s [116,114,117,101]
 have g3:=pc137 s [102,97,108,115,101]
 have g4:=pc137 s [40]
 rw [h1] at g1
 rw [h2] at g2
 rw [h3] at g3
 rw [h4] at g4
 refine PC.walk tok mixed cfg0 Tryz.func171 rfl Tryz.call171 (by simp) (by first | rfl | simp) ?_;refine vms1 Tryz.ntmps171 ?_
 refine callO.pc g1 ?_
 refine vms0 ?_
 refine callO.pc g2 ?_
 refine vms0 ?_
 refine callO.pc g3 ?_
 refine vms0 ?_
 refine callO.pc g4 ?_
 refine vms0 ?_
 refine T.lp tok mixed cfg0 (fun (i:Nat)=>kp 1 (dd 1 (kp 1 (dd 2 (sv (.int .i64 i) (dd 66 (nl))))))) (fun H0 (i:Nat)=>H0) (fun (i:Nat)=>i≤3) (fun (i:Nat)=>3-i) (0) ?_ ?_ ?_
 ·exact Nat.zero_le _
 ·exact Gn.canon (J:=[]) (by first | rfl | (simp [List.append_nil];done) | (simp [List.append_nil];rfl)) (by simp [wk,slN,putT,kp,dd,sv,nl]) (by simp [List.length_append]) (by simp [kp,dd,sv,nl]) (by simp)
 intro i hi2
 have hlen:=fname_len4 i
 rw [List.length_append,List.length_singleton] at hlen
 have gi:=pc137 s (fname i++[61])
 by_cases h:i<3
 ·rw [hb i h] at gi
  refine vms0 ?_
  refine callO.pc (pc121 i) ?_
  refine vms0 ?_
  refine callO.pc gi ?_
  refine vms0 ?_
  refine ⟨i+1,by omega,by (try simp only);omega,?_⟩;exact Gn.canon (by first | rfl | (simp [List.append_nil];rfl)) (by simp [wk,slN]) (by simp [List.length_append]) (by simp) (by simp)
 ·refine vms0 ?_
  refine endK.retA ?_;simp [fzs_ok,imp,lenOK_iff,List.take_of_length_le,evRes,getT,getO,setO,fzs,fz,fzH,Nat.beq,retV,Res.then,ldT,ldR,mkV,getV,fmN,fm0,take_N,toN1,slN_nil,tt_3,tt_4,tt_5,tt_9,tt_54,tt_25,tt_104,tt_128,tt_144,tt_71,cfg0,take_rest,ibeq_dec,encN,slN,st_M,os_M,encPR,slM_sl,Tryz.f171,encPR,slM_sl]
theorem pcFld (s:List UInt8) (hs:s.length≤100000) (hh:noHead s):AnsR 171 [.str s] s (pFld s):=by
 have key:∀i0:Nat,i0≤2→(∀j:Nat,j<i0→begins s (fname j++[61])=false)→begins s (fname i0++[61])=true→pFld s=pTest i0 (s.drop ((fname i0).length+1))→AnsR 171 [.str s] s (pFld s):=by
  intro i0 hi hb h e
  have hl:=begins_le h
  rw [List.length_append,List.length_singleton] at hl
  obtain ⟨l,r,g,g1,g2,g3⟩:=pc74r i0 (s.drop ((fname i0).length+1)) (by rw [List.length_drop];omega)
  rw [List.length_drop] at g2
  rw [e]
  exact ⟨l,r,pc63f s hs hh i0 hi hb h l r _ g,by omega,g3⟩
 cases b0:begins s (fname 0++[61])
 case true=>exact key 0 (by decide) (fun j hj=>absurd hj (Nat.not_lt_zero j)) b0 (by rw [pFld,if_pos b0];rfl)
 cases b1:begins s (fname 1++[61])
 case true =>
  refine key 1 (by decide) (fun j hj=>?_) b1 (by rw [pFld,if_neg (by rw [b0];simp),if_pos b1];rfl)
  have:j=0:=by omega
  rw [this];exact b0
 cases b2:begins s (fname 2++[61])
 case true =>
  refine key 2 (by decide) (fun j hj=>?_) b2 (by rw [pFld,if_neg (by rw [b0];simp),if_neg (by rw [b1];simp),if_pos b2];rfl)
  have:j=0∨j=1:=by omega
  rcases this with e | e<;>rw [e]<;>assumption
 have e:pFld s=none:=by
  rw [pFld,if_neg (by rw [b0];simp),if_neg (by rw [b1];simp),if_neg (by rw [b2];simp)]
 rw [e]
 refine ⟨[],[],pc63n s hs hh (fun j hj=>?_),by simp,fun p t e=>by cases e⟩
 have:j=0∨j=1∨j=2:=by omega
 rcases this with e | e | e<;>rw [e]<;>assumption
theorem pc63r:∀k,k≤100001→∀s:List UInt8,s.length<k→AnsR 171 [.str s] s (pNot k s)
 | 0,_,s,h=>absurd h (Nat.not_lt_zero _)
 | k+1,hk,s,hs=>by
  have ih:=pc63r k (by omega)
  have g1:=pc137 s [33]
  have g2:=pc137 s [116,114,117,101]
  have g3:=pc137 s [102,97,108,115,101]
  have g4:=pc137 s [40]
  have hd:(s.drop 1).length=s.length-1:=List.length_drop
  have hd1:(s.drop 1).take (s.length-1)=s.drop 1:=List.take_of_length_le (by omega)
  rw [pNot]
  by_cases h1:begins s [33]=true
  ·have hl:=begins_le h1
   simp only [List.length_cons,List.length_nil] at hl
   obtain ⟨l,r,g,e1,e2⟩:=ih (s.drop 1) (by omega)
   rw [h1] at g1
   rw [if_pos h1]
   have hj:=pc48m 4 l [] (by omega) (by simp)
   simp only [slM_sl,List.isEmpty_nil,List.flatMap_nil,List.length_nil] at hj
   refine ⟨jn 4 l [],r,?_,by rw [jn_len,List.length_nil];omega,?_⟩
   ·have e:((pNot k (s.drop 1)).map fun q=>(Pr.un (op0 4) q.1,q.2)).isSome=(pNot k (s.drop 1)).isSome:=by
     cases pNot k (s.drop 1)<;>rfl
    rw [e]
    refine PC.walk tok mixed cfg0 Tryz.func171 rfl Tryz.call171 (by simp) (by first | rfl | simp) ?_;refine vms1 Tryz.ntmps171 ?_
    refine callO.pc g1 ?_
    refine vms1 hd1 ?_
    refine callO.pc g ?_
    refine vms0 ?_
    refine callO.pc hj ?_
    refine vms0 ?_
    refine endK.retA ?_;simp [fzs_ok,imp,lenOK_iff,List.take_of_length_le,evRes,getT,getO,setO,fzs,fz,fzH,Nat.beq,retV,Res.then,ldT,ldR,mkV,getV,fmN,fm0,take_N,toN1,slN_nil,tt_3,tt_4,tt_5,tt_9,tt_54,tt_25,tt_104,tt_128,tt_144,tt_71,cfg0,take_rest,ibeq_dec,encN,slN,st_M,os_M,encPR,slM_sl,Tryz.f171,encPR,slM_sl]
   ·intro p t e
    cases hn:pNot k (s.drop 1) with
    | none=>rw [hn] at e;cases e
    | some q =>
     obtain ⟨y,u⟩:=q
     rw [hn] at e
     cases e
     obtain ⟨e1,e2⟩:=e2 _ _ hn
     refine ⟨?_,e2⟩
     rw [flat,←e1,jn,List.append_nil]
     rfl
  have f1:=Bool.eq_false_iff.2 h1
  rw [f1] at g1
  rw [if_neg h1]
  by_cases h2:begins s [116,114,117,101]=true
  ·have hl:=begins_le h2
   simp only [List.length_cons,List.length_nil] at hl
   rw [h2] at g2
   rw [if_pos h2]
   have hd4:(s.drop 4).take (s.length-4)=s.drop 4:=List.take_of_length_le (by rw [List.length_drop];exact Nat.le_refl _)
   refine ⟨[op0 1],s.drop 4,?_,by rw [List.length_singleton,List.length_drop];omega,fun p t e=>by cases e;exact ⟨rfl,rfl⟩⟩
   refine PC.walk tok mixed cfg0 Tryz.func171 rfl Tryz.call171 (by simp) (by first | rfl | simp) ?_;refine vms1 Tryz.ntmps171 ?_
   refine callO.pc g1 ?_
   refine vms0 ?_
   refine callO.pc g2 ?_
   refine vms1 hd4 ?_
   refine endK.retA ?_;simp [fzs_ok,imp,lenOK_iff,List.take_of_length_le,evRes,getT,getO,setO,fzs,fz,fzH,Nat.beq,retV,Res.then,ldT,ldR,mkV,getV,fmN,fm0,take_N,toN1,slN_nil,tt_3,tt_4,tt_5,tt_9,tt_54,tt_25,tt_104,tt_128,tt_144,tt_71,cfg0,take_rest,ibeq_dec,encN,slN,st_M,os_M,encPR,slM_sl,Tryz.f171,encPR,slM_sl,op0,hd4]
  have f2:=Bool.eq_false_iff.2 h2
  rw [f2] at g2
  rw [if_neg h2]
  by_cases h3:begins s [102,97,108,115,101]=true
  ·have hl:=begins_le h3
   simp only [List.length_cons,List.length_nil] at hl
   rw [h3] at g3
   rw [if_pos h3]
   have hd5:(s.drop 5).take (s.length-5)=s.drop 5:=List.take_of_length_le (by rw [List.length_drop];exact Nat.le_refl _)
   refine ⟨[op0 2],s.drop 5,?_,by rw [List.length_singleton,List.length_drop];omega,fun p t e=>by cases e;exact ⟨rfl,rfl⟩⟩
   refine PC.walk tok mixed cfg0 Tryz.func171 rfl Tryz.call171 (by simp) (by first | rfl | simp) ?_;refine vms1 Tryz.ntmps171 ?_
   refine callO.pc g1 ?_
   refine vms0 ?_
   refine callO.pc g2 ?_
   refine vms0 ?_
   refine callO.pc g3 ?_
   refine vms1 hd5 ?_
   refine endK.retA ?_;simp [fzs_ok,imp,lenOK_iff,List.take_of_length_le,evRes,getT,getO,setO,fzs,fz,fzH,Nat.beq,retV,Res.then,ldT,ldR,mkV,getV,fmN,fm0,take_N,toN1,slN_nil,tt_3,tt_4,tt_5,tt_9,tt_54,tt_25,tt_104,tt_128,tt_144,tt_71,cfg0,take_rest,ibeq_dec,encN,slN,st_M,os_M,encPR,slM_sl,Tryz.f171,encPR,slM_sl,op0,hd5]
  have f3:=Bool.eq_false_iff.2 h3
  rw [f3] at g3
  rw [if_neg h3]
  by_cases h4:begins s [40]=true
  ·have hl:=begins_le h4
   simp only [List.length_cons,List.length_nil] at hl
   rw [h4] at g4
   obtain ⟨l,r,g,e1,e2⟩:=pcL26 (n:=k) (by omega) (fun s hs=>pcL46 (n:=k) (by omega) ih s hs) (s.drop 1) (by omega)
   rw [if_pos h4]
   cases hn:lstP (lstP (pNot k) 5 38) 6 124 (s.drop 1) with
   | none =>
    rw [hn] at g
    refine ⟨[],[],?_,Nat.zero_le _,fun p t e=>by cases e⟩
    refine PC.walk tok mixed cfg0 Tryz.func171 rfl Tryz.call171 (by simp) (by first | rfl | simp) ?_;refine vms1 Tryz.ntmps171 ?_
    refine callO.pc g1 ?_
    refine vms1 hd1 ?_
    refine callO.pc g2 ?_
    refine vms0 ?_
    refine callO.pc g3 ?_
    refine vms0 ?_
    refine callO.pc g4 ?_
    refine vms0 ?_
    (try refine vms1 hd1 ?_)
    refine callO.pc g ?_
    refine vms0 ?_
    refine endK.retA ?_;simp [fzs_ok,imp,lenOK_iff,List.take_of_length_le,evRes,getT,getO,setO,fzs,fz,fzH,Nat.beq,retV,Res.then,ldT,ldR,mkV,getV,fmN,fm0,take_N,toN1,slN_nil,tt_3,tt_4,tt_5,tt_9,tt_54,tt_25,tt_104,tt_128,tt_144,tt_71,cfg0,take_rest,ibeq_dec,encN,slN,st_M,os_M,encPR,slM_sl,Tryz.f171,encPR,slM_sl]
   | some q =>
    obtain ⟨p,u⟩:=q
    rw [hn] at g
    obtain ⟨q1,q2⟩:=e2 p u hn
    subst q1 q2
    simp only
    have g5:=pc137 r [41]
    cases hb:begins r [41]
    ·rw [hb] at g5
     rw [if_neg (by simp)]
     refine ⟨[],[],?_,Nat.zero_le _,fun p t e=>by cases e⟩
     refine PC.walk tok mixed cfg0 Tryz.func171 rfl Tryz.call171 (by simp) (by first | rfl | simp) ?_;refine vms1 Tryz.ntmps171 ?_
     refine callO.pc g1 ?_
     refine vms0 ?_
     refine callO.pc g2 ?_
     refine vms0 ?_
     refine callO.pc g3 ?_
     refine vms0 ?_
     refine callO.pc g4 ?_
     refine vms0 ?_
     (try refine vms1 hd1 ?_)
     refine callO.pc g ?_
     refine vms0 ?_
     refine callO.pc g5 ?_
     refine vms0 ?_
     refine endK.retA ?_;simp [fzs_ok,imp,lenOK_iff,List.take_of_length_le,evRes,getT,getO,setO,fzs,fz,fzH,Nat.beq,retV,Res.then,ldT,ldR,mkV,getV,fmN,fm0,take_N,toN1,slN_nil,tt_3,tt_4,tt_5,tt_9,tt_54,tt_25,tt_104,tt_128,tt_144,tt_71,cfg0,take_rest,ibeq_dec,encN,slN,st_M,os_M,encPR,slM_sl,Tryz.f171,encPR,slM_sl]
    ·rw [hb] at g5
     have hbl:=begins_le hb
     simp only [List.length_cons,List.length_nil] at hbl
     have hdr:(r.drop 1).take (r.length-1)=r.drop 1:=List.take_of_length_le (by rw [List.length_drop];exact Nat.le_refl _)
     rw [if_pos rfl]
     refine ⟨flat p,r.drop 1,?_,by rw [List.length_drop];omega,fun p t e=>by cases e;exact ⟨rfl,rfl⟩⟩
     refine PC.walk tok mixed cfg0 Tryz.func171 rfl Tryz.call171 (by simp) (by first | rfl | simp) ?_;refine vms1 Tryz.ntmps171 ?_
     refine callO.pc g1 ?_
     refine vms0 ?_
     refine callO.pc g2 ?_
     refine vms0 ?_
     refine callO.pc g3 ?_
     refine vms0 ?_
     refine callO.pc g4 ?_
     refine vms0 ?_
     (try refine vms1 hd1 ?_)
     refine callO.pc g ?_
     refine vms0 ?_
     refine callO.pc g5 ?_
     refine vms1 hdr ?_
     refine endK.retA ?_;simp [fzs_ok,imp,lenOK_iff,List.take_of_length_le,evRes,getT,getO,setO,fzs,fz,fzH,Nat.beq,retV,Res.then,ldT,ldR,mkV,getV,fmN,fm0,take_N,toN1,slN_nil,tt_3,tt_4,tt_5,tt_9,tt_54,tt_25,tt_104,tt_128,tt_144,tt_71,cfg0,take_rest,ibeq_dec,encN,slN,st_M,os_M,encPR,slM_sl,Tryz.f171,encPR,slM_sl,hdr]
  rw [if_neg h4]
  exact pcFld s (by omega) ⟨f1,f2,f3,Bool.eq_false_iff.2 h4⟩
theorem pc26r (s:List UInt8) (hs:s.length≤100000):AnsR 87 [.str s] s (pOr (s.length+1) s) :=
 pcL26 (n:=s.length+1) (by omega) (fun t ht=>pcL46 (n:=s.length+1) (by omega) (pc63r (s.length+1) (by omega)) t ht) s (Nat.lt_succ_self _)
end
section
theorem flat_isE (p:Pr):(flat p).isEmpty=false:=by
 cases h:flat p with
 | nil=>exact absurd h (flat_ne p)
 | cons x l=>rfl
attribute [local push_cast] fmN fm0 take_N toN1 slN_nil cfg0 take_rest ibeq_dec encN slN st_M os_M encPR slM_sl
theorem pc51 (s:List UInt8):PC Tryz.prog 51 [.str s] (encMI (parP s)):=by
 by_cases h:16384<s.length
 ·have e:parP s=([],4):=by rw [parP,if_pos h]
  rw [e]
  refine PC.walk tok mixed cfg0 Tryz.func51 rfl Tryz.call51 (by simp) (by first | rfl | simp) ?_;refine vms1 Tryz.ntmps51 ?_
  refine endK.retA ?_;simp [evRes,getT,retV,Tryz.f51,encMI,slM_nil]
 have e:parP s=parQ s (pOr (s.length+1) s):=by rw [parP,if_neg h]
 rw [e]
 obtain ⟨l,r,g,hl,hr⟩:=pc26r s (by omega)
 have heat:=pOr_eats (s.length+1) s
 cases hx:pOr (s.length+1) s with
 | none =>
  rw [hx] at g
  refine PC.walk tok mixed cfg0 Tryz.func51 rfl Tryz.call51 (by simp) (by first | rfl | simp) ?_;refine vms1 Tryz.ntmps51 ?_
  refine callO.pc g ?_
  refine vms0 ?_
  refine endK.retA ?_;simp [evRes,getT,retV,Tryz.f51,parQ,encMI,slM_nil]
 | some q =>
  obtain ⟨p,t⟩:=q
  rw [hx] at g
  obtain ⟨q1,q2⟩:=hr p t hx
  subst q1 q2
  obtain ⟨hlen,hok⟩:=heat p _ hx
  cases r with
  | cons c u =>
   have hne:(c::u=[])=False:=eq_false (List.cons_ne_nil _ _)
   refine PC.walk tok mixed cfg0 Tryz.func51 rfl Tryz.call51 (by simp) (by first | rfl | simp) ?_;refine vms1 Tryz.ntmps51 ?_
   refine callO.pc g ?_
   refine vms1 hne ?_
   refine endK.retA ?_;simp [evRes,getT,retV,Tryz.f51,parQ,encMI,slM_nil]
  | nil =>
   have hE:=flat_isE p
   by_cases h24:24<(flat p).length
   ·refine PC.walk tok mixed cfg0 Tryz.func51 rfl Tryz.call51 (by simp) (by first | rfl | simp) ?_;refine vms1 Tryz.ntmps51 ?_
    refine callO.pc g ?_
    refine vms2 h24 hE ?_
    refine endK.retA ?_;simp [evRes,getT,retV,Tryz.f51,parQ,encMI,slM_nil,h24]
   ·have i1:=pc77 (flat p) (by omega) p 0 [] hok (by rw [List.drop_zero,List.append_nil])
    by_cases ht:tx p=s
    ·refine PC.walk tok mixed cfg0 Tryz.func51 rfl Tryz.call51 (by simp) (by first | rfl | simp) ?_;refine vms1 Tryz.ntmps51 ?_
     refine callO.pc g ?_
     refine vms2 h24 hE ?_
     refine callO.pc i1 ?_
     refine vms1 ht ?_
     refine endK.retA ?_;simp [evRes,getT,retV,Tryz.f51,parQ,encMI,slM_cons (flat_ne p),h24,ht,slN]
    ·refine PC.walk tok mixed cfg0 Tryz.func51 rfl Tryz.call51 (by simp) (by first | rfl | simp) ?_;refine vms1 Tryz.ntmps51 ?_
     refine callO.pc g ?_
     refine vms2 h24 hE ?_
     refine callO.pc i1 ?_
     refine vms1 ht ?_
     refine endK.retA ?_;simp [evRes,getT,retV,Tryz.f51,parQ,encMI,slM_nil,h24,ht]
end
end Go.Proofs.YtlbmbbaefncleaaGreatDoor.Pd
namespace Go.Proofs.YtlbmbbaefncleaaGreatDoor
open Go.Vm
section
def xR (x:Ru):List V:=[.int .i64 x.f,.int .i64 x.t,Pd.slM x.p,Px.slM x.q]
@[simp] theorem bel_xR {n:Nat} (x:Ru):belAll n (xR x)=true:=by simp [xR,belAll_cons,belAll_nil,Pd.bel_slM,Px.bel_slM,bel_int]
theorem cut_take {c:UInt8} {s:List UInt8} {a e:Nat} {x:UInt8} (hc:cutC c (s.drop a)=((s.drop a).take (e-a)++(cutC c (s.drop e)).1,(cutC c (s.drop e)).2.1,(cutC c (s.drop e)).2.2)) (hae:a≤e) (hx:s[e]? = some x) (hn:¬x=c) :
  cutC c (s.drop a)=((s.drop a).take (e+1-a)++(cutC c (s.drop (e+1))).1,(cutC c (s.drop (e+1))).2.1,(cutC c (s.drop (e+1))).2.2):=by
 obtain ⟨h1,h2⟩:=List.getElem?_eq_some_iff.1 hx
 have hd:s.drop e=x::s.drop (e+1):=by rw [List.drop_eq_getElem_cons h1,h2]
 rw [hc,hd,cutC,if_neg hn]
 have:(s.drop a).take (e+1-a)=(s.drop a).take (e-a)++[x]:=by
  rw [show e+1-a=(e-a)+1 by omega,List.take_add_one,List.getElem?_drop,show a+(e-a)=e by omega,hx]
  rfl
 rw [this,List.append_assoc]
 rfl
def phX (x:Ru):Ph→Prop
 | .a=>True
 | .b f t=>x=⟨f,t,[],[]⟩
 | .c f t p=>x=⟨f,t,p,[]⟩∧p≠[]
attribute [local push_cast] encR cfg0 ibeq_dec lfl_lenR Nat.mul_one Pd.slM_nil Px.slM_nil Pd.st_M Px.st_M
theorem pc14 (s:List UInt8) (hs:s.length≤4000000000):PC Tryz.prog 14 [.str s] (encPol (polP s)):=by
 refine PC.walk tok mixed cfg0 Tryz.func14 rfl Tryz.call14 (by simp [Pd.bel_slN,Px.bel_slN,Pd.bel_slM,Px.bel_slM,Pd.bel_MI,Px.bel_MI,belAll_append]) (bel_pol _) ?_;refine vms1 Tryz.ntmps14 ?_
 by_cases hl:16384<s.length
 ·have hl2:(16384:Int)<(s.length:Int):=by omega
  rw [polP,if_pos hl]
  refine vms1 hl2 ?_
  refine endK.ret ?_ (by first | rfl | simp [Pd.bel_slN,Px.bel_slN,Pd.bel_slM,Px.bel_slM,Pd.bel_MI,Px.bel_MI,belAll_append]);simp [evRes,getT,retV,Tryz.f14,encPol]
 rw [polP,if_neg hl]
 have hl2:¬(16384:Int)<(s.length:Int):=by omega
 refine vms1 hl2 ?_
 refine T.lp tok mixed cfg0 (fun ((k,n,d,ph,a,x,ver):Nat × Nat × List Ru × Ph × Nat × Ru × Nat)=>kp 1 (dd 4 (sv (.buf 1 ver 0 d.length 4) (kp 1 (sv (.int .i64 a) (sv (.int .i64 n) (dd 76 (nl)))))))) (fun H0 ((k,n,d,ph,a,x,ver):Nat × Nat × List Ru × Ph × Nat × Ru × Nat)=>[.cells 0 (xR x),.cells ver (d.flatMap encR)]) (fun ((k,n,d,ph,a,x,ver):Nat × Nat × List Ru × Ph × Nat × Ru × Nat)=>(s.length-a<k∧a≤s.length∧n≤a∧n=3*d.length+phN ph∧phX x ph∧d.length+(phN ph+1) / 2≤32)∧polF k n d ph (s.drop a)=polF (s.length+1) 0 [] .a s) (fun ((k,n,d,ph,a,x,ver):Nat × Nat × List Ru × Ph × Nat × Ru × Nat)=>s.length-a) ((s.length+1,0,[],.a,0,⟨0,0,[],[]⟩,0)) ?_ ?_ ?_
 ·exact ⟨⟨by simp,Nat.zero_le _,Nat.le_refl _,rfl,trivial,by decide⟩,rfl⟩
 ·refine (Gn.ownNil (t:=5) (sz:=4) rfl).trans ?_
  exact Gn.canon (J:=[]) (by first | rfl | (simp [List.append_nil,Pd.slN,Px.slN,Pd.slM_nil,Px.slM_nil];done) | (simp [List.append_nil,Pd.slN,Px.slN,Pd.slM_nil,Px.slM_nil];rfl)) (by simp [wk,Pd.slN,Px.slN,putT,kp,dd,sv,nl]) (by simp [List.length_append]) (by simp [Pd.bel_slN,Px.bel_slN,Pd.bel_slM,Px.bel_slM,Pd.bel_MI,Px.bel_MI,belAll_append,kp,dd,sv,nl]) (by simp [Pd.bel_slN,Px.bel_slN,Pd.bel_slM,Px.bel_slM,Pd.bel_MI,Px.bel_MI,belAll_append])
 rintro ⟨k,n,d,ph,a,x,ver⟩ ⟨⟨hk,ha,hna,hph,hx,hd⟩,hp⟩
 (try simp only at hk ha hna hph hx hd hp)
 obtain ⟨k,rfl⟩:∃g,k=g+1:=⟨k-1,by omega⟩
 rw [polF] at hp
 by_cases hq:a<s.length
 case neg =>
  have hae:a=s.length:=by omega
  subst hae
  rw [List.drop_length,if_pos rfl] at hp
  rw [←hp]
  cases ph with
  | a =>
   have h3:=m3_0 d.length
   rw [phN,Nat.add_zero] at hph
   rw [←hph] at h3
   refine vms1 h3 ?_
   refine endK.gn (Gn.freeze (id:=1) rfl) ?_;refine endK.ret ?_ (by first | rfl | simp [Pd.bel_slN,Px.bel_slN,Pd.bel_slM,Px.bel_slM,Pd.bel_MI,Px.bel_MI,belAll_append]);simp [Pd.bel_slN,Px.bel_slN,Pd.bel_slM,Px.bel_slM,Pd.bel_MI,Px.bel_MI,belAll_append,fzs_ok,imp,lenOK_iff,List.take_of_length_le,evRes,getT,getO,setO,fzs,fz,fzH,Nat.beq,retV,Res.then,ldT,ldR,mkV,getV,tt_3,tt_4,tt_5,tt_9,tt_22,tt_25,tt_54,tt_58,tt_60,encR,cfg0,ibeq_dec,len_flat lenR,Nat.mul_one,Pd.slM_nil,Px.slM_nil,Pd.st_M,Px.st_M,Tryz.f14,encPol,endP,slR]
  | b f t =>
   have h3:=m3_1 d.length
   rw [phN] at hph
   rw [←hph] at h3
   refine vms1 h3 ?_
   refine endK.ret ?_ (by first | rfl | simp [Pd.bel_slN,Px.bel_slN,Pd.bel_slM,Px.bel_slM,Pd.bel_MI,Px.bel_MI,belAll_append]);simp [Pd.bel_slN,Px.bel_slN,Pd.bel_slM,Px.bel_slM,Pd.bel_MI,Px.bel_MI,belAll_append,fzs_ok,imp,lenOK_iff,List.take_of_length_le,evRes,getT,getO,setO,fzs,fz,fzH,Nat.beq,retV,Res.then,ldT,ldR,mkV,getV,tt_3,tt_4,tt_5,tt_9,tt_22,tt_25,tt_54,tt_58,tt_60,encR,cfg0,ibeq_dec,len_flat lenR,Nat.mul_one,Pd.slM_nil,Px.slM_nil,Pd.st_M,Px.st_M,Tryz.f14,encPol,endP]
  | c f t p =>
   have h3:=m3_2 d.length
   rw [phN] at hph
   rw [←hph] at h3
   refine vms1 h3 ?_
   refine endK.ret ?_ (by first | rfl | simp [Pd.bel_slN,Px.bel_slN,Pd.bel_slM,Px.bel_slM,Pd.bel_MI,Px.bel_MI,belAll_append]);simp [Pd.bel_slN,Px.bel_slN,Pd.bel_slM,Px.bel_slM,Pd.bel_MI,Px.bel_MI,belAll_append,fzs_ok,imp,lenOK_iff,List.take_of_length_le,evRes,getT,getO,setO,fzs,fz,fzH,Nat.beq,retV,Res.then,ldT,ldR,mkV,getV,tt_3,tt_4,tt_5,tt_9,tt_22,tt_25,tt_54,tt_58,tt_60,encR,cfg0,ibeq_dec,len_flat lenR,Nat.mul_one,Pd.slM_nil,Px.slM_nil,Pd.st_M,Px.st_M,Tryz.f14,encPol,endP]
 have hne:¬s.drop a=[]:=by
  intro e
  have:=congrArg List.length e
  simp at this
  omega
 rw [if_neg hne] at hp
 refine vms1 hq ?_
 refine T.lp tok mixed cfg0 (fun (e:Nat)=>kp 1 (dd 4 (kp 4 (sv (.int .i64 e) (dd 75 (nl)))))) (fun H0 (e:Nat)=>H0) (fun (e:Nat)=>a≤e∧e≤s.length∧cutC 10 (s.drop a)=((s.drop a).take (e-a)++(cutC 10 (s.drop e)).1,(cutC 10 (s.drop e)).2.1,(cutC 10 (s.drop e)).2.2)) (fun (e:Nat)=>s.length-e) (a) ?_ ?_ ?_
 ·exact ⟨Nat.le_refl _,ha,by simp⟩
 ·exact Gn.canon (J:=_) (by first | rfl | (simp [List.append_nil,Pd.slN,Px.slN,Pd.slM_nil,Px.slM_nil];done) | (simp [List.append_nil,Pd.slN,Px.slN,Pd.slM_nil,Px.slM_nil];rfl)) (by simp [wk,Pd.slN,Px.slN,putT,kp,dd,sv,nl]) (by simp [List.length_append]) (by simp [Pd.bel_slN,Px.bel_slN,Pd.bel_slM,Px.bel_slM,Pd.bel_MI,Px.bel_MI,belAll_append,kp,dd,sv,nl]) (by simp [Pd.bel_slN,Px.bel_slN,Pd.bel_slM,Px.bel_slM,Pd.bel_MI,Px.bel_MI,belAll_append])
 intro e ⟨hae,hel,hc⟩
 by_cases hlt:e<s.length
 case neg =>
  have hee:e=s.length:=by omega
  subst hee
  rw [List.drop_length,cutC,List.append_nil] at hc
  rw [hc] at hp
  simp only [Bool.false_eq_true,if_false] at hp
  rw [←hp]
  refine vms0 ?_
  refine endK.ret ?_ (by first | rfl | simp [Pd.bel_slN,Px.bel_slN,Pd.bel_slM,Px.bel_slM,Pd.bel_MI,Px.bel_MI,belAll_append]);simp [Pd.bel_slN,Px.bel_slN,Pd.bel_slM,Px.bel_slM,Pd.bel_MI,Px.bel_MI,belAll_append,fzs_ok,imp,lenOK_iff,List.take_of_length_le,evRes,getT,getO,setO,fzs,fz,fzH,Nat.beq,retV,Res.then,ldT,ldR,mkV,getV,tt_3,tt_4,tt_5,tt_9,tt_22,tt_25,tt_54,tt_58,tt_60,encR,cfg0,ibeq_dec,len_flat lenR,Nat.mul_one,Pd.slM_nil,Px.slM_nil,Pd.st_M,Px.st_M,Tryz.f14,encPol]
 have hg:=getD_u8 hlt
 have hgq:s[e]? = some s[e]:=List.getElem?_eq_getElem hlt
 by_cases h10:s[e]=10
 case neg =>
  have h10n:¬((s[e].toNat:Nat):Int)=10:=u8_ne (b:=10) h10
  refine vms2 hg h10n ?_
  refine ⟨e+1,⟨by omega,by omega,cut_take hc hae hgq h10⟩,by (try simp only);omega,?_⟩;exact Gn.canon (by first | rfl | (simp [List.append_nil,Pd.slN,Px.slN,Pd.slM_nil,Px.slM_nil];rfl)) (by simp [wk,Pd.slN,Px.slN]) (by simp [List.length_append]) (by simp [Pd.bel_slN,Px.bel_slN,Pd.bel_slM,Px.bel_slM,Pd.bel_MI,Px.bel_MI,belAll_append]) (by simp [Pd.bel_slN,Px.bel_slN,Pd.bel_slM,Px.bel_slM,Pd.bel_MI,Px.bel_MI,belAll_append])
 have h10n:((s[e].toNat:Nat):Int)=10:=by rw [h10];rfl
 have hde:s.drop e=s[e]::s.drop (e+1):=List.drop_eq_getElem_cons hlt
 rw [hde,cutC,if_pos h10,List.append_nil] at hc
 rw [hc] at hp
 simp only [if_true] at hp
 have hnl:¬e=s.length:=by omega
 have htl:((s.drop a).take (e-a)).length≤16384:=by rw [List.length_take,List.length_drop];omega
 generalize htx:(s.drop a).take (e-a)=tx at hp htl
 cases ph with
 | a =>
  rw [phN] at hph hd
  have h3:((n:Int)+1).tmod 3=1:=by rw [Int.tmod_eq_emod_of_nonneg (by omega)];omega
  rw [stepP] at hp
  by_cases h32:32≤d.length
  ·have h32n:d.length=32:=by omega
   rw [if_pos h32,if_neg (by simp)] at hp
   rw [←hp]
   refine vms4 hg h10n h3 h32n ?_
   refine endK.ret ?_ (by first | rfl | simp [Pd.bel_slN,Px.bel_slN,Pd.bel_slM,Px.bel_slM,Pd.bel_MI,Px.bel_MI,belAll_append]);simp [Pd.bel_slN,Px.bel_slN,Pd.bel_slM,Px.bel_slM,Pd.bel_MI,Px.bel_MI,belAll_append,fzs_ok,imp,lenOK_iff,List.take_of_length_le,evRes,getT,getO,setO,fzs,fz,fzH,Nat.beq,retV,Res.then,ldT,ldR,mkV,getV,tt_3,tt_4,tt_5,tt_9,tt_22,tt_25,tt_54,tt_58,tt_60,encR,cfg0,ibeq_dec,len_flat lenR,Nat.mul_one,Pd.slM_nil,Px.slM_nil,Pd.st_M,Px.st_M,Tryz.f14,encPol]
  have h32n:¬d.length=32:=by omega
  rw [if_neg h32] at hp
  have h50:=pc50 tx (by omega)
  rw [encTit] at h50
  generalize titE tx=z at h50 hp
  obtain ⟨f,t,z⟩:=z
  simp only at h50 hp
  rw [←htx] at h50
  simp (maxSteps:=2000000) -implicitDefEqProofs +contextual (disch:=first | assumption | omega | decide +kernel) only [push_cast,↓capI,seval,Nat.reduceLeDiff,Nat.reduceEqDiff,reduceCtorEq,↓reduceIte,hg,h10n,h3,h32n,xR]
  refine callO.pc h50 ?_
  by_cases he:z=0
  ·subst he
   rw [if_pos rfl] at hp
   refine vms0 ?_
   refine ⟨(k,n+1,d,.b f t,e+1,⟨f,t,[],[]⟩,ver),⟨⟨by simp only;omega,by simp only;omega,by simp only;omega,by simp only [phN];omega,rfl,by simp only [phN];omega⟩,hp⟩,by simp only;omega,?_⟩
   exact Gn.canon (by first | rfl | (simp [List.append_nil,Pd.slN,Px.slN,Pd.slM_nil,Px.slM_nil,xR];done) | (simp [List.append_nil,Pd.slN,Px.slN,Pd.slM_nil,Px.slM_nil,xR];rfl)) (by simp [wk,Pd.slN,Px.slN]) (by simp [List.length_append]) (by simp [Pd.bel_slN,Px.bel_slN,Pd.bel_slM,Px.bel_slM,Pd.bel_MI,Px.bel_MI,belAll_append]) (by simp [Pd.bel_slN,Px.bel_slN,Pd.bel_slM,Px.bel_slM,Pd.bel_MI,Px.bel_MI,belAll_append])
  ·rw [if_neg he] at hp
   rw [←hp]
   refine vms1 he ?_
   refine endK.ret ?_ (by first | rfl | simp [Pd.bel_slN,Px.bel_slN,Pd.bel_slM,Px.bel_slM,Pd.bel_MI,Px.bel_MI,belAll_append]);simp [Pd.bel_slN,Px.bel_slN,Pd.bel_slM,Px.bel_slM,Pd.bel_MI,Px.bel_MI,belAll_append,fzs_ok,imp,lenOK_iff,List.take_of_length_le,evRes,getT,getO,setO,fzs,fz,fzH,Nat.beq,retV,Res.then,ldT,ldR,mkV,getV,tt_3,tt_4,tt_5,tt_9,tt_22,tt_25,tt_54,tt_58,tt_60,encR,cfg0,ibeq_dec,len_flat lenR,Nat.mul_one,Pd.slM_nil,Px.slM_nil,Pd.st_M,Px.st_M,Tryz.f14,encPol,he]
 | b f t =>
  rw [phN] at hph hd
  have h3:((n:Int)+1).tmod 3=2:=by rw [Int.tmod_eq_emod_of_nonneg (by omega)];omega
  rw [phX] at hx
  subst hx
  rw [stepP] at hp
  have h51:=Pd.pc51 tx
  rw [Pd.encMI] at h51
  rcases Pd.parP_cases tx with ⟨p,hok,h24,htx2,ep⟩ | ⟨e1,e2⟩
  ·rw [ep] at h51 hp
   simp only [if_true] at h51 hp
   rw [←htx,Pd.slM_cons (Pd.flat_ne p)] at h51
   simp (maxSteps:=2000000) -implicitDefEqProofs +contextual (disch:=first | assumption | omega | decide +kernel) only [push_cast,↓capI,seval,Nat.reduceLeDiff,Nat.reduceEqDiff,reduceCtorEq,↓reduceIte,hg,h10n,h3,xR]
   refine callO.pc h51 ?_
   simp (maxSteps:=2000000) -implicitDefEqProofs +contextual (disch:=first | assumption | omega | decide +kernel) only [push_cast,↓capI,seval,Nat.reduceLeDiff,Nat.reduceEqDiff,reduceCtorEq,↓reduceIte,Pd.slN]
   refine ⟨(k,n+1,d,.c f t (Pd.flat p),e+1,⟨f,t,Pd.flat p,[]⟩,ver),⟨⟨by simp only;omega,by simp only;omega,by simp only;omega,by simp only [phN];omega,⟨rfl,Pd.flat_ne p⟩,by simp only [phN];omega⟩,hp⟩,by simp only;omega,?_⟩
   have hsp:=Pd.slM_cons (Pd.flat_ne p)
   exact Gn.canon (by first | rfl | (simp [List.append_nil,Pd.slN,Px.slN,Pd.slM_nil,Px.slM_nil,xR,hsp];done) | (simp [List.append_nil,Pd.slN,Px.slN,Pd.slM_nil,Px.slM_nil,xR,hsp];rfl)) (by simp [wk,Pd.slN,Px.slN]) (by simp [List.length_append]) (by simp [Pd.bel_slN,Px.bel_slN,Pd.bel_slM,Px.bel_slM,Pd.bel_MI,Px.bel_MI,belAll_append]) (by simp [Pd.bel_slN,Px.bel_slN,Pd.bel_slM,Px.bel_slM,Pd.bel_MI,Px.bel_MI,belAll_append])
  ·rw [e1] at h51
   rw [if_neg e2] at hp
   rw [←hp]
   rw [←htx] at h51 e2 ⊢
   simp (maxSteps:=2000000) -implicitDefEqProofs +contextual (disch:=first | assumption | omega | decide +kernel) only [push_cast,↓capI,seval,Nat.reduceLeDiff,Nat.reduceEqDiff,reduceCtorEq,↓reduceIte,hg,h10n,h3,xR]
   refine callO.pc h51 ?_
   simp (maxSteps:=2000000) -implicitDefEqProofs +contextual (disch:=first | assumption | omega | decide +kernel) only [push_cast,↓capI,seval,Nat.reduceLeDiff,Nat.reduceEqDiff,reduceCtorEq,↓reduceIte,e2]
   refine endK.ret ?_ (by first | rfl | simp [Pd.bel_slN,Px.bel_slN,Pd.bel_slM,Px.bel_slM,Pd.bel_MI,Px.bel_MI,belAll_append]);simp [Pd.bel_slN,Px.bel_slN,Pd.bel_slM,Px.bel_slM,Pd.bel_MI,Px.bel_MI,belAll_append,fzs_ok,imp,lenOK_iff,List.take_of_length_le,evRes,getT,getO,setO,fzs,fz,fzH,Nat.beq,retV,Res.then,ldT,ldR,mkV,getV,tt_3,tt_4,tt_5,tt_9,tt_22,tt_25,tt_54,tt_58,tt_60,encR,cfg0,ibeq_dec,len_flat lenR,Nat.mul_one,Pd.slM_nil,Px.slM_nil,Pd.st_M,Px.st_M,Tryz.f14,encPol,e2]
 | c f t p =>
  rw [phN] at hph hd
  have h3:((n:Int)+1).tmod 3=0:=by rw [Int.tmod_eq_emod_of_nonneg (by omega)];omega
  rw [phX] at hx
  obtain ⟨hx,hpn⟩:=hx
  subst hx
  rw [stepP] at hp
  have h52:=Px.pc52 tx
  rw [Px.encMI] at h52
  have hsp:=Pd.slM_cons hpn
  rcases Px.parP_cases tx with ⟨q,hok,h24,htx2,ep⟩ | ⟨e1,e2⟩
  ·rw [ep] at h52 hp
   simp only [if_true] at h52 hp
   rw [←htx,Px.slM_cons (Px.flat_ne q)] at h52
   simp (maxSteps:=2000000) -implicitDefEqProofs +contextual (disch:=first | assumption | omega | decide +kernel) only [push_cast,↓capI,seval,Nat.reduceLeDiff,Nat.reduceEqDiff,reduceCtorEq,↓reduceIte,hg,h10n,h3,xR,hsp]
   refine callO.pc h52 ?_
   simp (maxSteps:=2000000) -implicitDefEqProofs +contextual (disch:=first | assumption | omega | decide +kernel) only [push_cast,↓capI,seval,Nat.reduceLeDiff,Nat.reduceEqDiff,reduceCtorEq,↓reduceIte,hsp,Px.slN,Pd.slN]
   refine ⟨(k,n+1,d++[⟨f,t,p,Px.flat q⟩],.a,e+1,⟨f,t,p,Px.flat q⟩,ver+1),⟨⟨by simp only;omega,by simp only;omega,by simp only;omega,by simp [phN];omega,trivial,by simp [phN];omega⟩,hp⟩,by simp only;omega,?_⟩
   exact Gn.canon (by first | rfl | (simp [List.append_nil,Pd.slN,Px.slN,Pd.slM_nil,Px.slM_nil,xR,encR,hsp,Px.slM_cons (Px.flat_ne q)];done) | (simp [List.append_nil,Pd.slN,Px.slN,Pd.slM_nil,Px.slM_nil,xR,encR,hsp,Px.slM_cons (Px.flat_ne q)];rfl)) (by simp [wk,Pd.slN,Px.slN]) (by simp [List.length_append]) (by simp [Pd.bel_slN,Px.bel_slN,Pd.bel_slM,Px.bel_slM,Pd.bel_MI,Px.bel_MI,belAll_append]) (by simp [Pd.bel_slN,Px.bel_slN,Pd.bel_slM,Px.bel_slM,Pd.bel_MI,Px.bel_MI,belAll_append])
  ·rw [e1] at h52
   rw [if_neg e2] at hp
   rw [←hp]
   rw [←htx] at h52 e2 ⊢
   simp (maxSteps:=2000000) -implicitDefEqProofs +contextual (disch:=first | assumption | omega | decide +kernel) only [push_cast,↓capI,seval,Nat.reduceLeDiff,Nat.reduceEqDiff,reduceCtorEq,↓reduceIte,hg,h10n,h3,xR,hsp]
   refine callO.pc h52 ?_
   simp (maxSteps:=2000000) -implicitDefEqProofs +contextual (disch:=first | assumption | omega | decide +kernel) only [push_cast,↓capI,seval,Nat.reduceLeDiff,Nat.reduceEqDiff,reduceCtorEq,↓reduceIte,e2,hsp,Pd.slN]
   refine endK.ret ?_ (by first | rfl | simp [Pd.bel_slN,Px.bel_slN,Pd.bel_slM,Px.bel_slM,Pd.bel_MI,Px.bel_MI,belAll_append]);simp [Pd.bel_slN,Px.bel_slN,Pd.bel_slM,Px.bel_slM,Pd.bel_MI,Px.bel_MI,belAll_append,fzs_ok,imp,lenOK_iff,List.take_of_length_le,evRes,getT,getO,setO,fzs,fz,fzH,Nat.beq,retV,Res.then,ldT,ldR,mkV,getV,tt_3,tt_4,tt_5,tt_9,tt_22,tt_25,tt_54,tt_58,tt_60,encR,cfg0,ibeq_dec,len_flat lenR,Nat.mul_one,Pd.slM_nil,Px.slM_nil,Pd.st_M,Px.st_M,Tryz.f14,encPol,e2]
end
section
attribute [local push_cast] encR slR cfg0 gfp_lenR gfd_lenR lfl_lenR Nat.mul_one Pd.slN Px.slN Px.encN
theorem pc33 (l:List Px.Nd) (hl:l.length≤4000000):PC Tryz.prog 33 [Px.slN l,Px.slN l] (.bool true):=by
 refine PC.walk tok mixed cfg0 Tryz.func33 rfl Tryz.call33 (by simp [Pd.bel_slN,Px.bel_slN,Pd.bel_Ns,Px.bel_Ns,belAll_append]) (by first | rfl | simp [Pd.bel_slN,Px.bel_slN,Pd.bel_Ns,Px.bel_Ns,belAll_append]) ?_;refine vms1 Tryz.ntmps33 ?_
 refine T.lp tok mixed cfg0 (fun (i:Nat)=>kp 2 (dd 3 (sv (.int .i64 i) (dd 43 (nl))))) (fun H0 (i:Nat)=>H0) (fun (i:Nat)=>i≤l.length) (fun (i:Nat)=>l.length-i) (0) ?_ ?_ ?_
 ·exact Nat.zero_le _
 ·exact Gn.canon (J:=[]) (by first | rfl | (simp [List.append_nil];done) | (simp [List.append_nil];rfl)) (by simp [wk,slR,sum0,Pd.slN,Px.slN,putT,kp,dd,sv,nl]) (by simp [List.length_append]) (by simp [Pd.bel_slN,Px.bel_slN,Pd.bel_Ns,Px.bel_Ns,belAll_append,kp,dd,sv,nl]) (by simp [Pd.bel_slN,Px.bel_slN,Pd.bel_Ns,Px.bel_Ns,belAll_append])
 intro i hi
 by_cases hlt:i<l.length
 ·have hA:=get_flat_part Px.lenN l i hlt 1 (by decide)
  have hB:=get_flat_drop Px.lenN l i hlt 1 1 (by decide)
  have hlen:=len_flat Px.lenN l
  have q1:=len_flat_at Px.lenN l i 2 hlt (by decide)
  by_cases h3:l[i].op=3
  ·simp (maxSteps:=2000000) -implicitDefEqProofs +contextual (disch:=first | assumption | omega | decide +kernel) only [push_cast,↓capI,seval,Nat.reduceLeDiff,Nat.reduceEqDiff,reduceCtorEq,↓reduceIte,hlt,hA,hB,h3,len_flat Px.lenN,get_flat_part Px.lenN,get_flat_drop Px.lenN]
   refine ⟨i+1,hlt,by (try simp only);omega,?_⟩;exact Gn.canon (by first | rfl | (simp [List.append_nil];rfl)) (by simp [wk,slR,sum0,Pd.slN,Px.slN]) (by simp [List.length_append]) (by simp [Pd.bel_slN,Px.bel_slN,Pd.bel_Ns,Px.bel_Ns,belAll_append]) (by simp [Pd.bel_slN,Px.bel_slN,Pd.bel_Ns,Px.bel_Ns,belAll_append])
  ·simp (maxSteps:=2000000) -implicitDefEqProofs +contextual (disch:=first | assumption | omega | decide +kernel) only [push_cast,↓capI,seval,Nat.reduceLeDiff,Nat.reduceEqDiff,reduceCtorEq,↓reduceIte,hlt,hA,hB,h3,len_flat Px.lenN,get_flat_part Px.lenN,get_flat_drop Px.lenN]
   refine ⟨i+1,hlt,by (try simp only);omega,?_⟩;exact Gn.canon (by first | rfl | (simp [List.append_nil];rfl)) (by simp [wk,slR,sum0,Pd.slN,Px.slN]) (by simp [List.length_append]) (by simp [Pd.bel_slN,Px.bel_slN,Pd.bel_Ns,Px.bel_Ns,belAll_append]) (by simp [Pd.bel_slN,Px.bel_slN,Pd.bel_Ns,Px.bel_Ns,belAll_append])
 ·refine vms1 hlt ?_
  refine endK.ret ?_ (by first | rfl | simp [Pd.bel_slN,Px.bel_slN,Pd.bel_Ns,Px.bel_Ns,belAll_append]);simp [evRes,getT,retV,Tryz.f33]
theorem pc53t (l:List Pd.Nd) (hl:l.length≤4000000):PC Tryz.prog 53 [Pd.slN l,Pd.slN l] (.bool true) :=
 Pd.pc53 l l hl hl true ⟨fun _=>⟨rfl,fun j _ _ _=>⟨rfl,fun _=>rfl⟩⟩,fun _=>rfl⟩
theorem pc15 (l:List Ru) (hl:l.length≤1000000) (hs:∀r ∈ l,r.p.length≤4000000∧r.q.length≤4000000):PC Tryz.prog 15 [slR l,slR l] (.bool true):=by
 refine PC.walk tok mixed cfg0 Tryz.func15 rfl Tryz.call15 (by simp [Pd.bel_slN,Px.bel_slN,Pd.bel_Ns,Px.bel_Ns,belAll_append]) (by first | rfl | simp [Pd.bel_slN,Px.bel_slN,Pd.bel_Ns,Px.bel_Ns,belAll_append]) ?_;refine vms1 Tryz.ntmps15 ?_
 refine T.lp tok mixed cfg0 (fun (i:Nat)=>kp 2 (dd 3 (sv (.int .i64 i) (dd 63 (nl))))) (fun H0 (i:Nat)=>H0) (fun (i:Nat)=>i≤l.length) (fun (i:Nat)=>l.length-i) (0) ?_ ?_ ?_
 ·exact Nat.zero_le _
 ·exact Gn.canon (J:=[]) (by first | rfl | (simp [List.append_nil];done) | (simp [List.append_nil];rfl)) (by simp [wk,slR,sum0,Pd.slN,Px.slN,putT,kp,dd,sv,nl]) (by simp [List.length_append]) (by simp [Pd.bel_slN,Px.bel_slN,Pd.bel_Ns,Px.bel_Ns,belAll_append,kp,dd,sv,nl]) (by simp [Pd.bel_slN,Px.bel_slN,Pd.bel_Ns,Px.bel_Ns,belAll_append])
 intro i hi
 by_cases hlt:i<l.length
 ·have hm:=hs _ (List.getElem_mem hlt)
  refine vms1 hlt ?_
  refine callG.pc1 (pc33 l[i].q hm.2) ?_
  refine vms1 hlt ?_
  refine callG.pc1 (pc53t l[i].p hm.1) ?_
  refine vms1 hlt ?_
  refine ⟨i+1,hlt,by (try simp only);omega,?_⟩;exact Gn.canon (by first | rfl | (simp [List.append_nil];rfl)) (by simp [wk,slR,sum0,Pd.slN,Px.slN]) (by simp [List.length_append]) (by simp [Pd.bel_slN,Px.bel_slN,Pd.bel_Ns,Px.bel_Ns,belAll_append]) (by simp [Pd.bel_slN,Px.bel_slN,Pd.bel_Ns,Px.bel_Ns,belAll_append])
 ·refine vms1 hlt ?_
  refine endK.ret ?_ (by first | rfl | simp [Pd.bel_slN,Px.bel_slN,Pd.bel_Ns,Px.bel_Ns,belAll_append]);simp [evRes,getT,retV,Tryz.f15]
end
end Go.Proofs.YtlbmbbaefncleaaGreatDoor
namespace Go.Proofs.YtlbmbbaefncleaaGreatDoor
open Go.Vm Go.ChangeShapes Go.WideShapes Go.ChangeAt Go.RowKit
theorem own:ownKnob Tryz.prog.godebug=none:=by kernel_rfl
theorem laidOut:laidOutB Tryz.prog=true:=by kernel_rfl
theorem spec_one {s:ChangeSpec} {H:Type} (h:s.fn H=fun | [d]=>{ results:=[.lit (.bool true)],args:=[d] } | _=>Rows.none) (ds:List (DataW H)) (hl:ds.length=1) :
  s.fn H ds = { results:=[.lit (.bool true)],args:=ds }:=by
 rw [h]
 match ds,hl with
 | [d],_=>rfl
end Go.Proofs.YtlbmbbaefncleaaGreatDoor
namespace Go.Proofs.YtlbmbbaefncleaaGreatDoor
open Go.Vm
theorem typ_S {m:Nat} {c:List V} (h:Typ tt (m+1) 9 c):∃s:List UInt8,lax (mkV (tt 9) c)=.str s:=by
 obtain ⟨s,rfl,_⟩:=typ_str (by rw [tt_9]) h
 exact ⟨s,by rw [tt_9];rfl⟩
theorem eq15:PC Tryz.prog 15 [.sl true [] 0,.sl true [] 0] (.bool true):=by
 refine PC.lax ?_
 exact pc15 [] (by decide) (fun r hr=>by cases hr)
attribute [local push_cast] cfg0 ibeq_dec
theorem ps4 (s:List UInt8):PC Tryz.prog 4 [.str s] (.bool true):=by
 by_cases hl:4000<s.length
 ·refine PC.walk tok mixed cfg0 Tryz.func4 rfl Tryz.call4 (by simp) (by first | rfl | simp) ?_;refine vms1 Tryz.ntmps4 ?_
  refine callO.pc pc10 ?_
  refine vms0 ?_
  refine endK.retA ?_;simp [evRes,getT,retV,Tryz.f4]
 have h13:=pc13 s (by omega)
 have h14:=pc14 s (by omega)
 rcases polP_cases s with ⟨e1,e2⟩ | ⟨T,hT,hT32,ht,hs,e⟩
 ·rw [encPol,if_neg e2] at h13 h14
  generalize (polP s).2.1=n at h13 h14
  generalize (polP s).2.2=z at h13 h14 e2
  refine PC.walk tok mixed cfg0 Tryz.func4 rfl Tryz.call4 (by simp) (by first | rfl | simp) ?_;refine vms1 Tryz.ntmps4 ?_
  refine callO.pc h13 ?_
  refine vms0 ?_
  refine callO.pc h14 ?_
  refine vms0 ?_
  refine callO.pc eq15 ?_
  simp (maxSteps:=2000000) -implicitDefEqProofs +contextual (disch:=first | assumption | omega | decide +kernel) only [push_cast,↓capI,seval,Nat.reduceLeDiff,Nat.reduceEqDiff,reduceCtorEq,↓reduceIte,e2]
  refine callO.pc pc10 ?_
  refine vms0 ?_
  refine endK.retA ?_;simp [evRes,getT,retV,Tryz.f4]
 ·rw [e,encPol] at h13 h14
  simp only [if_true] at h13 h14
  have h11:=fmt11 (G:=T.map gT) (by simpa using hT32) (fun g hg=>by
   obtain ⟨x,hx,rfl⟩:=List.mem_map.1 hg
   exact good_T (hT x hx))
  rw [slG_T,fmt_T hT (by rw [ht];exact hs),ht] at h11
  have h15:=pc15 (T.map ruT) (by simp;omega) (fun r hr=>by
   obtain ⟨x,hx,rfl⟩:=List.mem_map.1 hr
   obtain ⟨_,⟨_,h3⟩,_,h5⟩:=hT x hx
   exact ⟨by simp only [ruT];omega,by simp only [ruT];omega⟩)
  generalize T.map ruT=m at h13 h14 h11 h15
  refine PC.walk tok mixed cfg0 Tryz.func4 rfl Tryz.call4 (by simp) (by first | rfl | simp) ?_;refine vms1 Tryz.ntmps4 ?_
  refine callO.pc h13 ?_
  refine vms0 ?_
  refine callO.pc h14 ?_
  refine vms0 ?_
  refine callO.pc h15 ?_
  refine vms0 ?_
  refine callO.pc h11 ?_
  refine vms0 ?_
  refine callO.pc pc10 ?_
  refine vms0 ?_
  refine endK.retA ?_;simp [evRes,getT,retV,Tryz.f4]
theorem law4 (xs:List V) (h:TypA tt 8 [9] xs):PC Tryz.prog 4 xs (.bool true):=by
 obtain ⟨v1,vs,c1,rfl,rfl,h1,h⟩:=typA_cons h
 obtain rfl:=typA_nil h
 obtain ⟨s,hs⟩:=typ_S h1
 refine PC.lax ?_
 rw [laxs,laxs,hs]
 exact ps4 s
end Go.Proofs.YtlbmbbaefncleaaGreatDoor
namespace Go.Proofs.YtlbmbbaefncleaaGreatDoor
open Go Go.Vm Go.ChangeShapes Go.WideShapes Go.ChangeAt Go.RowKit
abbrev LL:List (String × DataW Unit):=Rows.policyFormatsRow.laid
theorem gPow:Tryz.prog.globalNamed "internal/strconv.uint64pow10" = some 1:=by kernel_rfl
theorem tPow:(Tryz.prog.globals[1]?).map (·.type)=some 299:=by kernel_rfl
theorem gl1:(GlobTab.gl 1:Option (List (IntKind × Int)))=some [(.u64,1),(.u64,10),(.u64,100),(.u64,1000),(.u64,10000),(.u64,100000),(.u64,1000000),(.u64,10000000),(.u64,100000000),(.u64,1000000000),(.u64,10000000000),(.u64,100000000000),(.u64,1000000000000),(.u64,10000000000000),(.u64,100000000000000),(.u64,1000000000000000),(.u64,10000000000000000),(.u64,100000000000000000),(.u64,1000000000000000000),(.u64,10000000000000000000)]:=rfl
theorem gt_of_laid {W:World} (h:laidMetH Tryz.prog LL W):GT (fun _=>False) W:=by
 rw [MakeChecks.laidMetH_plain _ _ _ (by kernel_rfl)] at h
 obtain ⟨g',t',cs,fuel,p,hg',ht',hvar,hd⟩:=Lib.laidMet.reads h (n:= "internal/strconv.uint64pow10") (d:=Rows.laid_internal_strconv_uint64pow10) (by simp [LL,Rows.policyFormatsRow])
 obtain rfl:=Option.some.inj (gPow.symm.trans hg')
 obtain rfl:=Option.some.inj (tPow.symm.trans ht')
 have hc:=Lib.cells_of_tab (k:=.u64) (zs:=[1,10,100,1000,10000,100000,1000000,10000000,100000000,1000000000,10000000000,100000000000,1000000000000,10000000000000,100000000000000,1000000000000000,10000000000000000,100000000000000000,1000000000000000000,10000000000000000000])
  (show Tryz.prog.underlying 299=some (.array 20 128) by kernel_rfl) (show Tryz.prog.underlying 128=some (.int .u64) by kernel_rfl) (by kernel_rfl) (by kernel_rfl) hd
 have hcell:=World.var?_cell hg' hvar
 intro g l hgl
 have h0:g=1∧l=[(.u64,1),(.u64,10),(.u64,100),(.u64,1000),(.u64,10000),(.u64,100000),(.u64,1000000),(.u64,10000000),(.u64,100000000),(.u64,1000000000),(.u64,10000000000),(.u64,100000000000),(.u64,1000000000000),(.u64,10000000000000),(.u64,100000000000000),(.u64,1000000000000000),(.u64,10000000000000000),(.u64,100000000000000000),(.u64,1000000000000000000),(.u64,10000000000000000000)]:=by
  match g,hgl with
  | 0,hgl=>cases hgl
  | 1,hgl=>rw [gl1] at hgl;exact ⟨rfl,(Option.some.inj hgl).symm⟩
  | g+2,hgl=>cases hgl
 obtain ⟨rfl,rfl⟩:=h0
 have hcs:CellsAt W 1 0 cs.toList:=by
  intro i v hv
  rw [Nat.zero_add,hcell i,←hv,Array.getElem?_toList]
 refine ⟨?_,fun h=>h,?_⟩
 ·have h1:=hcell 0
  have h2:cs[0]? = some (.int .u64 1):=by rw [←Array.getElem?_toList,hc];rfl
  rw [h2] at h1
  apply Decidable.byContradiction
  intro hn
  unfold World.cell? at h1
  rw [Array.getElem?_eq_none (by simp only;omega)] at h1
  cases h1
 ·rw [hc] at hcs
  exact hcs
noncomputable def laidWorld (os:Os):World :=
 { World.doorLaid Tryz.prog 34 os with heap:=(World.doorLaid Tryz.prog 34 os).heap.modify 2 fun
   | .cells _ t frozen=>.cells (Pinned.utf8FirstZ.map fun (n:Nat)=>Value.int .u8 n).toArray t frozen
   | o=>o }
theorem door_met (os:Os) (args:Array Value):laidMetH Tryz.prog LL ((laidWorld os).forCall (fun _ _=>0) ⟨#[],args,[]⟩).memory :=
 laidMetH_of_parts3 (fuel:=8) (laidMet_of_run' 8 (by kernel_rfl) (by kernel_rfl)) (by kernel_rfl) (by kernel_rfl)
end Go.Proofs.YtlbmbbaefncleaaGreatDoor

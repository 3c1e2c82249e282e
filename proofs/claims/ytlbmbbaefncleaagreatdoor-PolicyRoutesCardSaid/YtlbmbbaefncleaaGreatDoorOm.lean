/-
  Joined by a program from the texts PxRq3 PxRq4 PxRq6 PxRq7.
-/
import Derived.Test.YtlbmbbaefncleaaGreatDoorOj
import Derived.Test.YtlbmbbaefncleaaGreatDoorOl
set_option maxRecDepth 100000
set_option maxHeartbeats 8000000
set_option linter.all false
namespace Go.Proofs.YtlbmbbaefncleaaGreatDoor.Px
open Go.Vm
section
def rwI (m:Nat) (f:Nat→Int):V:=.sl false (tab m fun q=>.int .i64 (f q)) m
def slM (n m:Nat) (R:Nat→Nat→Int):V:=.sl false (tab n fun s=>rwI m (R s)) n
@[simp] theorem bel_tbI {k m:Nat} {f:Nat→Int}:belAll k (tab m fun q=>V.int .i64 (f q))=true:=belAll_tab fun _ _=>rfl
@[simp] theorem bel_rwI {k m:Nat} {f:Nat→Int}:(rwI m f).bel k=true:=by rw [rwI,bel_sl,bel_tbI]
@[simp] theorem bel_slM {k n m:Nat} {R:Nat→Nat→Int}:(slM n m R).bel k=true:=by
 rw [slM,bel_sl];exact belAll_tab fun _ _=>bel_rwI
theorem getV_tab2 {n i:Nat} {g:Nat→V} (h:i<n):getV ((tab n g).drop i) 0 1=[g i]:=by
 have:=getV_tab (g:=g) h
 rwa [Nat.mul_one] at this
def dR (R:Nat→Nat→Int) (k:Int × Int):Int:=R k.1.toNat k.2.toNat
def hitR (t:Top.Tp) (a:Tb) (d:Int × Int→Int) (n:Int) (k:Int × Int) (p:Nat):Bool:=match skR t a k p with | some k'=>decide (d k'=n) | none=>false
def stpP (t:Top.Tp) (a:Tb) (R:Nat→Nat→Int) (n:Int) (k:Int × Int):Int :=
 match (List.range (npR t k)).find? (fun p=>hitR t a (dR R) n k p) with | some p=>(p:Int) | none=>-1
theorem find_rng {f:Nat→Bool} {n j:Nat} (h:j<n) (hn:(List.range j).find? f=none) (hx:f j=true):(List.range n).find? f=some j:=by
 rw [List.find?_eq_none] at hn
 rw [List.find?_eq_some_iff_getElem]
 refine ⟨hx,j,by simpa using h,by simp,fun k hk=>?_⟩
 rw [List.getElem_range]
 have:=hn k (List.mem_range.2 hk)
 simpa using this
theorem find_rng1 {f:Nat→Bool} {j:Nat} (hn:(List.range j).find? f=none) (hx:f j=false):(List.range (j+1)).find? f=none:=by
 rw [List.range_succ,List.find?_append,hn,List.find?_cons,hx]
 rfl
attribute [local push_cast] cfg0 Top.encT Top.slI Top.slP Top.slL Top.encP Top.encPE encT slI slR slB slM ones_ints ones_bools getV_map getV_mapO List.length_map Nat.mul_one tab_length putV_tab getV_tab getV_tabO getV_tabP getV_tab2 ibeq_dec
theorem pc103 (t:Top.Tp) (hf:t.fit) (a:Tb) (hF:Fit t a) (R:Nat→Nat→Int) (n:Int) (s q:Nat) (hs:s<t.ports.length) (hq:q<a.next.length) :
  PC Tryz.prog 103 [.agg (Top.encT t),.agg (encT a),slM t.ports.length a.next.length R,.int .i64 (s:Int),.int .i64 (q:Int),.int .i64 n] (.int .i64 (stpP t a R n ((s:Int),(q:Int)))):=by
 have hv:=Top.chk_valid hF.top
 have h16:=hv.small
 have h64:=hF.few
 have hpr:=hv.ports _ (List.getElem_mem hs)
 have hgp:npR t ((s:Int),(q:Int))=(t.ports[s]).toNat:=by rw [npR];exact congrArg Int.toNat (lgetD hs)
 have hpeer:=fun q (h:(Top.peer t q).2=0)=>peer_rng hF.top (p:=q) h
 have hall:=fun k s (h:0≤k∧k<(a.next.length:Int)) (h2:0≤s∧s<(t.ports.length:Int))=>nxA_rng hF.aut (q:=k) (s:=s) h h2
 have hrow0:=hF.aut.row
 rw [stpP,hgp]
 obtain ⟨np,hnpe⟩:∃k:Nat,t.ports[s]=(k:Int):=⟨t.ports[s].toNat,by omega⟩
 rw [hnpe,Int.toNat_natCast]
 have hnp16:np≤16:=by omega
 obtain ⟨an,ac⟩:=a
 simp only at hq h64 hall hrow0
 have hqa:q<an.length:=by omega
 have hsp:s<t.ports.length:=by omega
 have hrw:(an[q]'hqa).length=t.ports.length:=hrow0 _ (List.getElem_mem _)
 refine PC.walk tok mixed cfg0 Tryz.func103 rfl Tryz.call103 (by simp [Top.belT,Top.bel_slL,Top.bel_slP,Top.belP,Top.bel_Ps,Top.bel_Ls]) (by first | rfl | simp [Top.belT,Top.bel_slL,Top.bel_slP,Top.belP,Top.bel_Ps,Top.bel_Ls]) ?_;refine vms1 Tryz.ntmps103 ?_
 refine T.lp tok mixed cfg0 (fun ((p:Nat))=>dd 2 (kp 6 (dd 5 (sv (.int .i64 (p:Int)) (dd 54 (nl)))))) (fun H0 ((p:Nat))=>[.cells 0 (Top.encT t),.cells 0 (encT ⟨an,ac⟩)]) (fun ((p:Nat))=>p≤np∧(List.range p).find? (fun p=>hitR t ⟨an,ac⟩ (dR R) n ((s:Int),(q:Int)) p)=none) (fun ((p:Nat))=>np-p) (0) ?_ ?_ ?_
 ·exact ⟨Nat.zero_le _,rfl⟩
 ·exact Gn.canon (J:=[]) (by first | rfl | (simp [List.append_nil,Top.encT,encT,slR,slB,slI,Top.encP];done) | (simp [List.append_nil,Top.encT,encT,slR,slB,slI,Top.encP];rfl)) (by simp [wk,Top.slP,slM,putT,kp,dd,sv,nl]) (by simp [tab_length]) (by simp [Top.belT,Top.bel_slL,Top.bel_slP,Top.belP,Top.bel_Ps,Top.bel_Ls,kp,dd,sv,nl]) (by simp [Top.belT,Top.bel_slL,Top.bel_slP,Top.belP,Top.bel_Ps,Top.bel_Ls])
 intro p hp
 obtain ⟨hp,hno⟩:=hp
 by_cases hlt:p<np
 case neg =>
  have:p=np:=by omega
  subst this
  rw [hno]
  simp (maxSteps:=2000000) -implicitDefEqProofs +contextual (disch:=first | assumption | omega | decide +kernel) only [push_cast,↓capI,seval,Nat.reduceLeDiff,Nat.reduceEqDiff,reduceCtorEq,↓reduceIte,hsp,hnpe,Nat.lt_irrefl]
  refine endK.ret ?_ (by first | rfl | simp [Top.belT,Top.bel_slL,Top.bel_slP,Top.belP,Top.bel_Ps,Top.bel_Ls]);simp [evRes,getT,retV,Tryz.f103]
 have hyes:=fun h=>find_rng (f:=fun p=>hitR t ⟨an,ac⟩ (dR R) n ((s:Int),(q:Int)) p) hlt hno h
 have hnxt:=fun h=>find_rng1 (f:=fun p=>hitR t ⟨an,ac⟩ (dR R) n ((s:Int),(q:Int)) p) hno h
 have h31:=Top.pc104 t ((s:Int),(p:Int)) hf
 have hpr2:=hpeer ((s:Int),(p:Int))
 have hhit:hitR t ⟨an,ac⟩ (dR R) n ((s:Int),(q:Int)) p=match skR t ⟨an,ac⟩ ((s:Int),(q:Int)) p with | some k'=>decide (dR R k'=n) | none=>false:=rfl
 rw [skR] at hhit
 simp only at hhit
 generalize hitR t ⟨an,ac⟩ (dR R) n ((s:Int),(q:Int)) p=hb at hyes hnxt hhit
 generalize hpe:Top.peer t ((s:Int),(p:Int))=pe at h31 hpr2 hhit
 obtain ⟨⟨ps,pp⟩,er⟩:=pe
 simp only at hpr2 hhit
 by_cases her:er=0
 case neg =>
  rw [if_pos her] at hhit
  refine vms3 hsp hnpe hlt ?_
  refine callO.pc h31 ?_
  refine vms1 her ?_
  refine ⟨p+1,⟨by omega,hnxt hhit⟩,by (try simp only);omega,?_⟩;exact Gn.canon (by first | rfl | (simp [List.append_nil,Top.encT,encT,slR,slB,slI,Top.encP];rfl)) (by simp [wk,Top.slP,slM]) (by simp [tab_length]) (by simp [Top.belT,Top.bel_slL,Top.bel_slP,Top.belP,Top.bel_Ps,Top.bel_Ls]) (by simp [Top.belT,Top.bel_slL,Top.bel_slP,Top.belP,Top.bel_Ps,Top.bel_Ls])
 have hpr2:=hpr2 her
 obtain ⟨ps,rfl⟩:∃k:Nat,ps=(k:Int):=⟨ps.toNat,by omega⟩
 have hps:ps<(an[q]'hqa).length:=by omega
 have hpsN:ps<t.ports.length:=by omega
 rw [if_neg (by omega)] at hhit
 have hnv:(an[q]'hqa)[ps]=nxA ⟨an,ac⟩ (q:Int) (ps:Int):=by
  rw [nxA,gI,Int.toNat_natCast,Int.toNat_natCast]
  show _=(an.getD q []).getD ps 0
  rw [lgetD hqa,lgetD hps]
 have hnr:=hall (q:Int) (ps:Int) (by omega) (by omega)
 generalize nxA ⟨an,ac⟩ (q:Int) (ps:Int)=nq at hhit hnv hnr
 by_cases hnq:nq<0
 ·rw [if_pos hnq] at hhit
  refine vms3 hsp hnpe hlt ?_
  refine callO.pc h31 ?_
  refine vms5 her hqa hps hnv hnq ?_
  refine ⟨p+1,⟨by omega,hnxt hhit⟩,by (try simp only);omega,?_⟩;exact Gn.canon (by first | rfl | (simp [List.append_nil,Top.encT,encT,slR,slB,slI,Top.encP];rfl)) (by simp [wk,Top.slP,slM]) (by simp [tab_length]) (by simp [Top.belT,Top.bel_slL,Top.bel_slP,Top.belP,Top.bel_Ps,Top.bel_Ls]) (by simp [Top.belT,Top.bel_slL,Top.bel_slP,Top.belP,Top.bel_Ps,Top.bel_Ls])
 obtain ⟨nq,rfl⟩:∃k:Nat,nq=(k:Int):=⟨nq.toNat,by omega⟩
 have hnqM:nq<an.length:=by omega
 rw [if_neg hnq] at hhit
 simp only [dR,Int.toNat_natCast] at hhit
 by_cases hR:R ps nq=n
 ·rw [hyes (by rw [hhit];exact decide_eq_true hR)]
  refine vms3 hsp hnpe hlt ?_
  refine callO.pc h31 ?_
  simp (maxSteps:=2000000) -implicitDefEqProofs +contextual (disch:=first | assumption | omega | decide +kernel) only [push_cast,↓capI,seval,Nat.reduceLeDiff,Nat.reduceEqDiff,reduceCtorEq,↓reduceIte,her,hqa,hps,hnv,hnq,hpsN,hnqM,hR,rwI]
  refine endK.ret ?_ (by first | rfl | simp [Top.belT,Top.bel_slL,Top.bel_slP,Top.belP,Top.bel_Ps,Top.bel_Ls]);simp [evRes,getT,retV,Tryz.f103]
 ·refine vms3 hsp hnpe hlt ?_
  refine callO.pc h31 ?_
  simp (maxSteps:=2000000) -implicitDefEqProofs +contextual (disch:=first | assumption | omega | decide +kernel) only [push_cast,↓capI,seval,Nat.reduceLeDiff,Nat.reduceEqDiff,reduceCtorEq,↓reduceIte,her,hqa,hps,hnv,hnq,hpsN,hnqM,hR,rwI]
  refine ⟨p+1,⟨by omega,hnxt (by rw [hhit];exact decide_eq_false hR)⟩,by (try simp only);omega,?_⟩;exact Gn.canon (by first | rfl | (simp [List.append_nil,Top.encT,encT,slR,slB,slI,Top.encP];rfl)) (by simp [wk,Top.slP,slM]) (by simp [tab_length]) (by simp [Top.belT,Top.bel_slL,Top.bel_slP,Top.belP,Top.bel_Ps,Top.bel_Ls]) (by simp [Top.belT,Top.bel_slL,Top.bel_slP,Top.belP,Top.bel_Ps,Top.bel_Ls])
end
section
def bufD (m j:Nat):V:=.buf (j+1) 0 0 m 1
def rwO (m:Nat) (R:Nat→Nat→Int) (j:Nat):Ob:=.cells 0 (tab m fun q=>.int .i64 (R j q))
@[simp] theorem bel_bufD {n k m:Nat} (h:k+1≤m):belAll m (tab k (bufD n))=true:=belAll_tab fun i _=>by simp [bufD,bel_buf];omega
@[simp] theorem bel_rwO {n k m:Nat} {R:Nat→Nat→Int}:belObs m (tab k (rwO n R))=true:=belObs_tabN fun _ _=>bel_tbI
@[simp] theorem bel_rwOA {n k m:Nat} {R:Nat→Nat→Int} {B:List Ob}:belObs m (tab k (rwO n R)++B)=belObs m B:=belObs_tab fun _ _=>bel_tbI
theorem take_tbI {m:Nat} {f:Nat→Int}:List.take m (tab m fun q=>V.int .i64 (f q))=tab m fun q=>V.int .i64 (f q):=List.take_of_length_le (by rw [tab_length];exact Nat.le_refl _)
theorem lnd_row {n m ver i:Nat} {R:Nat→Nat→Int} {b:List V} (hi:i<n):lndW id 0 (.cells ver b::tab n (rwO m R)) (bufD m i)=rwI m (R i):=by
 have hg:getO (.cells ver b::tab n (rwO m R)) (i+1)=rwO m R i:=by rw [getO,getO_tabN hi]
 simp only [bufD,lndW,Nat.blt,Nat.ble,hg,rwO,Nat.beq,List.drop_zero,Nat.mul_one,take_tbI,List.map_id]
 rfl
theorem lnd_mat {n m ver:Nat} {R:Nat→Nat→Int} {x1 x2 x4 x5 x6:V} (h1:x1.bel 0=true) (h2:x2.bel 0=true) (h4:x4.bel 0=true) (h5:x5.bel 0=true) (h6:x6.bel 0=true) :
  lnds1 0 (.cells ver (tab n (bufD m))::tab n (rwO m R)) [x1,x2,.buf 0 ver 0 n 1,x4,x5,x6]=[x1,x2,slM n m R,x4,x5,x6]:=by
 have hb:lndW (lnd 0 (.cells ver (tab n (bufD m))::tab n (rwO m R))) 0 (.cells ver (tab n (bufD m))::tab n (rwO m R)) (.buf 0 ver 0 n 1)=slM n m R:=by
  have hv:Nat.beq ver ver=true:=Nat.beq_refl ver
  have htk:List.take n (tab n (bufD m))=tab n (bufD m):=List.take_of_length_le (by rw [tab_length];exact Nat.le_refl _)
  rw [lndW]
  simp only [Nat.blt,Nat.ble,getO,hv,List.drop_zero,Nat.mul_one,htk,tab_map]
  rw [slM]
  exact congrArg (fun l=>V.sl false l n) (tab_ext fun i hi=>lnd_row hi)
 simp only [lnds1,lndWs,hb]
 rw [lndW_lt x1 h1,lndW_lt x2 h2,lndW_lt x4 h4,lndW_lt x5 h5,lndW_lt x6 h6]
theorem frzRowsI {k m n ver:Nat} {tm:List V} {R:Nat→Nat→Int} (ht:belAll 1 tm=true):∀j,j≤n →
  Gn k ⟨tm,.cells ver (tab n (bufD m))::tab n (rwO m R)⟩ ⟨tm,.cells ver (tab n fun i=>if i<j then rwI m (R i) else bufD m i)::tab n fun i=>if i<j then .dead else rwO m R i⟩
 | 0,_=>by
  have e1:(tab n fun i=>if i<0 then rwI m (R i) else bufD m i)=tab n (bufD m):=tab_ext fun i _=>if_neg (Nat.not_lt_zero i)
  have e2:(tab n fun i=>if i<0 then Ob.dead else rwO m R i)=tab n (rwO m R):=tab_ext fun i _=>if_neg (Nat.not_lt_zero i)
  rw [e1,e2]
  exact Gn.refl _ _
 | j+1,hj=>by
  refine (frzRowsI ht j (by omega)).trans ?_
  have hg:getO (.cells ver (tab n fun i=>if i<j then rwI m (R i) else bufD m i)::tab n fun i=>if i<j then .dead else rwO m R i) (j+1)=.cells 0 (tab m fun q=>.int .i64 (R j q)):=by
   rw [getO,getO_tabN (by omega),if_neg (Nat.lt_irrefl j)]
   rfl
  refine (Gn.freeze (id:=j+1) hg).trans ?_
  have e0:fzs (j+1) 0 (tab m fun q=>.int .i64 (R j q)) tm=tm:=fzs_lt _ (belAll_le (by omega) _ ht)
  have e2:fzs (j+1) 0 (tab m fun q=>.int .i64 (R j q)) (tab n fun i=>if i<j then rwI m (R i) else bufD m i)=tab n fun i=>if i<j+1 then rwI m (R i) else bufD m i:=by
   rw [fzs_tab]
   refine tab_ext fun i hi=>?_
   by_cases h:i<j
   ·rw [if_pos h,if_pos (by omega),fz_lt _ bel_rwI]
   ·rw [if_neg h]
    by_cases h2:i=j
    ·subst h2
     rw [if_pos (by omega)]
     simp only [bufD,fz,Nat.beq_refl,List.drop_zero,Nat.mul_one,take_tbI]
     rfl
    ·have hb:Nat.beq (i+1) (j+1)=false:=by
      cases hb:Nat.beq (i+1) (j+1) with
      | false=>rfl
      | true=>have:=Nat.eq_of_beq_eq_true hb;omega
     rw [if_neg (by omega)]
     simp only [bufD,fz,hb]
  have e3:fzH (j+1) 0 (tab m fun q=>.int .i64 (R j q)) (tab n fun i=>if i<j then Ob.dead else rwO m R i)=tab n fun i=>if i<j then Ob.dead else rwO m R i:=by
   refine fzH_lt (belObs_tabN fun i _=>?_)
   split
   ·exact belO_dead
   ·exact bel_tbI
  rw [e0,fzH,e2,e3,setO,setO_tabN]
  have e4:(tab n fun k=>if k=j then Ob.dead else if k<j then Ob.dead else rwO m R k)=tab n fun i=>if i<j+1 then Ob.dead else rwO m R i:=by
   refine tab_ext fun i _=>?_
   by_cases h:i=j
   ·rw [if_pos h,if_pos (by omega)]
   ·rw [if_neg h]
    by_cases h2:i<j
    ·rw [if_pos h2,if_pos (by omega)]
    ·rw [if_neg h2,if_neg (by omega)]
  rw [e4]
  exact Gn.refl _ _
theorem wk_refl:∀xs:List V,wk xs xs
 | []=>trivial
 | x::xs=>⟨.inr rfl,wk_refl xs⟩
theorem frzMatI {m n ver:Nat} {tm tm2 tm3:List V} {R:Nat→Nat→Int} (hw:wk tm tm2) (ht:belAll 1 tm2=true) (h3:fzs 0 ver (tab n fun i=>rwI m (R i)) tm2=tm3) (hb:belAll 0 tm3=true) :
  Gn 0 ⟨tm,.cells ver (tab n (bufD m))::tab n (rwO m R)⟩ ⟨tm3,[]⟩:=by
 refine (Gn.weak hw).trans ((frzRowsI ht n (Nat.le_refl n)).trans ?_)
 have e1:(tab n fun i=>if i<n then rwI m (R i) else bufD m i)=tab n fun i=>rwI m (R i):=tab_ext fun i hi=>if_pos hi
 have e2:(tab n fun i=>if i<n then Ob.dead else rwO m R i)=tab n fun _=>Ob.dead:=tab_ext fun i hi=>if_pos hi
 rw [e1,e2]
 refine (Gn.freeze (id:=0) (ver:=ver) (l:=tab n fun i=>rwI m (R i)) rfl).trans ?_
 have e3:fzH 0 ver (tab n fun i=>rwI m (R i)) (tab n fun _=>Ob.dead)=tab n fun _=>Ob.dead:=fzH_lt (belObs_tabN fun _ _=>belO_dead)
 rw [h3,fzH,e3,setO]
 exact Gn.canon (J:=.dead::tab n fun _=>.dead) rfl (wk_refl _) (by simp) hb rfl
end
section
theorem getV_tab1 {n i:Nat} {g:Nat→V} (h:i<n):getV ((tab n g).drop i) 0 1=[g i]:=by
 have:=getV_tab (g:=g) h
 rwa [Nat.mul_one] at this
theorem cellI0 {m:Nat} {h:Nat→Int}:(tab m fun k=>V.int .i64 (if k<0 then h k else 0))=tab m fun _=>V.int .i64 0:=tab_ext fun k _=>by rw [if_neg (Nat.not_lt_zero k)]
theorem cellI1 {m q:Nat} {h:Nat→Int} {v:Int} (hv:v=h q):(tab m fun k=>if k=q then V.int .i64 v else V.int .i64 (if k<q then h k else 0))=tab m fun k=>V.int .i64 (if k<q+1 then h k else 0):=by
 refine tab_ext fun k _=>?_
 by_cases e:k=q
 ·rw [if_pos e,e,if_pos (Nat.lt_succ_self q),hv]
 ·rw [if_neg e]
  by_cases h:k<q
  ·rw [if_pos h,if_pos (by omega)]
  ·rw [if_neg h,if_neg (by omega)]
theorem cellIe {m:Nat} {h:Nat→Int}:(tab m fun k=>V.int .i64 (if k<m then h k else 0))=tab m fun k=>V.int .i64 (h k):=tab_ext fun k hk=>by rw [if_pos hk]
def midI (A B:Nat→Nat→Int) (s q s' q':Nat):Int:=if s'<s∨(s'=s∧q'<q) then B s' q' else A s' q'
theorem midI_0 {A B:Nat→Nat→Int}:midI A B 0 0=A:=by
 funext s q
 rw [midI,if_neg (by omega)]
theorem midI_at {A B:Nat→Nat→Int} {s q:Nat}:midI A B s q s q=A s q:=by rw [midI,if_neg (by omega)]
theorem midI_n {A B:Nat→Nat→Int} {n m s:Nat}:tab n (rwO m (midI A B s m))=tab n (rwO m (midI A B (s+1) 0)):=by
 refine tab_ext fun j _=>?_
 unfold rwO
 refine congrArg (Ob.cells 0) (tab_ext fun k hk=>?_)
 rw [midI,midI]
 by_cases h:j<s∨j=s
 ·rw [if_pos (by omega),if_pos (by omega)]
 ·rw [if_neg (by omega),if_neg (by omega)]
theorem midI_e {A B:Nat→Nat→Int} {n m:Nat}:tab n (rwO m (midI A B n 0))=tab n (rwO m B):=by
 refine tab_ext fun j hj=>?_
 unfold rwO
 refine congrArg (Ob.cells 0) (tab_ext fun k _=>?_)
 rw [midI,if_pos (by omega)]
theorem midI_keep {A B:Nat→Nat→Int} {n m s q:Nat} (h:B s q=A s q):tab n (rwO m (midI A B s q))=tab n (rwO m (midI A B s (q+1))):=by
 refine tab_ext fun j _=>?_
 unfold rwO
 refine congrArg (Ob.cells 0) (tab_ext fun k _=>?_)
 rw [midI,midI]
 by_cases h1:j<s∨(j=s∧k<q)
 ·rw [if_pos h1,if_pos (by omega)]
 ·rw [if_neg h1]
  by_cases h2:j=s∧k=q
  ·obtain ⟨rfl,rfl⟩:=h2
   rw [if_pos (by omega),h]
  ·rw [if_neg (by omega)]
theorem midI_put {A B:Nat→Nat→Int} {n m s q:Nat} {v:Int} (h:v=B s q) :
  (tab n fun j=>if j=s then Ob.cells 0 (tab m fun k=>if k=q then V.int .i64 v else V.int .i64 (midI A B s q s k)) else rwO m (midI A B s q) j)=tab n (rwO m (midI A B s (q+1))):=by
 refine tab_ext fun j _=>?_
 by_cases hj:j=s
 ·rw [if_pos hj,hj]
  unfold rwO
  refine congrArg (Ob.cells 0) (tab_ext fun k _=>?_)
  by_cases hk:k=q
  ·rw [if_pos hk,hk,h,midI,if_pos (by omega)]
  ·rw [if_neg hk,midI,midI]
   by_cases h:k<q
   ·rw [if_pos (by omega),if_pos (by omega)]
   ·rw [if_neg (by omega),if_neg (by omega)]
 ·rw [if_neg hj]
  unfold rwO
  refine congrArg (Ob.cells 0) (tab_ext fun k _=>?_)
  rw [midI,midI]
  by_cases h:j<s
  ·rw [if_pos (by omega),if_pos (by omega)]
  ·rw [if_neg (by omega),if_neg (by omega)]
def dM {t:Top.Tp} {a:Tb} {dst:Int} (h:Fit t a) (n s q:Nat):Int:=(gR t a dst h).dN n ((s:Int),(q:Int))
theorem stp_mid {t:Top.Tp} {a:Tb} {dst:Int} (h:Fit t a) {n s q s0 q0:Nat} (hs:s0<t.ports.length) (hq:q0<a.next.length) (hneg:dM (dst:=dst) h n s0 q0<0) :
  (0≤stpP t a (midI (dM (dst:=dst) h n) (dM (dst:=dst) h (n+1)) s q) n ((s0:Int),(q0:Int))→dM (dst:=dst) h (n+1) s0 q0=((n+1:Nat):Int)) ∧
  (¬0≤stpP t a (midI (dM (dst:=dst) h n) (dM (dst:=dst) h (n+1)) s q) n ((s0:Int),(q0:Int))→dM (dst:=dst) h (n+1) s0 q0=dM (dst:=dst) h n s0 q0):=by
 have hk:((s0:Int),(q0:Int)) ∈ statesR t a:=mem_states.2 ⟨⟨by simp only;omega,by simp only;omega⟩,by simp only;omega,by simp only;omega⟩
 have hmid:∀p,p<npR t ((s0:Int),(q0:Int))→hitR t a (dR (midI (dM (dst:=dst) h n) (dM (dst:=dst) h (n+1)) s q)) n ((s0:Int),(q0:Int)) p=(gR t a dst h).hit ((gR t a dst h).dN n) n ((s0:Int),(q0:Int)) p:=by
  intro p hp
  rw [hitR,Gph.hit]
  rw [show (gR t a dst h).sk ((s0:Int),(q0:Int)) p=skR t a ((s0:Int),(q0:Int)) p from rfl]
  cases hsk:skR t a ((s0:Int),(q0:Int)) p with
  | none=>rfl
  | some k' =>
   have hk':=mem_states.1 (skR_cls h hk hsk)
   have hd:∀m,dM (dst:=dst) h m k'.1.toNat k'.2.toNat=(gR t a dst h).dN m k':=by
    intro m
    rw [dM,show (((k'.1.toNat:Nat):Int),((k'.2.toNat:Nat):Int))=k' from by rw [Int.toNat_of_nonneg hk'.1.1,Int.toNat_of_nonneg hk'.2.1]]
   simp only [dR,midI,hd]
   split
   ·rw [decide_eq_decide,Gph.dN]
    have hr:=(gR t a dst h).dN_rng n k'
    split
    ·rename_i hc
     rw [Bool.and_eq_true,decide_eq_true_eq] at hc
     omega
    ·exact Iff.rfl
   ·rfl
 have hdn:dM (dst:=dst) h (n+1) s0 q0=if decide (dM (dst:=dst) h n s0 q0<0)&&(List.range (npR t ((s0:Int),(q0:Int)))).any (fun p=>(gR t a dst h).hit ((gR t a dst h).dN n) (n:Int) ((s0:Int),(q0:Int)) p) then ((n+1:Nat):Int) else dM (dst:=dst) h n s0 q0:=rfl
 rw [decide_eq_true hneg,Bool.true_and] at hdn
 rw [stpP]
 cases hf:(List.range (npR t ((s0:Int),(q0:Int)))).find? (fun p=>hitR t a (dR (midI (dM (dst:=dst) h n) (dM (dst:=dst) h (n+1)) s q)) n ((s0:Int),(q0:Int)) p) with
 | some p =>
  refine ⟨fun _=>?_,fun hn=>absurd (Int.natCast_nonneg p) hn⟩
  rw [hdn,if_pos]
  have hm:=List.mem_of_find?_eq_some hf
  have hx:=List.find?_some hf
  rw [List.any_eq_true]
  exact ⟨p,hm,by rw [←hmid p (List.mem_range.1 hm)];exact hx⟩
 | none =>
  refine ⟨fun hn=>absurd hn (by decide),fun _=>?_⟩
  rw [hdn,if_neg]
  rw [List.any_eq_true]
  rintro ⟨p,hm,hx⟩
  rw [List.find?_eq_none] at hf
  exact hf p hm (by rw [hmid p (List.mem_range.1 hm)];exact hx)
attribute [local push_cast] cfg0 Top.encT Top.slI Top.slP Top.slL encT slR slB ones_ints ones_bools getV_map getV_mapO List.length_map Nat.mul_one tab_length putV_tab getV_tab getV_tabO getV_tabP getV_tab1 ibeq_dec place_tabN place_tab0 place_tabK getO_tab getO_tab0 getO_tabK getO_tabN setO_tab setO_tab0 setO_tabK setO_tabN
theorem pc102 (t:Top.Tp) (hf:t.fit) (a:Tb) (hF:Fit t a) (dst:Int) :
  PC Tryz.prog 102 [.agg (Top.encT t),.agg (encT a),.int .i64 dst] (slM t.ports.length a.next.length fun s q=>(gR t a dst hF).D ((s:Int),(q:Int))):=by
 have hv:=Top.chk_valid hF.top
 have h16:=hv.small
 have h64:=hF.few
 have hacc:=hF.aut.accs
 have h30:=fun (R:Nat→Nat→Int) (n:Int) (s q:Nat) (hs:s<t.ports.length) (hq:q<a.next.length)=>pc103 t hf a hF R n s q hs hq
 have hmid:=fun (n s q s0 q0:Nat) (hs:s0<t.ports.length) (hq:q0<a.next.length)=>stp_mid (dst:=dst) hF (n:=n) (s:=s) (q:=q) hs hq
 have hD:(fun s q:Nat=>(gR t a dst hF).D ((s:Int),(q:Int)))=dM (dst:=dst) hF (t.ports.length*a.next.length):=by
  funext s q
  rw [dM,←len_states]
  rfl
 have hd0:∀s q:Nat,dM (dst:=dst) hF 0 s q=if (decide ((s:Int)=dst)&&gB a.acc (q:Int))=true then 0 else -1:=fun _ _=>rfl
 have hpos:∀n s q:Nat,¬dM (dst:=dst) hF n s q<0→dM (dst:=dst) hF (n+1) s q=dM (dst:=dst) hF n s q:=fun n s q h=>(gR t a dst hF).dN_keep (n:=n) (k:=((s:Int),(q:Int))) (by rw [dM] at h;omega) 1
 rw [hD]
 clear hD
 generalize dM (dst:=dst) hF=D at hmid hd0 hpos ⊢
 have hKK:t.ports.length*a.next.length≤1024:=Nat.le_trans (Nat.mul_le_mul h16 h64) (by decide)
 have hK:(t.ports.length:Int)*(a.next.length:Int)=((t.ports.length*a.next.length:Nat):Int):=by push_cast;rfl
 generalize t.ports.length*a.next.length=K at hKK hK ⊢
 clear hF
 obtain ⟨an,ac⟩:=a
 simp only at h64 hacc h30 hmid hd0 hK
 refine PC.cutN tok mixed cfg0 0 Tryz.func102 rfl Tryz.call102 (by simp [Top.belT,tab_length,Top.bel_Ps,Top.bel_Ls,Top.bel_slP,Top.bel_slL]) (by exact bel_slM) ?_
 simp (maxSteps:=2000000) -implicitDefEqProofs +contextual (disch:=first | assumption | omega | decide +kernel) only [push_cast,↓capI,seval,Nat.reduceLeDiff,Nat.reduceEqDiff,reduceCtorEq,↓reduceIte,Tryz.ntmps102,cutAt_z,cutAt_s]
 refine cutK.gn (cut_fz (n:=0) (H:=[.cells 0 (Top.encT t)]) (l:=encT ⟨an,ac⟩) (tm2:=(.dead::.dead::.int .i64 dst::.ptr 0 0 0::.ptr 1 0 0::.dead::.dead::.dead::.dead::.dead::.dead::.dead::.dead::.dead::.dead::.dead::.dead::.dead::.dead::.dead::.dead::.dead::.dead::.dead::.dead::.dead::.dead::.dead::.dead::.dead::.dead::.dead::.dead::.dead::.dead::.dead::.dead::.dead::.dead::.dead::.dead::.dead::.dead::.dead::.dead::.dead::.dead::.dead::.dead::.dead::.dead::.dead::.dead::.dead::.dead::.dead::.dead::.dead::.dead::.dead::.dead::.dead::.dead::.dead::.dead::.dead::.dead::.dead::.dead::.dead::.dead::.dead::.dead::.dead::.dead::.dead::.dead::.dead::.dead::.dead::.dead::.dead::.dead::.dead::.dead::.dead::.dead::.dead::.dead::.dead::.dead::.dead::.dead::.dead::.dead::.dead::.dead::.dead::.dead::.dead::.dead::.dead::.dead::.dead::[])) (tm':=(.dead::.dead::.int .i64 dst::.ptr 0 0 0::.fp (encT ⟨an,ac⟩)::.dead::.dead::.dead::.dead::.dead::.dead::.dead::.dead::.dead::.dead::.dead::.dead::.dead::.dead::.dead::.dead::.dead::.dead::.dead::.dead::.dead::.dead::.dead::.dead::.dead::.dead::.dead::.dead::.dead::.dead::.dead::.dead::.dead::.dead::.dead::.dead::.dead::.dead::.dead::.dead::.dead::.dead::.dead::.dead::.dead::.dead::.dead::.dead::.dead::.dead::.dead::.dead::.dead::.dead::.dead::.dead::.dead::.dead::.dead::.dead::.dead::.dead::.dead::.dead::.dead::.dead::.dead::.dead::.dead::.dead::.dead::.dead::.dead::.dead::.dead::.dead::.dead::.dead::.dead::.dead::.dead::.dead::.dead::.dead::.dead::.dead::.dead::.dead::.dead::.dead::.dead::.dead::.dead::.dead::.dead::.dead::.dead::.dead::.dead::[])) (by first | rfl | simp [List.append_nil,tab_length,rep_tab]) (by simp) (by simp [Top.belT,tab_length,Top.bel_Ps,Top.bel_Ls,Top.bel_slP,Top.bel_slL]) (by simp [wk,Top.slP]) (by simp [fzs,fz,Nat.beq]) (by simp [Top.belT,tab_length,Top.bel_Ps,Top.bel_Ls,Top.bel_slP,Top.bel_slL])) (cutK.gn (cut_fz (n:=0) (H:=[]) (l:=Top.encT t) (tm2:=(.dead::.dead::.int .i64 dst::.ptr 0 0 0::.fp (encT ⟨an,ac⟩)::.dead::.dead::.dead::.dead::.dead::.dead::.dead::.dead::.dead::.dead::.dead::.dead::.dead::.dead::.dead::.dead::.dead::.dead::.dead::.dead::.dead::.dead::.dead::.dead::.dead::.dead::.dead::.dead::.dead::.dead::.dead::.dead::.dead::.dead::.dead::.dead::.dead::.dead::.dead::.dead::.dead::.dead::.dead::.dead::.dead::.dead::.dead::.dead::.dead::.dead::.dead::.dead::.dead::.dead::.dead::.dead::.dead::.dead::.dead::.dead::.dead::.dead::.dead::.dead::.dead::.dead::.dead::.dead::.dead::.dead::.dead::.dead::.dead::.dead::.dead::.dead::.dead::.dead::.dead::.dead::.dead::.dead::.dead::.dead::.dead::.dead::.dead::.dead::.dead::.dead::.dead::.dead::.dead::.dead::.dead::.dead::.dead::.dead::.dead::[])) (tm':=(.dead::.dead::.int .i64 dst::.fp (Top.encT t)::.fp (encT ⟨an,ac⟩)::.dead::.dead::.dead::.dead::.dead::.dead::.dead::.dead::.dead::.dead::.dead::.dead::.dead::.dead::.dead::.dead::.dead::.dead::.dead::.dead::.dead::.dead::.dead::.dead::.dead::.dead::.dead::.dead::.dead::.dead::.dead::.dead::.dead::.dead::.dead::.dead::.dead::.dead::.dead::.dead::.dead::.dead::.dead::.dead::.dead::.dead::.dead::.dead::.dead::.dead::.dead::.dead::.dead::.dead::.dead::.dead::.dead::.dead::.dead::.dead::.dead::.dead::.dead::.dead::.dead::.dead::.dead::.dead::.dead::.dead::.dead::.dead::.dead::.dead::.dead::.dead::.dead::.dead::.dead::.dead::.dead::.dead::.dead::.dead::.dead::.dead::.dead::.dead::.dead::.dead::.dead::.dead::.dead::.dead::.dead::.dead::.dead::.dead::.dead::[])) (by first | rfl | simp [List.append_nil,tab_length,rep_tab]) (by simp) (by simp [Top.belT,tab_length,Top.bel_Ps,Top.bel_Ls,Top.bel_slP,Top.bel_slL]) (by simp [wk,Top.slP]) (by simp [fzs,fz,Nat.beq]) (by simp [Top.belT,tab_length,Top.bel_Ps,Top.bel_Ls,Top.bel_slP,Top.bel_slL])) (cutK.go (cfg:=cfg0) tok mixed ?_))
 refine vms0 ?_
 refine T.lp tok mixed cfg0 (fun (s:Nat)=>dd 2 (kp 3 (dd 2 (sv (.buf 0 s 0 s 1) (sv (.int .i64 (s:Int)) (dd 95 (nl))))))) (fun H0 (s:Nat)=>.cells s (tab s (bufD an.length))::tab s (rwO an.length (D 0))) (fun (s:Nat)=>s≤t.ports.length) (fun (s:Nat)=>t.ports.length-s) (0) ?_ ?_ ?_
 ·exact Nat.zero_le _
 ·refine (Gn.ownNil (t:=7) (sz:=1) rfl).trans ?_
  exact Gn.canon (J:=[]) (by simp [List.append_nil,tab_length,rep_tab,tab_zero]) (by simp [wk,Top.slP,putT,kp,dd,sv,nl]) (by simp [tab_length]) (by simp [Top.belT,tab_length,Top.bel_Ps,Top.bel_Ls,Top.bel_slP,Top.bel_slL,kp,dd,sv,nl]) (by simp [Top.belT,tab_length,Top.bel_Ps,Top.bel_Ls,Top.bel_slP,Top.bel_slL])
 intro s hs
 by_cases hlt:s<t.ports.length
 ·simp (maxSteps:=2000000) -implicitDefEqProofs +contextual (disch:=first | assumption | omega | decide +kernel) only [push_cast,↓capI,seval,Nat.reduceLeDiff,Nat.reduceEqDiff,reduceCtorEq,↓reduceIte,hlt,rep_tab,List.length_cons]
  refine T.lp tok mixed cfg0 (fun (q:Nat)=>dd 2 (kp 3 (dd 2 (kp 3 (sv (.int .i64 (q:Int)) (dd 93 (nl))))))) (fun H0 (q:Nat)=>.cells s (tab s (bufD an.length))::(tab s (rwO an.length (D 0))++[.cells 0 (tab an.length fun k=>.int .i64 (if k<q then D 0 s k else 0))])) (fun (q:Nat)=>q≤an.length) (fun (q:Nat)=>an.length-q) (0) ?_ ?_ ?_
  ·exact Nat.zero_le _
  ·rw [cellI0]
   exact Gn.canon (J:=[]) (by first | rfl | (simp [List.append_nil,tab_length,rep_tab];done) | (simp [List.append_nil,tab_length,rep_tab];rfl)) (by simp [wk,Top.slP,putT,kp,dd,sv,nl]) (by simp [tab_length]) (by simp [Top.belT,tab_length,Top.bel_Ps,Top.bel_Ls,Top.bel_slP,Top.bel_slL,kp,dd,sv,nl]) (by simp [Top.belT,tab_length,Top.bel_Ps,Top.bel_Ls,Top.bel_slP,Top.bel_slL])
  intro q hq
  by_cases hlq:q<an.length
  ·have hqa:q<ac.length:=by omega
   have hgb:gB ac (q:Int)=ac[q]:=lgetD hqa
   have hd:=hd0 s q
   simp only [hgb] at hd
   by_cases hsd:(s:Int)=dst
   ·rw [decide_eq_true hsd,Bool.true_and] at hd
    cases hb:ac[q]
    ·rw [hb,if_neg (by decide)] at hd
     refine vms5 hlt hlq hqa hsd hb ?_
     refine ⟨q+1,hlq,by (try simp only);omega,?_⟩
     refine Gn.canon (J:=[]) ?_ (by simp [wk,Top.slP]) (by simp [tab_length]) (by simp [Top.belT,tab_length,Top.bel_Ps,Top.bel_Ls,Top.bel_slP,Top.bel_slL]) (by simp [Top.belT,tab_length,Top.bel_Ps,Top.bel_Ls,Top.bel_slP,Top.bel_slL])
     rw [List.append_nil,cellI1 (h:=D 0 s) hd.symm]
    ·rw [hb,if_pos rfl] at hd
     refine vms5 hlt hlq hqa hsd hb ?_
     refine ⟨q+1,hlq,by (try simp only);omega,?_⟩
     refine Gn.canon (J:=[]) ?_ (by simp [wk,Top.slP]) (by simp [tab_length]) (by simp [Top.belT,tab_length,Top.bel_Ps,Top.bel_Ls,Top.bel_slP,Top.bel_slL]) (by simp [Top.belT,tab_length,Top.bel_Ps,Top.bel_Ls,Top.bel_slP,Top.bel_slL])
     rw [List.append_nil,cellI1 (h:=D 0 s) hd.symm]
   ·rw [decide_eq_false hsd,Bool.false_and,if_neg (by decide)] at hd
    refine vms4 hlt hlq hqa hsd ?_
    refine ⟨q+1,hlq,by (try simp only);omega,?_⟩
    refine Gn.canon (J:=[]) ?_ (by simp [wk,Top.slP]) (by simp [tab_length]) (by simp [Top.belT,tab_length,Top.bel_Ps,Top.bel_Ls,Top.bel_slP,Top.bel_slL]) (by simp [Top.belT,tab_length,Top.bel_Ps,Top.bel_Ls,Top.bel_slP,Top.bel_slL])
    rw [List.append_nil,cellI1 (h:=D 0 s) hd.symm]
  ·have hqe:q=an.length:=by omega
   subst hqe
   rw [cellIe]
   refine vms1 hlq ?_
   refine ⟨s+1,hlt,by (try simp only);omega,?_⟩
   refine Gn.canon (J:=[]) ?_ (by simp [wk,Top.slP]) (by simp [tab_length]) (by simp [Top.belT,tab_length,Top.bel_Ps,Top.bel_Ls,Top.bel_slP,Top.bel_slL]) (by simp [Top.belT,tab_length,Top.bel_Ps,Top.bel_Ls,Top.bel_slP,Top.bel_slL])
   simp [tab_succ,bufD,rwO]
 have hse:s=t.ports.length:=by omega
 subst hse
 clear hs hlt
 simp (maxSteps:=2000000) -implicitDefEqProofs +contextual (disch:=first | assumption | omega | decide +kernel) only [push_cast,↓capI,seval,Nat.reduceLeDiff,Nat.reduceEqDiff,reduceCtorEq,↓reduceIte,Nat.lt_irrefl]
 refine T.lp tok mixed cfg0 (fun (n:Nat)=>dd 3 (kp 2 (dd 2 (kp 1 (dd 3 (sv (.int .i64 ((n:Int)+1)) (dd 92 (nl)))))))) (fun H0 (n:Nat)=>.cells t.ports.length (tab t.ports.length (bufD an.length))::tab t.ports.length (rwO an.length (D n))) (fun (n:Nat)=>n≤K) (fun (n:Nat)=>K-n) (0) ?_ ?_ ?_
 ·exact Nat.zero_le _
 ·exact Gn.canon (J:=[]) (by first | rfl | (simp [List.append_nil,tab_length,rep_tab];done) | (simp [List.append_nil,tab_length,rep_tab];rfl)) (by simp [wk,Top.slP,putT,kp,dd,sv,nl]) (by simp [tab_length]) (by simp [Top.belT,tab_length,Top.bel_Ps,Top.bel_Ls,Top.bel_slP,Top.bel_slL,kp,dd,sv,nl]) (by simp [Top.belT,tab_length,Top.bel_Ps,Top.bel_Ls,Top.bel_slP,Top.bel_slL])
 intro n hn
 by_cases hln:n<K
 case neg =>
  have hne:n=K:=by omega
  subst hne
  have hKn:¬((n:Int)+1≤(n:Int)):=by omega
  refine vms2 hK hKn ?_
  have htk:List.take t.ports.length (tab t.ports.length fun i=>rwI an.length (D n i))=tab t.ports.length fun i=>rwI an.length (D n i):=List.take_of_length_le (by rw [tab_length];exact Nat.le_refl _)
  refine endK.gn (frzMatI (tm2:=(.dead::.dead::.dead::.dead::.dead::.dead::.buf 0 t.ports.length 0 t.ports.length 1::.dead::.dead::.dead::.dead::.dead::.dead::.dead::.dead::.dead::.dead::.dead::.dead::.dead::.dead::.dead::.dead::.dead::.dead::.dead::.dead::.dead::.dead::.dead::.dead::.dead::.dead::.dead::.dead::.dead::.dead::.dead::.dead::.dead::.dead::.dead::.dead::.dead::.dead::.dead::.dead::.dead::.dead::.dead::.dead::.dead::.dead::.dead::.dead::.dead::.dead::.dead::.dead::.dead::.dead::.dead::.dead::.dead::.dead::.dead::.dead::.dead::.dead::.dead::.dead::.dead::.dead::.dead::.dead::.dead::.dead::.dead::.dead::.dead::.dead::.dead::.dead::.dead::.dead::.dead::.dead::.dead::.dead::.dead::.dead::.dead::.dead::.dead::.dead::.dead::.dead::.dead::.dead::.dead::.dead::.dead::.dead::.dead::[])) (tm3:=(.dead::.dead::.dead::.dead::.dead::.dead::slM t.ports.length an.length (D n)::.dead::.dead::.dead::.dead::.dead::.dead::.dead::.dead::.dead::.dead::.dead::.dead::.dead::.dead::.dead::.dead::.dead::.dead::.dead::.dead::.dead::.dead::.dead::.dead::.dead::.dead::.dead::.dead::.dead::.dead::.dead::.dead::.dead::.dead::.dead::.dead::.dead::.dead::.dead::.dead::.dead::.dead::.dead::.dead::.dead::.dead::.dead::.dead::.dead::.dead::.dead::.dead::.dead::.dead::.dead::.dead::.dead::.dead::.dead::.dead::.dead::.dead::.dead::.dead::.dead::.dead::.dead::.dead::.dead::.dead::.dead::.dead::.dead::.dead::.dead::.dead::.dead::.dead::.dead::.dead::.dead::.dead::.dead::.dead::.dead::.dead::.dead::.dead::.dead::.dead::.dead::.dead::.dead::.dead::.dead::.dead::.dead::[])) (by simp [wk,Top.slP]) (by simp [Top.belT,tab_length,Top.bel_Ps,Top.bel_Ls,Top.bel_slP,Top.bel_slL]) (by simp [fzs,fz,Nat.beq,slM,htk]) (by simp [Top.belT,tab_length,Top.bel_Ps,Top.bel_Ls,Top.bel_slP,Top.bel_slL])) ?_
  refine endK.ret ?_ bel_slM
  simp [evRes,getT,retV,Tryz.f102]
 have hKn:(n:Int)+1≤(K:Int):=by omega
 refine vms2 hK hKn ?_
 refine T.lp tok mixed cfg0 (fun (s:Nat)=>dd 3 (kp 2 (dd 2 (kp 1 (dd 3 (kp 1 (sv (.int .i64 (s:Int)) (dd 91 (nl))))))))) (fun H0 (s:Nat)=>.cells t.ports.length (tab t.ports.length (bufD an.length))::tab t.ports.length (rwO an.length (midI (D n) (D (n+1)) s 0))) (fun (s:Nat)=>s≤t.ports.length) (fun (s:Nat)=>t.ports.length-s) (0) ?_ ?_ ?_
 ·exact Nat.zero_le _
 ·rw [midI_0]
  exact Gn.canon (J:=[]) (by first | rfl | (simp [List.append_nil,tab_length,rep_tab];done) | (simp [List.append_nil,tab_length,rep_tab];rfl)) (by simp [wk,Top.slP,putT,kp,dd,sv,nl]) (by simp [tab_length]) (by simp [Top.belT,tab_length,Top.bel_Ps,Top.bel_Ls,Top.bel_slP,Top.bel_slL,kp,dd,sv,nl]) (by simp [Top.belT,tab_length,Top.bel_Ps,Top.bel_Ls,Top.bel_slP,Top.bel_slL])
 intro s hs
 by_cases hlt:s<t.ports.length
 case neg =>
  have hse:s=t.ports.length:=by omega
  subst hse
  refine vms1 hlt ?_
  refine ⟨n+1,hln,by (try simp only);omega,?_⟩
  refine Gn.canon (J:=[]) ?_ (by simp [wk,Top.slP]) (by simp [tab_length]) (by simp [Top.belT,tab_length,Top.bel_Ps,Top.bel_Ls,Top.bel_slP,Top.bel_slL]) (by simp [Top.belT,tab_length,Top.bel_Ps,Top.bel_Ls,Top.bel_slP,Top.bel_slL])
  rw [List.append_nil,midI_e]
 refine vms1 hlt ?_
 refine T.lp tok mixed cfg0 (fun (q:Nat)=>dd 3 (kp 2 (dd 2 (kp 1 (dd 3 (kp 2 (sv (.int .i64 (q:Int)) (dd 90 (nl))))))))) (fun H0 (q:Nat)=>.cells t.ports.length (tab t.ports.length (bufD an.length))::tab t.ports.length (rwO an.length (midI (D n) (D (n+1)) s q))) (fun (q:Nat)=>q≤an.length) (fun (q:Nat)=>an.length-q) (0) ?_ ?_ ?_
 ·exact Nat.zero_le _
 ·exact Gn.canon (J:=[]) (by first | rfl | (simp [List.append_nil,tab_length,rep_tab];done) | (simp [List.append_nil,tab_length,rep_tab];rfl)) (by simp [wk,Top.slP,putT,kp,dd,sv,nl]) (by simp [tab_length]) (by simp [Top.belT,tab_length,Top.bel_Ps,Top.bel_Ls,Top.bel_slP,Top.bel_slL,kp,dd,sv,nl]) (by simp [Top.belT,tab_length,Top.bel_Ps,Top.bel_Ls,Top.bel_slP,Top.bel_slL])
 intro q hq
 by_cases hlq:q<an.length
 case neg =>
  have hqe:q=an.length:=by omega
  subst hqe
  rw [midI_n]
  refine vms1 hlq ?_
  refine ⟨s+1,hlt,by (try simp only);omega,?_⟩
  refine Gn.canon (J:=[]) ?_ (by simp [wk,Top.slP]) (by simp [tab_length]) (by simp [Top.belT,tab_length,Top.bel_Ps,Top.bel_Ls,Top.bel_slP,Top.bel_slL]) (by simp [Top.belT,tab_length,Top.bel_Ps,Top.bel_Ls,Top.bel_slP,Top.bel_slL])
  rw [List.append_nil]
 have hat:=midI_at (A:=D n) (B:=D (n+1)) (s:=s) (q:=q)
 by_cases hneg:D n s q<0
 case neg =>
  simp (maxSteps:=2000000) -implicitDefEqProofs +contextual (disch:=first | assumption | omega | decide +kernel) only [push_cast,↓capI,seval,Nat.reduceLeDiff,Nat.reduceEqDiff,reduceCtorEq,↓reduceIte,hlq,hlt,bufD,rwO,hat,hneg]
  refine ⟨q+1,hlq,by (try simp only);omega,?_⟩
  refine Gn.canon (J:=[]) ?_ (by simp [wk,Top.slP]) (by simp [tab_length]) (by simp [Top.belT,tab_length,Top.bel_Ps,Top.bel_Ls,Top.bel_slP,Top.bel_slL]) (by simp [Top.belT,tab_length,Top.bel_Ps,Top.bel_Ls,Top.bel_slP,Top.bel_slL])
  rw [List.append_nil]
  exact congrArg (Ob.cells t.ports.length (tab t.ports.length (bufD an.length))::·) (midI_keep (hpos n s q hneg))
 obtain ⟨hy,hno⟩:=hmid n s q s q hlt hlq hneg
 have h30':=h30 (midI (D n) (D (n+1)) s q) (n:Int) s q hlt hlq
 have hn1:(n:Int)+1-1=(n:Int):=by omega
 generalize stpP t ⟨an,ac⟩ (midI (D n) (D (n+1)) s q) (n:Int) ((s:Int),(q:Int))=v at hy hno h30'
 simp (maxSteps:=2000000) -implicitDefEqProofs +contextual (disch:=first | assumption | omega | decide +kernel) only [push_cast,↓capI,seval,Nat.reduceLeDiff,Nat.reduceEqDiff,reduceCtorEq,↓reduceIte,hlq,hlt,bufD,rwO,hat,hneg,hn1]
 have hln:=lnd_mat (n:=t.ports.length) (m:=an.length) (ver:=t.ports.length) (R:=midI (D n) (D (n+1)) s q) (x1:=.agg (Top.encT t)) (x2:=.agg (encT ⟨an,ac⟩)) (x4:=.int .i64 (s:Int)) (x5:=.int .i64 (q:Int)) (x6:=.int .i64 (n:Int)) (by rw [bel_agg];exact Top.belT t) (by rw [bel_agg];exact bel_encT _) rfl rfl rfl
 refine callO.lend1 (v:=.int .i64 v) (by rw [←hln] at h30';exact h30') (by exact (congrArg (belAll 0) hln).trans (by simp [Top.belT,tab_length,Top.bel_Ps,Top.bel_Ls,Top.bel_slP,Top.bel_slL])) rfl rfl ?_
 by_cases h0:0≤v
 ·have hy:=hy h0
  simp (maxSteps:=2000000) -implicitDefEqProofs +contextual (disch:=first | assumption | omega | decide +kernel) only [push_cast,↓capI,seval,Nat.reduceLeDiff,Nat.reduceEqDiff,reduceCtorEq,↓reduceIte,hlq,hlt,bufD,rwO,hat,h0]
  refine ⟨q+1,hlq,by (try simp only);omega,?_⟩
  refine Gn.canon (J:=[]) ?_ (by simp [wk,Top.slP]) (by simp [tab_length]) (by simp [Top.belT,tab_length,Top.bel_Ps,Top.bel_Ls,Top.bel_slP,Top.bel_slL]) (by simp [Top.belT,tab_length,Top.bel_Ps,Top.bel_Ls,Top.bel_slP,Top.bel_slL])
  rw [List.append_nil]
  exact congrArg (Ob.cells t.ports.length (tab t.ports.length (bufD an.length))::·) (midI_put (by rw [hy];rfl))
 ·have hno:=hno h0
  simp (maxSteps:=2000000) -implicitDefEqProofs +contextual (disch:=first | assumption | omega | decide +kernel) only [push_cast,↓capI,seval,Nat.reduceLeDiff,Nat.reduceEqDiff,reduceCtorEq,↓reduceIte,hlq,hlt,bufD,rwO,hat,h0]
  refine ⟨q+1,hlq,by (try simp only);omega,?_⟩
  refine Gn.canon (J:=[]) ?_ (by simp [wk,Top.slP]) (by simp [tab_length]) (by simp [Top.belT,tab_length,Top.bel_Ps,Top.bel_Ls,Top.bel_slP,Top.bel_slL]) (by simp [Top.belT,tab_length,Top.bel_Ps,Top.bel_Ls,Top.bel_slP,Top.bel_slL])
  rw [List.append_nil]
  exact congrArg (Ob.cells t.ports.length (tab t.ports.length (bufD an.length))::·) (midI_keep hno)
end
section
theorem stp_D {t:Top.Tp} {a:Tb} {dst:Int} (h:Fit t a) {k:Int × Int} (hk:k ∈ statesR t a) {n p:Nat} (hp:(gR t a dst h).first n k=some p) :
  stpP t a (fun s q:Nat=>(gR t a dst h).D ((s:Int),(q:Int))) n k=(p:Int):=by
 have hh:∀p,hitR t a (dR fun s q:Nat=>(gR t a dst h).D ((s:Int),(q:Int))) n k p=(gR t a dst h).hit (gR t a dst h).D n k p:=by
  intro p
  rw [hitR,Gph.hit]
  rw [show (gR t a dst h).sk k p=skR t a k p from rfl]
  cases hsk:skR t a k p with
  | none=>rfl
  | some k' =>
   have hk':=mem_states.1 (skR_cls h hk hsk)
   have e:dR (fun s q:Nat=>(gR t a dst h).D ((s:Int),(q:Int))) k'=(gR t a dst h).D k':=by
    show (gR t a dst h).D (((k'.1.toNat:Nat):Int),((k'.2.toNat:Nat):Int))=_
    rw [show (((k'.1.toNat:Nat):Int),((k'.2.toNat:Nat):Int))=k' from by rw [Int.toNat_of_nonneg hk'.1.1,Int.toNat_of_nonneg hk'.2.1]]
   simp only [e]
 rw [Gph.first] at hp
 rw [stpP]
 simp only [hh]
 rw [show npR t k=(gR t a dst h).np k from rfl,hp]
attribute [local push_cast] cfg0 Top.encT Top.slI Top.slP Top.slL Top.encP Top.encPE encT slI slR slB slN encH ones_ints ones_bools ones_H getV_map getV_mapO lfl_lenH List.length_map Nat.mul_one tab_length getV_tab getV_tabO getV_tabP getV_tab1
theorem pc62 (t:Top.Tp) (x y:Int) (r:List Nd) (hf:t.fit) (hr:r.length≤4000000):FndR 62 t x y r:=by
 have hp:=hf.ports
 have hh:=hf.hosts
 rcases arg28 t x y r hf hr with ⟨e,he,h0,h28⟩ | ⟨p,ho,h28⟩
 ·refine .inl ⟨e,he,h0,?_⟩
  rw [argV] at h28 ⊢
  refine PC.walk tok mixed cfg0 Tryz.func62 rfl Tryz.call62 (by simp [Top.belT,Top.bel_Ps,Top.bel_Ls,Top.bel_slP,Top.bel_slL,belAll_append]) (by first | rfl | simp [Top.belT,Top.bel_Ps,Top.bel_Ls,Top.bel_slP,Top.bel_slL,belAll_append]) ?_;refine vms4 (get_flat_part Top.lenP) (get_flat_drop Top.lenP) (len_flat Top.lenP) Tryz.ntmps62 ?_
  refine callO.pc h28 ?_
  simp (maxSteps:=2000000) -implicitDefEqProofs +contextual (disch:=first | assumption | omega | decide +kernel) only [push_cast,↓capI,seval,Nat.reduceLeDiff,Nat.reduceEqDiff,reduceCtorEq,↓reduceIte,get_flat_part Top.lenP,get_flat_drop Top.lenP,len_flat Top.lenP,zTb,h0]
  refine endK.ret ?_ (by first | rfl | simp [Top.belT,Top.bel_Ps,Top.bel_Ls,Top.bel_slP,Top.bel_slL,belAll_append]);simp [evRes,getT,retV,Tryz.f62]
 refine .inr ⟨p,ho,?_⟩
 have hF:=fit_of ho
 have hpe:fit_of ho=hF:=rfl
 rw [hpe]
 clear hpe
 have hrng:=ho.rng
 rw [badR] at hrng
 have hv:=Top.chk_valid ho.top
 generalize autR p t.ports.length=a at hF h28 ⊢
 replace ho:=ho.top
 obtain ⟨x,rfl⟩:∃k:Nat,x=(k:Int):=⟨x.toNat,by omega⟩
 obtain ⟨y,rfl⟩:∃k:Nat,y=(k:Int):=⟨y.toNat,by omega⟩
 have hx:x<t.hosts.length:=by omega
 have hy:y<t.hosts.length:=by omega
 have ex:hostP t x=t.hosts[x]:=by rw [hostP,Int.toNat_natCast,List.getD_eq_getElem?_getD,List.getElem?_eq_getElem hx];rfl
 have ey:hostP t y=t.hosts[y]:=by rw [hostP,Int.toNat_natCast,List.getD_eq_getElem?_getD,List.getElem?_eq_getElem hy];rfl
 have hsr:=host_rng hF.top hx
 rw [ex,ey]
 generalize hsx:t.hosts[x]=src at hsr ⊢
 generalize hdx:t.hosts[y]=dst
 obtain ⟨ss,si⟩:=src
 obtain ⟨ds,di⟩:=dst
 simp only at hsr
 obtain ⟨ss,rfl⟩:∃k:Nat,ss=(k:Int):=⟨ss.toNat,by omega⟩
 have hss:ss<t.ports.length:=by omega
 have hn1:=hF.aut.rows
 have hn2:=hF.aut.accs
 have hpos:=hF.aut.pos
 have h64:=hF.few
 have hrow0:=hF.aut.row
 have h16:=hv.small
 have hall:=fun k s (h:0≤k∧k<(a.next.length:Int)) (h2:0≤s∧s<(t.ports.length:Int))=>nxA_rng hF.aut (q:=k) (s:=s) h h2
 have h29:=pc102 t hf a hF ds
 have h30:=fun (R:Nat→Nat→Int) (n:Int) (s q:Nat) (hs:s<t.ports.length) (hq:q<a.next.length)=>pc103 t hf a hF R n s q hs hq
 have hgF:findR t a hF ((ss:Int),si) (ds,di)=(if nxA a 0 (ss:Int)<0 then none else (if (gR t a ds hF).D ((ss:Int),nxA a 0 (ss:Int))<0 then none else some ((gR t a ds hF).walk ((gR t a ds hF).D ((ss:Int),nxA a 0 (ss:Int))).toNat ⟨(ss:Int),nxA a 0 (ss:Int),si,[]⟩)).map fun w=>finW w di):=rfl
 have hstpD:=fun (k:Int × Int) (hk:k ∈ statesR t a) (n p:Nat) (h:(gR t a ds hF).first n k=some p)=>stp_D (dst:=ds) hF hk h
 have hstp:∀w p,(gR t a ds hF).stp w p=stpR t a w p:=fun _ _=>rfl
 have hst:=fun (k:Int × Int)=>(mem_states (t:=t) (a:=a) (k:=k))
 have hln:=len_states (t:=t) (a:=a)
 have hkey:(gR t a ds hF).states=statesR t a:=rfl
 have hky:∀w,(gR t a ds hF).key w=kW w:=fun _=>rfl
 have hcls:=fun (k k':Int × Int) (p:Nat) (hk:k ∈ statesR t a) (h:skR t a k p=some k')=>skR_cls hF hk h
 have hsk:∀k p,(gR t a ds hF).sk k p=skR t a k p:=fun _ _=>rfl
 rw [hgF]
 clear hgF
 generalize hg:gR t a ds hF=g at h29 hstpD hstp hkey hky hsk ⊢
 clear hg
 have hDr:=fun k=>g.dN_rng g.states.length k
 have hNN:(statesR t a).length≤1024:=by
  rw [hln]
  exact Nat.le_trans (Nat.mul_le_mul h16 h64) (by decide)
 rw [argV] at h28 ⊢
 obtain ⟨an,ac⟩:=a
 simp only at hn2 hpos h64 hrow0 hall h29 h30
 have h0l:(an[0]'hpos).length=t.ports.length:=hrow0 _ (List.getElem_mem _)
 have hss0:ss<(an[0]'hpos).length:=by omega
 have hfst:(an[0]'hpos)[ss]=nxA ⟨an,ac⟩ 0 (ss:Int):=by
  rw [nxA,gI,Int.toNat_natCast]
  show _=(an.getD 0 []).getD ss 0
  rw [lgetD hpos,lgetD hss0]
 have hq0:=hall 0 (ss:Int) ⟨Int.le_refl _,by omega⟩ ⟨by omega,by omega⟩
 generalize hq:nxA ⟨an,ac⟩ 0 (ss:Int)=q0 at hfst hq0 ⊢
 by_cases hneg:q0<0
 ·rw [if_pos hneg]
  refine PC.walk tok mixed cfg0 Tryz.func62 rfl Tryz.call62 (by simp [Top.belT,Top.bel_Ps,Top.bel_Ls,Top.bel_slP,Top.bel_slL,belAll_append]) (by first | rfl | simp [Top.belT,Top.bel_Ps,Top.bel_Ls,Top.bel_slP,Top.bel_slL,belAll_append]) ?_;refine vms4 (get_flat_part Top.lenP) (get_flat_drop Top.lenP) (len_flat Top.lenP) Tryz.ntmps62 ?_
  refine callO.pc h28 ?_
  refine vms7 (get_flat_part Top.lenP) (get_flat_drop Top.lenP) (len_flat Top.lenP) hx hy hsx hdx ?_
  refine callG.pc1 h29 ?_
  refine vms11 (get_flat_part Top.lenP) (get_flat_drop Top.lenP) (len_flat Top.lenP) hx hy hsx hdx hpos hss0 hfst hneg ?_
  refine endK.ret ?_ (by first | rfl | simp [Top.belT,Top.bel_Ps,Top.bel_Ls,Top.bel_slP,Top.bel_slL,belAll_append]);simp [evRes,getT,retV,Tryz.f62,findV]
 rw [if_neg hneg]
 obtain ⟨q0,rfl⟩:∃k:Nat,q0=(k:Int):=⟨q0.toNat,by omega⟩
 have hqa:q0<an.length:=by omega
 have hw0:((ss:Int),(q0:Int)) ∈ statesR t ⟨an,ac⟩:=(hst _).2 ⟨⟨by simp only;omega,by simp only;omega⟩,by simp only;omega,by simp only;omega⟩
 have hD0:=hDr ((ss:Int),(q0:Int))
 rw [show g.dN g.states.length ((ss:Int),(q0:Int))=g.D ((ss:Int),(q0:Int)) from rfl,hkey] at hD0
 by_cases hdn:g.D ((ss:Int),(q0:Int))<0
 ·rw [if_pos hdn]
  refine PC.walk tok mixed cfg0 Tryz.func62 rfl Tryz.call62 (by simp [Top.belT,Top.bel_Ps,Top.bel_Ls,Top.bel_slP,Top.bel_slL,belAll_append]) (by first | rfl | simp [Top.belT,Top.bel_Ps,Top.bel_Ls,Top.bel_slP,Top.bel_slL,belAll_append]) ?_;refine vms4 (get_flat_part Top.lenP) (get_flat_drop Top.lenP) (len_flat Top.lenP) Tryz.ntmps62 ?_
  refine callO.pc h28 ?_
  refine vms7 (get_flat_part Top.lenP) (get_flat_drop Top.lenP) (len_flat Top.lenP) hx hy hsx hdx ?_
  refine callG.pc1 h29 ?_
  simp (maxSteps:=2000000) -implicitDefEqProofs +contextual (disch:=first | assumption | omega | decide +kernel) only [push_cast,↓capI,seval,Nat.reduceLeDiff,Nat.reduceEqDiff,reduceCtorEq,↓reduceIte,get_flat_part Top.lenP,get_flat_drop Top.lenP,len_flat Top.lenP,hx,hy,hsx,hdx,hpos,hss0,hfst,hneg,slM,rwI,hss,hqa,hdn]
  refine endK.ret ?_ (by first | rfl | simp [Top.belT,Top.bel_Ps,Top.bel_Ls,Top.bel_slP,Top.bel_slL,belAll_append]);simp [evRes,getT,retV,Tryz.f62,findV]
 rw [if_neg hdn]
 obtain ⟨n0,hn0⟩:∃k:Nat,g.D ((ss:Int),(q0:Int))=(k:Int):=⟨(g.D ((ss:Int),(q0:Int))).toNat,by omega⟩
 rw [hn0,Int.toNat_natCast,Option.map_some]
 generalize hres:finW (g.walk n0 ⟨(ss:Int),(q0:Int),si,[]⟩) di=res
 have hn04:n0≤1024:=by omega
 refine PC.walk tok mixed cfg0 Tryz.func62 rfl Tryz.call62 (by simp [Top.belT,Top.bel_Ps,Top.bel_Ls,Top.bel_slP,Top.bel_slL,belAll_append]) (by first | rfl | simp [Top.belT,Top.bel_Ps,Top.bel_Ls,Top.bel_slP,Top.bel_slL,belAll_append]) ?_;refine vms4 (get_flat_part Top.lenP) (get_flat_drop Top.lenP) (len_flat Top.lenP) Tryz.ntmps62 ?_
 refine callO.pc h28 ?_
 refine vms7 (get_flat_part Top.lenP) (get_flat_drop Top.lenP) (len_flat Top.lenP) hx hy hsx hdx ?_
 refine callG.pc1 h29 ?_
 simp (maxSteps:=2000000) -implicitDefEqProofs +contextual (disch:=first | assumption | omega | decide +kernel) only [push_cast,↓capI,seval,Nat.reduceLeDiff,Nat.reduceEqDiff,reduceCtorEq,↓reduceIte,get_flat_part Top.lenP,get_flat_drop Top.lenP,len_flat Top.lenP,hx,hy,hsx,hdx,hpos,hss0,hfst,hneg,slM,rwI,hss,hqa,hn0]
 refine T.lp tok mixed cfg0 (fun ((s:Nat × Wr × Nat))=>dd 2 (kp 1 (dd 1 (kp 1 (dd 5 (kp 1 (dd 1 (kp 2 (sv (.int .i64 s.2.1.q) (sv (.buf 3 s.2.2 0 s.2.1.out.length 3) (sv (.int .i64 (s.1:Int)) (dd 112 (nl))))))))))))) (fun H0 ((s:Nat × Wr × Nat))=>[.cells 0 (Top.encT t),.cells 0 (encT ⟨an,ac⟩),.cells 0 [.int .i64 s.2.1.sw,.int .i64 s.2.1.inp],.cells s.2.2 (s.2.1.out.flatMap encH)]) (fun ((s:Nat × Wr × Nat))=>g.D (kW s.2.1)=s.1∧finW (g.walk s.1 s.2.1) di=res∧kW s.2.1 ∈ statesR t ⟨an,ac⟩∧s.2.1.out.length+s.1=n0) (fun ((s:Nat × Wr × Nat))=>s.1) ((n0,⟨(ss:Int),(q0:Int),si,[]⟩,0)) ?_ ?_ ?_
 ·exact ⟨hn0,hres,hw0,by simp⟩
 ·refine (Gn.ownNil (t:=15) (sz:=3) rfl).trans ?_
  exact Gn.canon (J:=[]) (by first | rfl | (simp [List.append_nil,Top.encT,encT,slR,slB,slI,Top.encP,encH];done) | (simp [List.append_nil,Top.encT,encT,slR,slB,slI,Top.encP,encH];rfl)) (by simp [wk,Top.slP,putT,kp,dd,sv,nl]) (by simp [List.length_append,tab_length]) (by simp [Top.belT,Top.bel_Ps,Top.bel_Ls,Top.bel_slP,Top.bel_slL,belAll_append,kp,dd,sv,nl]) (by simp [Top.belT,Top.bel_Ps,Top.bel_Ls,Top.bel_slP,Top.bel_slL,belAll_append])
 intro s hs
 obtain ⟨n,w,ver⟩:=s
 obtain ⟨hDn,hwk,hk,hol⟩:=hs
 simp only at hDn hwk hk hol
 cases n with
 | zero =>
  obtain ⟨ws,wq,wi,wo⟩:=w
  simp only [Gph.walk,finW] at hwk
  have htk:List.take ((wo.length+1)*3) (wo.flatMap encH++[.int .i64 ws,.int .i64 wi,.int .i64 di])=wo.flatMap encH++[.int .i64 ws,.int .i64 wi,.int .i64 di]:=List.take_of_length_le (by rw [List.length_append,len_flat lenH];simp;omega)
  have hwl:wo.length≤4096:=by simp only at hol;omega
  simp (maxSteps:=2000000) -implicitDefEqProofs +contextual (disch:=first | assumption | omega | decide +kernel) only [push_cast,↓capI,seval,Nat.reduceLeDiff,Nat.reduceEqDiff,reduceCtorEq,↓reduceIte,get_flat_part Top.lenP,get_flat_drop Top.lenP,len_flat Top.lenP,hy,hdx,Int.natCast_zero]
  rw [←hwk]
  refine endK.gn (Gn.freeze (id:=3) rfl) ?_;refine endK.ret ?_ (by first | rfl | simp [Top.belT,Top.bel_Ps,Top.bel_Ls,Top.bel_slP,Top.bel_slL,belAll_append]);simp [Top.belT,Top.bel_Ps,Top.bel_Ls,Top.bel_slP,Top.bel_slL,belAll_append,fzs_ok,imp,lenOK_iff,List.take_of_length_le,evRes,getT,getO,setO,fzs,fz,fzH,Nat.beq,retV,Res.then,ldT,ldR,mkV,getV,cfg0,Top.encT,Top.slI,Top.slP,Top.slL,Top.encP,Top.encPE,encT,slI,slR,slB,slN,encH,ones_ints,ones_bools,ones_H,getV_map,getV_mapO,get_flat_part Top.lenP,get_flat_drop Top.lenP,len_flat Top.lenP,len_flat lenH,List.length_map,Nat.mul_one,tab_length,getV_tab,getV_tabO,getV_tabP,getV_tab1,Tryz.f62,findV,slH,encH,htk]
 | succ n =>
  obtain ⟨p,w',hfp,_,hsp,hskp,hDw,hwe,_⟩:=g.walk_step (n:=n) (w:=w) (by rw [hky];exact hDn)
  rw [hky] at hfp hskp
  rw [hky] at hDw hskp
  rw [hwe] at hwk
  rw [hstp] at hsp
  rw [hsk] at hskp
  have hk':=hcls _ _ _ hk hskp
  have hstep:=hstpD _ hk n p hfp
  obtain ⟨ws,wq,wi,wo⟩:=w
  have hkr:=(hst _).1 hk
  simp only [kW] at hkr hstep hol
  obtain ⟨ws,rfl⟩:∃k:Nat,ws=(k:Int):=⟨ws.toNat,by omega⟩
  obtain ⟨wq,rfl⟩:∃k:Nat,wq=(k:Int):=⟨wq.toNat,by omega⟩
  have hwq:wq<an.length:=by omega
  have hws:ws<t.ports.length:=by omega
  have h30':=h30 (fun s q=>g.D ((s:Int),(q:Int))) n ws wq hws hwq
  rw [hstep] at h30'
  have h31:=Top.pc104 t ((ws:Int),(p:Int)) hf
  have hpr2:=fun h=>peer_rng ho (p:=((ws:Int),(p:Int))) h
  rw [stpR] at hsp
  simp only at hsp
  generalize Top.peer t ((ws:Int),(p:Int))=pe at h31 hsp hpr2
  obtain ⟨⟨ps,pp⟩,er⟩:=pe
  simp only at hsp hpr2
  by_cases her:er=0
  case neg=>rw [if_pos her] at hsp;cases hsp
  rw [if_neg (by omega)] at hsp
  have hpr2:=hpr2 her
  obtain ⟨ps,rfl⟩:∃k:Nat,ps=(k:Int):=⟨ps.toNat,by omega⟩
  have hrw:(an[wq]'hwq).length=t.ports.length:=hrow0 _ (List.getElem_mem _)
  have hps:ps<(an[wq]'hwq).length:=by omega
  have hnv:(an[wq]'hwq)[ps]=nxA ⟨an,ac⟩ (wq:Int) (ps:Int):=by
   rw [nxA,gI,Int.toNat_natCast,Int.toNat_natCast]
   show _=(an.getD wq []).getD ps 0
   rw [lgetD hwq,lgetD hps]
  generalize nxA ⟨an,ac⟩ (wq:Int) (ps:Int)=nq at hsp hnv
  by_cases hnq:nq<0
  ·rw [if_pos hnq] at hsp;cases hsp
  rw [if_neg hnq] at hsp
  cases hsp
  have hn1:(n:Int)+1-1=(n:Int):=by omega
  have hn0':(0:Int)<(n:Int)+1:=by omega
  have hwl:wo.length≤4096:=by omega
  refine vms5 (get_flat_part Top.lenP) (get_flat_drop Top.lenP) (len_flat Top.lenP) hn0' hn1 ?_
  refine callO.pc h30' ?_
  refine vms4 (get_flat_part Top.lenP) (get_flat_drop Top.lenP) (len_flat Top.lenP) hn1 ?_
  refine callO.pc h31 ?_
  refine vms8 (get_flat_part Top.lenP) (get_flat_drop Top.lenP) (len_flat Top.lenP) her hwq hps hnv hn1 ?_
  refine ⟨(n,⟨(ps:Int),nq,pp,wo++[⟨(ws:Int),wi,(p:Int)⟩]⟩,ver+1),⟨hDw,hwk,hk',by simp;omega⟩,by (try simp only);omega,?_⟩;exact Gn.canon (by first | rfl | (simp [List.append_nil,Top.encT,encT,slR,slB,slI,Top.encP,encH];rfl)) (by simp [wk,Top.slP]) (by simp [List.length_append,tab_length]) (by simp [Top.belT,Top.bel_Ps,Top.bel_Ls,Top.bel_slP,Top.bel_slL,belAll_append]) (by simp [Top.belT,Top.bel_Ps,Top.bel_Ls,Top.bel_slP,Top.bel_slL,belAll_append])
end
end Go.Proofs.YtlbmbbaefncleaaGreatDoor.Px

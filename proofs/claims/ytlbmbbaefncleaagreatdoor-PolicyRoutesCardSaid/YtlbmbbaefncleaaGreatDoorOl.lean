/-
  Joined by a program from the texts PxRli PxRre PxRrf PxRpt PxRmi PxPtq PxSbw PxRq2 PxBle.
-/
import Derived.Test.YtlbmbbaefncleaaGreatDoorOg
import Derived.Test.YtlbmbbaefncleaaGreatDoorOh
import Derived.Test.YtlbmbbaefncleaaGreatDoorOi
import Derived.Test.YtlbmbbaefncleaaGreatDoorOk
import Derived.Test.YtlbmbbaefncleaaGreatDoorOd
import Derived.Test.YtlbmbbaefncleaaGreatDoorOj
import Derived.Test.YtlbmbbaefncleaaGreatDoorOa
set_option maxRecDepth 100000
set_option maxHeartbeats 4000000
set_option linter.all false
namespace Go.Proofs.YtlbmbbaefncleaaGreatDoor.Px
open Go.Vm
section
@[simp] theorem bel_setB {n q:Nat} {b:Bool} {o:List Bool}:belAll n ((o.map V.bool).set q (V.bool b))=true:=by
 rw [←List.map_set];exact bel_bools _
theorem chk_rest' {α:Type} {f:α→Bool} {l:List α} {i:Nat} (h:i<l.length) (hp:(l.take i).any f=false):(f l[i]=true→l.any f=true)∧(f l[i]=false→(l.take (i+1)).any f=false):=by
 refine ⟨fun hf=>List.any_eq_true.2 ⟨_,List.getElem_mem h,hf⟩,fun hf=>?_⟩
 rw [List.take_succ_eq_append_getElem h,List.any_append,hp,List.any_cons,hf]
 rfl
attribute [local push_cast] cfg0 ones_ints ones_bools getV_map getV_mapO List.length_map Nat.mul_one slI slR slB encT
theorem pc221 {n m:Nat} {t:Tb} (ht:okT n m t):PC Tryz.prog 221 [.agg (encT t)] (slB (liveS t)):=by
 have hn1:=ht.rows
 have hn2:=ht.accs
 have hpos:=ht.pos
 have hbig:=ht.big
 have hcols:=ht.cols
 obtain ⟨next,acc⟩:=t
 simp only at hn1 hn2
 have htk0:List.take acc.length (acc.map V.bool)=acc.map V.bool:=List.take_of_length_le (by simp)
 refine PC.walk tok mixed cfg0 Tryz.func221 rfl Tryz.call221 (by simp) (by first | rfl | simp) ?_;refine vms1 Tryz.ntmps221 ?_
 refine vms1 htk0 ?_
 refine T.lp tok mixed cfg0 (fun ((s:List Bool × Bool))=>dd 1 (kp 1 (dd 1 (kp 1 (sv (.bool s.2) (dd 51 (nl))))))) (fun H0 ((s:List Bool × Bool))=>[.cells 0 (encT ⟨next,acc⟩),.cells 0 (s.1.map .bool)]) (fun ((s:List Bool × Bool))=>s.1.length=acc.length∧(s.2=true→liveF ⟨next,acc⟩ (cntF s.1+1) s.1=liveS ⟨next,acc⟩)∧(s.2=false→s.1=liveS ⟨next,acc⟩)) (fun ((s:List Bool × Bool))=>2*cntF s.1+cond s.2 1 0) ((acc,true)) ?_ ?_ ?_
 ·exact ⟨rfl,fun _=>rfl,fun h=>by simp at h⟩
 ·exact Gn.canon (J:=_) (by first | rfl | (simp [List.append_nil,encT,slR,slB,slI,liveN0];done) | (simp [List.append_nil,encT,slR,slB,slI,liveN0];rfl)) (by simp [wk,liveN0,putT,kp,dd,sv,nl]) (by simp [List.length_append]) (by simp [kp,dd,sv,nl]) (by simp)
 ·intro s hs
  obtain ⟨o,ch⟩:=s
  obtain ⟨hol,htr,hfa⟩:=hs
  simp only at hol htr hfa
  cases ch with
  | false =>
   have hfa:=hfa rfl
   rw [←hfa]
   have htk:List.take acc.length (o.map V.bool)=o.map V.bool:=List.take_of_length_le (by simp;omega)
   refine vms0 ?_
   refine endK.gn (Gn.freeze (id:=1) rfl) ?_;refine endK.retA ?_;simp [fzs_ok,imp,lenOK_iff,List.take_of_length_le,evRes,getT,getO,setO,fzs,fz,fzH,Nat.beq,retV,Res.then,ldT,ldR,mkV,getV,cfg0,ones_ints,ones_bools,getV_map,getV_mapO,List.length_map,Nat.mul_one,slI,slR,slB,encT,Tryz.f221,slB,htk,hol]
  | true =>
   have htr:=htr rfl
   have hstep:=liveF_step ⟨next,acc⟩ (k:=cntF o+1) (o:=o) (by simp only;omega) (by omega)
   rw [htr] at hstep
   refine vms0 ?_
   refine T.lp tok mixed cfg0 (fun ((q:Nat))=>dd 1 (kp 1 (dd 1 (kp 1 (sv (.bool (liveN ⟨next,acc⟩ o q).2) (sv (.int .i64 (q:Int)) (dd 50 (nl)))))))) (fun H0 ((q:Nat))=>[.cells 0 (encT ⟨next,acc⟩),.cells 0 ((liveN ⟨next,acc⟩ o q).1.map .bool)]) (fun ((q:Nat))=>q≤next.length) (fun ((q:Nat))=>next.length-q) (0) ?_ ?_ ?_
   ·omega
   ·exact Gn.canon (J:=_) (by first | rfl | (simp [List.append_nil,encT,slR,slB,slI,liveN0];done) | (simp [List.append_nil,encT,slR,slB,slI,liveN0];rfl)) (by simp [wk,liveN0,putT,kp,dd,sv,nl]) (by simp [List.length_append]) (by simp [kp,dd,sv,nl]) (by simp)
   ·intro q hq
    have hq0:q≤next.length:=hq
    have hol2:=liveN_len ⟨next,acc⟩ o q
    have hcn:=(liveN_cnt ⟨next,acc⟩ o (by simp only;omega) q hq0).1
    have hnx:liveN ⟨next,acc⟩ o (q+1)=liveI ⟨next,acc⟩ q (liveN ⟨next,acc⟩ o q):=rfl
    have hlast:q=next.length→pass ⟨next,acc⟩ o=liveN ⟨next,acc⟩ o q:=fun e=>by rw [e];rfl
    generalize hs:liveN ⟨next,acc⟩ o q=s at hol2 hnx hlast hcn
    simp only [hs]
    obtain ⟨o2,c2⟩:=s
    simp only at hol2 hcn
    by_cases hlt:q<next.length
    ·have hqa:q<acc.length:=by omega
     have hqo:q<o2.length:=by omega
     have hgo:o2.getD q false=o2[q]:=lgetD hqo
     have hgr:next.getD q []=next[q]:=lgetD hlt
     have hrow:=ht.row next[q] (List.getElem_mem hlt)
     have hrng:=ht.rng next[q] (List.getElem_mem hlt)
     have hI:liveI ⟨next,acc⟩ q (o2,c2)=if o2[q]=false∧toL o2 next[q]=true then (o2.set q true,true) else (o2,c2):=by rw [liveI];simp only [hgo,hgr]
     refine vms1 hqa ?_
     refine T.lp tok mixed cfg0 (fun ((s:Nat × Bool))=>dd 1 (kp 1 (dd 1 (kp 1 (sv (.bool (cond s.2 true c2)) (kp 1 (sv (.int .i64 (s.1:Int)) (dd 49 (nl))))))))) (fun H0 ((s:Nat × Bool))=>[.cells 0 (encT ⟨next,acc⟩),.cells 0 ((cond s.2 (o2.set q true) o2).map .bool)]) (fun ((s:Nat × Bool))=>s.1≤next[q].length∧(s.2=false→o2[q]=false→(next[q].take s.1).any (fun x=>decide (0≤x)&&gB o2 x)=false)∧(s.2=true→o2[q]=false∧toL o2 next[q]=true)) (fun ((s:Nat × Bool))=>next[q].length-s.1) ((0,false)) ?_ ?_ ?_
     ·exact ⟨by simp only;omega,fun _ _=>rfl,fun h=>by simp at h⟩
     ·exact Gn.canon (J:=_) (by first | rfl | (simp [List.append_nil,encT,slR,slB,slI,liveN0];done) | (simp [List.append_nil,encT,slR,slB,slI,liveN0];rfl)) (by simp [wk,liveN0,putT,kp,dd,sv,nl]) (by simp [List.length_append]) (by simp [kp,dd,sv,nl]) (by simp)
     ·intro s hs
      obtain ⟨j,b⟩:=s
      obtain ⟨hj,hb0,hb1⟩:=hs
      simp only at hj hb0 hb1
      cases b with
      | true =>
       obtain ⟨h1,h2⟩:=hb1 rfl
       rw [hI,if_pos ⟨h1,h2⟩] at hnx
       have hset:(o2.set q true)[q]'(by simpa using hqo)=true:=by simp
       have hqs:q<(o2.set q true).length:=by simpa using hqo
       by_cases hjl:j<next[q].length
       ·simp (maxSteps:=2000000) -implicitDefEqProofs +contextual (disch:=first | assumption | omega | decide +kernel) only [push_cast,↓capI,seval,Nat.reduceLeDiff,Nat.reduceEqDiff,reduceCtorEq,↓reduceIte,hlt,hjl,hqa,hqs,hset,cond_true]
        refine ⟨(q+1),by omega,by (try simp only);omega,?_⟩;exact Gn.canon (by first | rfl | (simp [List.append_nil,encT,slR,slB,slI,liveN0,hnx];rfl)) (by simp [wk,liveN0,hnx]) (by simp [List.length_append]) (by simp) (by simp)
       ·simp (maxSteps:=2000000) -implicitDefEqProofs +contextual (disch:=first | assumption | omega | decide +kernel) only [push_cast,↓capI,seval,Nat.reduceLeDiff,Nat.reduceEqDiff,reduceCtorEq,↓reduceIte,hlt,hjl,hqa,hqs,hset,cond_true]
        refine ⟨(q+1),by omega,by (try simp only);omega,?_⟩;exact Gn.canon (by first | rfl | (simp [List.append_nil,encT,slR,slB,slI,liveN0,hnx];rfl)) (by simp [wk,liveN0,hnx]) (by simp [List.length_append]) (by simp) (by simp)
      | false =>
       have hb0:=hb0 rfl
       by_cases hjl:j<next[q].length
       ·cases hoq:o2[q] with
        | true =>
         rw [hI,if_neg (by rw [hoq];simp)] at hnx
         simp (maxSteps:=2000000) -implicitDefEqProofs +contextual (disch:=first | assumption | omega | decide +kernel) only [push_cast,↓capI,seval,Nat.reduceLeDiff,Nat.reduceEqDiff,reduceCtorEq,↓reduceIte,hlt,hjl,hqa,hqo,hoq,cond_false]
         refine ⟨(q+1),by omega,by (try simp only);omega,?_⟩;exact Gn.canon (by first | rfl | (simp [List.append_nil,encT,slR,slB,slI,liveN0,hnx];rfl)) (by simp [wk,liveN0,hnx]) (by simp [List.length_append]) (by simp) (by simp)
        | false =>
         have hb0:=hb0 hoq
         have hr:=chk_rest' hjl hb0
         have hx:=hrng _ (List.getElem_mem hjl)
         have hset:=set_bools hqo
         by_cases hneg:0≤next[q][j]
         ·obtain ⟨k,hk⟩:∃k:Nat,next[q][j]=(k:Int):=⟨next[q][j].toNat,by omega⟩
          have hka:k<acc.length:=by omega
          have hko:k<o2.length:=by omega
          have hgk:gB o2 (k:Int)=o2[k]:=by rw [gB,Int.toNat_natCast];exact lgetD hko
          rw [hk,hgk,decide_eq_true (by omega),Bool.true_and] at hr
          cases hok:o2[k] with
          | true =>
           have h2:=hr.1 hok
           simp (maxSteps:=2000000) -implicitDefEqProofs +contextual (disch:=first | assumption | omega | decide +kernel) only [push_cast,↓capI,seval,Nat.reduceLeDiff,Nat.reduceEqDiff,reduceCtorEq,↓reduceIte,hlt,hjl,hqa,hqo,hoq,hk,hka,hko,hok,hset,cond_false]
           refine ⟨(j+1,true),⟨by simp only;omega,fun h=>by simp at h,fun _=>h2⟩,by (try simp only);omega,?_⟩;exact Gn.canon (by first | rfl | (simp [List.append_nil,encT,slR,slB,slI,liveN0];rfl)) (by simp [wk,liveN0]) (by simp [List.length_append]) (by simp) (by simp)
          | false =>
           have h2:=hr.2 hok
           simp (maxSteps:=2000000) -implicitDefEqProofs +contextual (disch:=first | assumption | omega | decide +kernel) only [push_cast,↓capI,seval,Nat.reduceLeDiff,Nat.reduceEqDiff,reduceCtorEq,↓reduceIte,hlt,hjl,hqa,hqo,hoq,hk,hka,hko,hok,hset,cond_false]
           refine ⟨(j+1,false),⟨by simp only;omega,fun _=>h2,fun h=>by simp at h⟩,by (try simp only);omega,?_⟩;exact Gn.canon (by first | rfl | (simp [List.append_nil,encT,slR,slB,slI,liveN0];rfl)) (by simp [wk,liveN0]) (by simp [List.length_append]) (by simp) (by simp)
         ·have h2:=hr.2 (by rw [decide_eq_false hneg];rfl)
          simp (maxSteps:=2000000) -implicitDefEqProofs +contextual (disch:=first | assumption | omega | decide +kernel) only [push_cast,↓capI,seval,Nat.reduceLeDiff,Nat.reduceEqDiff,reduceCtorEq,↓reduceIte,hlt,hjl,hqa,hqo,hoq,hneg,cond_false]
          refine ⟨(j+1,false),⟨by simp only;omega,fun _=>h2,fun h=>by simp at h⟩,by (try simp only);omega,?_⟩;exact Gn.canon (by first | rfl | (simp [List.append_nil,encT,slR,slB,slI,liveN0];rfl)) (by simp [wk,liveN0]) (by simp [List.length_append]) (by simp) (by simp)
       ·have hjn:j=next[q].length:=by omega
        rw [hjn,List.take_length] at hb0
        have:¬(o2[q]=false∧toL o2 next[q]=true):=fun h=>by
         have:=hb0 h.1
         rw [toL] at h
         rw [this] at h
         exact absurd h.2 (by decide)
        rw [hI,if_neg this] at hnx
        simp (maxSteps:=2000000) -implicitDefEqProofs +contextual (disch:=first | assumption | omega | decide +kernel) only [push_cast,↓capI,seval,Nat.reduceLeDiff,Nat.reduceEqDiff,reduceCtorEq,↓reduceIte,hlt,hjl,cond_false]
        refine ⟨(q+1),by omega,by (try simp only);omega,?_⟩;exact Gn.canon (by first | rfl | (simp [List.append_nil,encT,slR,slB,slI,liveN0,hnx];rfl)) (by simp [wk,liveN0,hnx]) (by simp [List.length_append]) (by simp) (by simp)
    ·have hqn:q=next.length:=by omega
     have hqa:¬q<acc.length:=by omega
     rw [hlast hqn] at hstep
     cases c2 with
     | true =>
      have h1:=hstep.1 rfl
      simp only at h1
      refine vms1 hqa ?_
      refine ⟨(o2,true),⟨by simp only;omega,fun _=>by rw [←h1.2];exact liveF_any _ _ _ (by simp only;omega) (by simp only;omega) _ (by simp only;omega),fun h=>by simp at h⟩,by show 2*cntF o2+1<2*cntF o+1;omega,?_⟩;exact Gn.canon (by first | rfl | (simp [List.append_nil,encT,slR,slB,slI,liveN0];rfl)) (by simp [wk,liveN0]) (by simp [List.length_append]) (by simp) (by simp)
     | false =>
      have h1:=hstep.2 rfl
      refine vms1 hqa ?_
      refine ⟨(o2,false),⟨by simp only;omega,fun h=>by simp at h,fun _=>h1⟩,by show 2*cntF o2+0<2*cntF o+1;omega,?_⟩;exact Gn.canon (by first | rfl | (simp [List.append_nil,encT,slR,slB,slI,liveN0];rfl)) (by simp [wk,liveN0]) (by simp [List.length_append]) (by simp) (by simp)
theorem pc202 {c:List Int} {x:Int} (h:x<(c.length:Int)):PC Tryz.prog 202 [slI c,.int .i64 x] (.int .i64 (if 0≤x then gI c x else -1)):=by
 by_cases hx:0≤x
 ·obtain ⟨k,rfl⟩:∃k:Nat,x=(k:Int):=⟨x.toNat,by omega⟩
  have hk:k<c.length:=by omega
  have hg:gI c (k:Int)=c[k]:=by rw [gI,Int.toNat_natCast];exact lgetD hk
  rw [if_pos hx,hg]
  refine PC.walk tok mixed cfg0 Tryz.func202 rfl Tryz.call202 (by simp) (by first | rfl | simp) ?_;refine vms1 Tryz.ntmps202 ?_
  (try refine vms1 hk ?_)
  refine endK.retA ?_;simp [evRes,getT,retV,Tryz.f202]
 ·rw [if_neg hx]
  refine PC.walk tok mixed cfg0 Tryz.func202 rfl Tryz.call202 (by simp) (by first | rfl | simp) ?_;refine vms1 Tryz.ntmps202 ?_
  (try refine vms1 hx ?_)
  refine endK.retA ?_;simp [evRes,getT,retV,Tryz.f202]
end
section
def fC (c:List Int) (x:Int):Int:=if 0≤x then gI c x else -1
theorem sigO_eq {c row:List Int} {q:Nat}:sigO c row q=c.getD q 0::row.map (fC c):=rfl
@[simp] theorem bel_ixs {n:Nat} (l:List Nat):belAll n (l.map fun (q:Nat)=>V.int .i64 (q:Int))=true:=belAll_map (fun _=>rfl) l
attribute [local push_cast] cfg0 ones_ints ones_bools getV_map getV_mapO List.length_map Nat.mul_one slI slR slB encT
theorem pc235 {n m:Nat} {t:Tb} (ht:okT n m t) {c:List Int} (hc:c.length=n) {i j:Nat} (hi:i<n) (hj:j<n) :
  PC Tryz.prog 235 [.agg (encT t),slI c,.int .i64 (i:Int),.int .i64 (j:Int)] (.bool (decide (sigO c (t.next.getD i []) i=sigO c (t.next.getD j []) j))):=by
 have hn1:=ht.rows
 have hcols:=ht.cols
 have hbig:=ht.big
 obtain ⟨next,acc⟩:=t
 simp only at hn1
 have hin:i<next.length:=by omega
 have hjn:j<next.length:=by omega
 have hic:i<c.length:=by omega
 have hjc:j<c.length:=by omega
 have hri:=ht.row next[i] (List.getElem_mem hin)
 have hrj:=ht.row next[j] (List.getElem_mem hjn)
 have hgi:=ht.rng next[i] (List.getElem_mem hin)
 have hgj:=ht.rng next[j] (List.getElem_mem hjn)
 simp only [sigO_eq,show next.getD i []=next[i] from lgetD hin,show next.getD j []=next[j] from lgetD hjn,show c.getD i 0=c[i] from lgetD hic,show c.getD j 0=c[j] from lgetD hjc]
 by_cases hcc:c[i]=c[j]
 ·refine PC.walk tok mixed cfg0 Tryz.func235 rfl Tryz.call235 (by simp [belAll_append]) (by first | rfl | simp [belAll_append]) ?_;refine vms1 Tryz.ntmps235 ?_
  refine vms3 hic hjc hcc ?_
  refine T.lp tok mixed cfg0 (fun ((s:Nat))=>dd 1 (kp 4 (dd 4 (sv (.int .i64 (s:Int)) (dd 40 (nl)))))) (fun H0 ((s:Nat))=>H0) (fun ((s:Nat))=>s≤m∧(next[i].take s).map (fC c)=(next[j].take s).map (fC c)) (fun ((s:Nat))=>m-s) (0) ?_ ?_ ?_
  ·exact ⟨by omega,rfl⟩
  ·exact Gn.canon (J:=_) (by first | rfl | (simp [List.append_nil,encT,slR,slB,slI,refN0];done) | (simp [List.append_nil,encT,slR,slB,slI,refN0];rfl)) (by simp [wk,refN0,putT,kp,dd,sv,nl]) (by simp [List.length_append]) (by simp [belAll_append,kp,dd,sv,nl]) (by simp [belAll_append])
  ·intro s hs
   obtain ⟨hs,he⟩:=hs
   by_cases hlt:s<m
   ·have hsi:s<next[i].length:=by omega
    have hsj:s<next[j].length:=by omega
    have hxi:=hgi _ (List.getElem_mem hsi)
    have hxj:=hgj _ (List.getElem_mem hsj)
    have h1:=pc202 (c:=c) (x:=next[i][s]) (by omega)
    have h2:=pc202 (c:=c) (x:=next[j][s]) (by omega)
    rw [show (if 0≤next[i][s] then gI c next[i][s] else -1)=fC c next[i][s] from rfl] at h1
    rw [show (if 0≤next[j][s] then gI c next[j][s] else -1)=fC c next[j][s] from rfl] at h2
    by_cases heq:fC c next[i][s]=fC c next[j][s]
    ·have he2:(next[i].take (s+1)).map (fC c)=(next[j].take (s+1)).map (fC c):=by
      rw [List.take_succ_eq_append_getElem hsi,List.take_succ_eq_append_getElem hsj,List.map_append,List.map_append,he,List.map_singleton,List.map_singleton,heq]
     refine vms4 hin hjn hsi hsj ?_
     refine callG.pc1 h1 ?_
     refine vms0 ?_
     refine callG.pc1 h2 ?_
     refine vms1 heq ?_
     refine ⟨(s+1),⟨by omega,he2⟩,by (try simp only);omega,?_⟩;exact Gn.canon (by first | rfl | (simp [List.append_nil,encT,slR,slB,slI,refN0];rfl)) (by simp [wk,refN0]) (by simp [List.length_append]) (by simp [belAll_append]) (by simp [belAll_append])
    ·have hne:¬(c[j]::next[i].map (fC c)=c[j]::next[j].map (fC c)):=fun h=>by
      injection h with _ h
      have e1:(next[i].map (fC c))[s]? = (next[j].map (fC c))[s]?:=by rw [h]
      rw [List.getElem?_map,List.getElem?_map,List.getElem?_eq_getElem hsi,List.getElem?_eq_getElem hsj] at e1
      simp only [Option.map_some,Option.some.injEq] at e1
      exact heq e1
     rw [decide_eq_false hne]
     refine vms4 hin hjn hsi hsj ?_
     refine callG.pc1 h1 ?_
     refine vms0 ?_
     refine callG.pc1 h2 ?_
     refine vms1 heq ?_
     refine endK.ret ?_ (by first | rfl | simp [belAll_append]);simp [evRes,getT,retV,Tryz.f235]
   ·have hsm:s=m:=by omega
    have hsi:¬s<next[i].length:=by omega
    have heq:c[j]::next[i].map (fC c)=c[j]::next[j].map (fC c):=by
     rw [List.take_of_length_le (by omega),List.take_of_length_le (by omega)] at he
     rw [he]
    rw [decide_eq_true heq]
    refine vms2 hin hsi ?_
    refine endK.ret ?_ (by first | rfl | simp [belAll_append]);simp [evRes,getT,retV,Tryz.f235]
 ·rw [decide_eq_false (fun h=>hcc (by injection h))]
  refine PC.walk tok mixed cfg0 Tryz.func235 rfl Tryz.call235 (by simp [belAll_append]) (by first | rfl | simp [belAll_append]) ?_;refine vms1 Tryz.ntmps235 ?_
  (try refine vms3 hic hjc hcc ?_)
  refine endK.ret ?_ (by first | rfl | simp [belAll_append]);simp [evRes,getT,retV,Tryz.f235]
end
section
def sgq (t:Tb) (c:List Int) (q:Nat):List Int:=sigO c (t.next.getD q []) q
abbrev nI (q:Nat):V:=.int .i64 (q:Int)
def cfgR:Cfg:={ lv:=[],ef:=[40],ord:=[],em:=[] }
def fnd (t:Tb) (c:List Int) (i:Nat) (F:List Nat) (j:Nat):Int:=match idxL (sgq t c i) ((F.take j).map (sgq t c)) with | some k=>(k:Int) | none=>-1
theorem idxL_app {x:List Int}:∀ {a b:List (List Int)},idxL x (a++b)=match idxL x a with | some k=>some k | none=>(idxL x b).map (· + a.length)
 | [],b=>by simp [idxL]
 | y::a,b=>by
  simp only [List.cons_append,idxL]
  by_cases e:x=y
  ·simp [e]
  ·simp only [e,if_false,idxL_app (a:=a) (b:=b)]
   cases idxL x a with
   | some k=>rfl
   | none =>
    simp only [Option.map_none,List.length_cons]
    cases idxL x b<;>simp
    omega
theorem fnd_succ {t:Tb} {c:List Int} {i:Nat} {F:List Nat} {j:Nat} (h:j<F.length) :
  fnd t c i F (j+1)=if fnd t c i F j<0∧sgq t c F[j]=sgq t c i then (j:Int) else fnd t c i F j:=by
 rw [fnd,List.take_succ_eq_append_getElem h,List.map_append,idxL_app,fnd]
 cases hk:idxL (sgq t c i) ((F.take j).map (sgq t c)) with
 | some k=>simp;intro h;omega
 | none =>
  simp only [List.map_cons,List.map_nil,idxL]
  by_cases e:sgq t c i=sgq t c F[j]
  ·rw [if_pos e,if_pos ⟨by decide,e.symm⟩]
   simp [Nat.min_eq_left (Nat.le_of_lt h)]
  ·rw [if_neg e,if_neg (fun h=>e h.2.symm)]
   rfl
attribute [local push_cast] cfg0 cfgR ones_ints ones_bools getV_map getV_mapO List.length_map Nat.mul_one slI slR slB encT
theorem pc222 {n m:Nat} {t:Tb} (ht:okT n m t) {c:List Int} (hc:c.length=n):PC Tryz.prog 222 [.agg (encT t),slI c] (.tup [slI (ref t c).1,.int .i64 ((ref t c).2.length:Int)]):=by
 have hn1:=ht.rows
 have hpos:=ht.pos
 have hbig:=ht.big
 have hcols:=ht.cols
 have h63:=fun i j (hi:i<n) (hj:j<n)=>pc235 ht hc hi hj
 have hfin:=refN_len t c n
 rw [show ref t c=refN t c n by rw [ref,hn1]]
 obtain ⟨next,acc⟩:=t
 simp only at hn1
 obtain ⟨F0,hF0⟩:∃F0:List Nat,F0=[]:=⟨_,rfl⟩
 refine PC.walk tok mixed cfg0 Tryz.func222 rfl Tryz.call222 (by simp [belAll_append]) (by first | rfl | simp [belAll_append]) ?_;refine vms1 Tryz.ntmps222 ?_
 refine T.lp tok mixed cfg0 (fun ((s:Nat × List Nat))=>dd 1 (kp 2 (dd 3 (sv (.buf 1 s.1 0 s.1 1) (sv (.buf 2 s.2.length 0 s.2.length 1) (sv (.int .i64 (s.1:Int)) (dd 56 (nl)))))))) (fun H0 ((s:Nat × List Nat))=>[.cells 0 (encT ⟨next,acc⟩),.cells s.1 ((refN ⟨next,acc⟩ c s.1).1.map (.int .i64)),.cells s.2.length (s.2.map nI)]) (fun ((s:Nat × List Nat))=>s.1≤n∧s.2.map (sgq ⟨next,acc⟩ c)=(refN ⟨next,acc⟩ c s.1).2∧(∀q ∈ s.2,q<n)∧s.2.length≤s.1) (fun ((s:Nat × List Nat))=>n-s.1) ((0,[])) ?_ ?_ ?_
 ·exact ⟨by simp only;omega,rfl,fun q hq=>by simp at hq,by simp⟩
 ·refine (Gn.ownNil (t:=6) (sz:=1) rfl).trans ((Gn.ownNil (t:=7) (sz:=1) rfl).trans ?_)
  exact Gn.canon (J:=[]) (by simp [List.append_nil,encT,slR,slB,slI,refN0]) (by simp [wk,refN0,putT,putT,kp,dd,sv,nl]) (by simp [List.length_append]) (by simp [belAll_append,kp,dd,sv,nl]) (by simp [belAll_append])
 ·intro s hs
  obtain ⟨i,F⟩:=s
  obtain ⟨hi,hF,hFn,hFl⟩:=hs
  simp only at hi hF hFn hFl
  have hrl:=refN_len ⟨next,acc⟩ c i
  have hnx:refN ⟨next,acc⟩ c (i+1)=refI ⟨next,acc⟩ c i (refN ⟨next,acc⟩ c i):=rfl
  have hsl:=congrArg List.length hF
  rw [List.length_map] at hsl
  have hlast:i=n→refN ⟨next,acc⟩ c n=refN ⟨next,acc⟩ c i:=fun e=>by rw [e]
  generalize hR:refN ⟨next,acc⟩ c i=r at hrl hnx hF hsl hlast
  simp only [hR]
  obtain ⟨out,sigs⟩:=r
  simp only at hrl hF hsl
  by_cases hlt:i<n
  ·have hic:i<c.length:=by omega
   have hgc:c.getD i 0=c[i]:=lgetD hic
   have hFd:fnd ⟨next,acc⟩ c i F F.length=match idxL (sgq ⟨next,acc⟩ c i) sigs with | some k=>(k:Int) | none=>-1:=by rw [fnd,List.take_length,hF]
   refine vms2 hlt hic ?_
   refine T.lp tok mixed cfg0 (fun ((j:Nat))=>dd 1 (kp 2 (dd 3 (kp 3 (sv (.int .i64 (fnd ⟨next,acc⟩ c i F j)) (sv (.int .i64 (j:Int)) (dd 54 (nl)))))))) (fun H0 ((j:Nat))=>H0) (fun ((j:Nat))=>j≤F.length∧(c[i]<0→j=0)) (fun ((j:Nat))=>F.length-j) (0) ?_ ?_ ?_
   ·exact ⟨by omega,fun _=>rfl⟩
   ·exact Gn.canon (J:=[]) (by simp [List.append_nil,encT,slR,slB,slI,refN0]) (by simp [wk,refN0,putT,putT,kp,dd,sv,nl,fnd,idxL]) (by simp [List.length_append]) (by simp [belAll_append,kp,dd,sv,nl]) (by simp [belAll_append])
   ·intro j hj
    obtain ⟨hj,hneg0⟩:=hj
    by_cases hneg:c[i]<0
    ·have hj0:=hneg0 hneg
     subst hj0
     have hf0:fnd ⟨next,acc⟩ c i F 0=-1:=rfl
     have hI:refI ⟨next,acc⟩ c i (out,sigs)=(out++[-1],sigs):=by rw [refI,hgc,if_pos hneg]
     rw [hI] at hnx
     by_cases hj1:0<F.length
     ·refine vms4 hj1 hic hneg hf0 ?_
      refine ⟨(i+1,F),⟨by simp only;omega,by rw [hnx];exact hF,hFn,by simp only;omega⟩,by (try simp only);omega,?_⟩;exact Gn.canon (by first | rfl | (simp [List.append_nil,encT,slR,slB,slI,refN0,hnx];rfl)) (by simp [wk,refN0,putT,hnx]) (by simp [List.length_append]) (by simp [belAll_append]) (by simp [belAll_append])
     ·refine vms4 hj1 hic hneg hf0 ?_
      refine ⟨(i+1,F),⟨by simp only;omega,by rw [hnx];exact hF,hFn,by simp only;omega⟩,by (try simp only);omega,?_⟩;exact Gn.canon (by first | rfl | (simp [List.append_nil,encT,slR,slB,slI,refN0,hnx];rfl)) (by simp [wk,refN0,putT,hnx]) (by simp [List.length_append]) (by simp [belAll_append]) (by simp [belAll_append])
    ·by_cases hjl:j<F.length
     ·have hs:=fnd_succ (t:=⟨next,acc⟩) (c:=c) (i:=i) hjl
      have hFj:=hFn F[j] (List.getElem_mem hjl)
      have hcall:=h63 F[j] i hFj hlt
      by_cases hk:fnd ⟨next,acc⟩ c i F j<0
      ·by_cases he:sgq ⟨next,acc⟩ c F[j]=sgq ⟨next,acc⟩ c i
       ·rw [if_pos ⟨hk,he⟩] at hs
        rw [show decide (sigO c ((⟨next,acc⟩:Tb).next.getD F[j] []) F[j]=sigO c ((⟨next,acc⟩:Tb).next.getD i []) i)=true from decide_eq_true he] at hcall
        refine vms4 hjl hic hneg hk ?_
        refine callG.pc1 hcall ?_
        refine vms0 ?_
        refine ⟨(j+1),by omega,by (try simp only);omega,?_⟩;exact Gn.canon (by first | rfl | (simp [List.append_nil,encT,slR,slB,slI,refN0,hs];rfl)) (by simp [wk,refN0,putT,hs]) (by simp [List.length_append]) (by simp [belAll_append]) (by simp [belAll_append])
       ·rw [if_neg (fun h=>he h.2)] at hs
        rw [show decide (sigO c ((⟨next,acc⟩:Tb).next.getD F[j] []) F[j]=sigO c ((⟨next,acc⟩:Tb).next.getD i []) i)=false from decide_eq_false he] at hcall
        refine vms4 hjl hic hneg hk ?_
        refine callG.pc1 hcall ?_
        refine vms0 ?_
        refine ⟨(j+1),by omega,by (try simp only);omega,?_⟩;exact Gn.canon (by first | rfl | (simp [List.append_nil,encT,slR,slB,slI,refN0,hs];rfl)) (by simp [wk,refN0,putT,hs]) (by simp [List.length_append]) (by simp [belAll_append]) (by simp [belAll_append])
      ·rw [if_neg (fun h=>hk h.1)] at hs
       refine vms4 hjl hic hneg hk ?_
       refine ⟨(j+1),by omega,by (try simp only);omega,?_⟩;exact Gn.canon (by first | rfl | (simp [List.append_nil,encT,slR,slB,slI,refN0,hs];rfl)) (by simp [wk,refN0,putT,hs]) (by simp [List.length_append]) (by simp [belAll_append]) (by simp [belAll_append])
     ·have hjn:j=F.length:=by omega
      subst hjn
      have hsgi:sigO c (next.getD i []) i=sgq ⟨next,acc⟩ c i:=rfl
      cases hik:idxL (sgq ⟨next,acc⟩ c i) sigs with
      | some k =>
       rw [hik] at hFd
       simp only at hFd
       have hI:refI ⟨next,acc⟩ c i (out,sigs)=(out++[(k:Int)],sigs):=by rw [refI,hgc,if_neg hneg,hsgi];simp only [hik]
       rw [hI] at hnx
       refine vms4 hjl hic hneg hFd ?_
       refine ⟨(i+1,F),⟨by simp only;omega,by rw [hnx];exact hF,hFn,by simp only;omega⟩,by (try simp only);omega,?_⟩;exact Gn.canon (by first | rfl | (simp [List.append_nil,encT,slR,slB,slI,refN0,hnx];rfl)) (by simp [wk,refN0,putT,hnx]) (by simp [List.length_append]) (by simp [belAll_append]) (by simp [belAll_append])
      | none =>
       rw [hik] at hFd
       simp only at hFd
       have hI:refI ⟨next,acc⟩ c i (out,sigs)=(out++[(sigs.length:Int)],sigs++[sgq ⟨next,acc⟩ c i]):=by rw [refI,hgc,if_neg hneg,hsgi];simp only [hik]
       rw [hI] at hnx
       refine vms4 hjl hic hneg hFd ?_
       refine ⟨(i+1,F++[i]),⟨by simp only;omega,by rw [hnx];simp [hF],fun q hq=>by rcases List.mem_append.1 hq with hq | hq;exact hFn q hq;rw [List.mem_singleton] at hq;omega,by simp;omega⟩,by (try simp only);omega,?_⟩;exact Gn.canon (by first | rfl | (simp [List.append_nil,encT,slR,slB,slI,refN0,hnx,hsl];rfl)) (by simp [wk,refN0,putT,hnx,hsl]) (by simp [List.length_append]) (by simp [belAll_append]) (by simp [belAll_append])
  ·have hin:i=n:=by omega
   subst hin
   have hic:¬i<c.length:=by omega
   rw [hlast rfl]
   refine vms1 hic ?_
   refine endK.gn (Gn.freeze (id:=1) rfl) ?_;refine endK.ret ?_ (by first | rfl | simp [belAll_append]);simp [belAll_append,fzs_ok,imp,lenOK_iff,List.take_of_length_le,evRes,getT,getO,setO,fzs,fz,fzH,Nat.beq,retV,Res.then,ldT,ldR,mkV,getV,cfg0,cfgR,ones_ints,ones_bools,getV_map,getV_mapO,List.length_map,Nat.mul_one,slI,slR,slB,encT,Tryz.f222,slI,hrl,hsl]
end
section
@[simp] theorem bel_takeI {n k:Nat} (l:List Int):belAll n (List.take k (l.map (V.int .i64)))=true:=by rw [←List.map_take];exact bel_ints _
def parR (t:Tb):Nat→List Int→Nat→Option (List Int)
 | 0,c,_=>some c
 | k+1,c,cnt=>if 64<(ref t c).2.length then none else if (ref t c).2.length=cnt then some (ref t c).1 else parR t k (ref t c).1 (ref t c).2.length
def parO (t:Tb):Option (List Int):=parR t (t.next.length+2) (cls0 t) 0
def parV:Option (List Int)→V
 | some c=>.tup [slI c,.bool true]
 | none=>.tup [.sl true [] 0,.bool false]
@[simp] theorem bel_parV {n:Nat} (o:Option (List Int)):(parV o).bel n=true:=by
 cases o with
 | none=>rfl
 | some c=>rw [parV,bel_tup,belAll_cons,belAll_cons,bel_slI];rfl
theorem parR_any (t:Tb):∀(k:Nat) (c:List Int) (cnt:Nat),c.length=t.next.length→(∀j,j<cnt→((j:Nat):Int) ∈ c)→t.next.length+1≤k+cnt→∀k',t.next.length+1≤k'+cnt→0<k→0<k'→parR t k c cnt=parR t k' c cnt:=by
 intro k
 induction k with
 | zero=>intro c cnt _ _ _ k' _ h;omega
 | succ k ih =>
  intro c cnt hl hm hk k' hk' _ h0'
  cases k' with
  | zero=>omega
  | succ k' =>
   rw [parR,parR]
   split
   ·rfl
   ·split
    ·rfl
    ·rename_i hne
     have h1:=ref_ge t c hl hm
     have h2:=ref_le t c
     have hok:=refN_ok t c t.next.length
     exact ih (ref t c).1 (ref t c).2.length (ref_len t c) hok.met (by omega) k' (by omega) (by omega) (by omega)
attribute [local push_cast] cfg0 ones_ints ones_bools getV_map getV_mapO List.length_map Nat.mul_one slI slR slB encT
theorem pc201 {n m:Nat} {t:Tb} (ht:okT n m t):PC Tryz.prog 201 [.agg (encT t)] (parV (parO t)):=by
 have h54:=pc221 ht
 have h55:=fun (c:List Int) (hc:c.length=n)=>pc222 ht hc
 have hn1:=ht.rows
 have hn2:=ht.accs
 have hpos:=ht.pos
 have hbig:=ht.big
 have hll:=liveS_len t
 have hcl:=cls0_len t
 have hat:=fun q (h:q<t.next.length)=>cls0_at h
 have hrl:=ref_len t
 have hge:=fun (c:List Int) hc (cnt:Nat) hm=>ref_ge t c hc (cnt:=cnt) hm
 have hle:=ref_le t
 have hok:=fun c=>refN_ok t c t.next.length
 have hany:=fun k c cnt=>parR_any t k c cnt
 obtain ⟨next,acc⟩:=t
 simp only at hn1 hn2 hll hcl hat hrl hge hle hok hany
 refine PC.walk tok mixed cfg0 Tryz.func201 rfl Tryz.call201 (by simp [belAll_append]) (by first | rfl | simp [belAll_append]) ?_;refine vms1 Tryz.ntmps201 ?_
 refine callO.pc h54 ?_
 refine vms0 ?_
 refine T.lp tok mixed cfg0 (fun ((i:Nat))=>dd 1 (kp 1 (dd 2 (kp 1 (sv (.buf 1 i 0 i 1) (kp 1 (sv (.int .i64 (i:Int)) (dd 38 (nl))))))))) (fun H0 ((i:Nat))=>[.cells 0 (encT ⟨next,acc⟩),.cells i (((cls0 ⟨next,acc⟩).take i).map (.int .i64))]) (fun ((i:Nat))=>i≤n) (fun ((i:Nat))=>n-i) (0) ?_ ?_ ?_
 ·omega
 ·refine (Gn.ownNil (t:=5) (sz:=1) rfl).trans ?_
  exact Gn.canon (J:=[]) (by simp [List.append_nil,encT,slR,slB,slI]) (by simp [wk,putT,kp,dd,sv,nl]) (by simp [List.length_append]) (by simp [belAll_append,kp,dd,sv,nl]) (by simp [belAll_append])
 ·intro i hi
  have hi0:i≤n:=hi
  by_cases hlt:i<n
  ·have hil:i<(liveS ⟨next,acc⟩).length:=by omega
   have hia:i<acc.length:=by omega
   have hic:i<(cls0 ⟨next,acc⟩).length:=by omega
   have ha:=hat i (by omega)
   rw [lgetD hil,lgetD hia] at ha
   have htk:(cls0 ⟨next,acc⟩).take (i+1)=(cls0 ⟨next,acc⟩).take i++[(cls0 ⟨next,acc⟩)[i]]:=List.take_succ_eq_append_getElem hic
   rw [List.getElem?_eq_getElem hic] at ha
   simp only [Option.some.injEq] at ha
   rw [ha] at htk
   have hlk:((cls0 ⟨next,acc⟩).take i).length=i:=by rw [List.length_take];omega
   cases hb:(liveS ⟨next,acc⟩)[i] with
   | false =>
    rw [hb,if_pos rfl] at htk
    refine vms3 hil hb hlk ?_
    refine ⟨(i+1),by omega,by (try simp only);omega,?_⟩;exact Gn.canon (by first | rfl | (simp [List.append_nil,encT,slR,slB,slI,htk,List.map_append];rfl)) (by simp [wk,htk,List.map_append]) (by simp [List.length_append]) (by simp [belAll_append]) (by simp [belAll_append])
   | true =>
    rw [hb,if_neg (by decide)] at htk
    cases hb2:acc[i] with
    | true =>
     rw [hb2,if_pos rfl] at htk
     refine vms5 hil hia hb hb2 hlk ?_
     refine ⟨(i+1),by omega,by (try simp only);omega,?_⟩;exact Gn.canon (by first | rfl | (simp [List.append_nil,encT,slR,slB,slI,htk,List.map_append];rfl)) (by simp [wk,htk,List.map_append]) (by simp [List.length_append]) (by simp [belAll_append]) (by simp [belAll_append])
    | false =>
     rw [hb2,if_neg (by decide)] at htk
     refine vms5 hil hia hb hb2 hlk ?_
     refine ⟨(i+1),by omega,by (try simp only);omega,?_⟩;exact Gn.canon (by first | rfl | (simp [List.append_nil,encT,slR,slB,slI,htk,List.map_append];rfl)) (by simp [wk,htk,List.map_append]) (by simp [List.length_append]) (by simp [belAll_append]) (by simp [belAll_append])
  ·have hin:i=n:=by omega
   subst hin
   have hil:¬i<(liveS ⟨next,acc⟩).length:=by omega
   have htk:(cls0 ⟨next,acc⟩).take i=cls0 ⟨next,acc⟩:=List.take_of_length_le (by omega)
   refine vms1 hil ?_
   refine T.lp tok mixed cfg0 (fun ((s:List Int × Nat))=>dd 1 (kp 1 (dd 3 (sv (slI s.1) (sv (.int .i64 (s.2:Int)) (dd 39 (nl))))))) (fun H0 ((s:List Int × Nat))=>[.cells 0 (encT ⟨next,acc⟩),.dead]) (fun ((s:List Int × Nat))=>s.1.length=i∧(∀j,j<s.2→((j:Nat):Int) ∈ s.1)∧s.2≤i∧parR ⟨next,acc⟩ (i+2) s.1 s.2=parO ⟨next,acc⟩) (fun ((s:List Int × Nat))=>i+1-s.2) ((cls0 ⟨next,acc⟩,0)) ?_ ?_ ?_
   ·exact ⟨by simp only;omega,fun j h=>by omega,Nat.zero_le _,by rw [parO,←hn1]⟩
   ·refine (Gn.freeze (id:=1) rfl).trans ?_;exact Gn.canon (by first | rfl | (simp [List.append_nil,encT,slR,slB,slI,fzs,fz,fzs_ok,fzH,setO,getO,Nat.beq,List.take_of_length_le,belAll_append,htk,hcl,hn1];done) | (simp [List.append_nil,encT,slR,slB,slI,fzs,fz,fzs_ok,fzH,setO,getO,Nat.beq,List.take_of_length_le,belAll_append,htk,hcl,hn1];rfl)) (by simp [wk,putT,kp,dd,sv,nl,fzs,fz,fzs_ok,fzH,setO,getO,Nat.beq,List.take_of_length_le,belAll_append,htk,hcl,hn1,cfg0,ones_ints,ones_bools,getV_map,getV_mapO,List.length_map,Nat.mul_one,slI,slR,slB,encT]) (by simp [List.length_append]) (by simp [belAll_append,kp,dd,sv,nl]) (by simp [belAll_append])
   ·intro s hs
    obtain ⟨c,cnt⟩:=s
    obtain ⟨hcl2,hmet,hcnt,hpar⟩:=hs
    simp only at hcl2 hmet hcnt hpar
    have h55c:=h55 c hcl2
    have hr1:=hrl c
    have hg1:=hge c (by omega) cnt hmet
    have hl1:=hle c
    have hokc:=hok c
    rw [parR] at hpar
    rw [show refN ⟨next,acc⟩ c next.length=ref ⟨next,acc⟩ c from rfl] at hokc
    generalize ref ⟨next,acc⟩ c=r at h55c hr1 hg1 hl1 hokc hpar
    obtain ⟨out,sigs⟩:=r
    simp only at h55c hr1 hg1 hl1 hokc hpar
    by_cases h64:64<sigs.length
    ·rw [if_pos h64] at hpar
     rw [←hpar,parV]
     refine vms0 ?_
     refine callO.pc h55c ?_
     refine vms1 h64 ?_
     refine endK.ret ?_ (by first | rfl | simp [belAll_append]);simp [evRes,getT,retV,Tryz.f201]
    ·rw [if_neg h64] at hpar
     by_cases heq:sigs.length=cnt
     ·rw [if_pos heq] at hpar
      rw [←hpar,parV]
      refine vms0 ?_
      refine callO.pc h55c ?_
      refine vms2 h64 heq ?_
      refine endK.ret ?_ (by first | rfl | simp [belAll_append]);simp [evRes,getT,retV,Tryz.f201,slI]
     ·rw [if_neg heq] at hpar
      have hpar2:parR ⟨next,acc⟩ (i+2) out sigs.length=parO ⟨next,acc⟩:=by
       rw [←hpar]
       exact hany _ _ _ (by omega) hokc.met (by omega) _ (by omega) (by omega) (by omega)
      refine vms0 ?_
      refine callO.pc h55c ?_
      refine vms2 h64 heq ?_
      refine ⟨(out,sigs.length),⟨by simp only;omega,hokc.met,by simp only;omega,hpar2⟩,by (try simp only);omega,?_⟩;exact Gn.canon (by first | rfl | (simp [List.append_nil,encT,slR,slB,slI];rfl)) (by simp [wk]) (by simp [List.length_append]) (by simp [belAll_append]) (by simp [belAll_append])
end
section
theorem idxI_app {x:Int}:∀ {a b:List Int},idxI x (a++b)=match idxI x a with | some k=>some k | none=>(idxI x b).map (· + a.length)
 | [],b=>by simp [idxI]
 | y::a,b=>by
  simp only [List.cons_append,idxI]
  by_cases e:x=y
  ·simp [e]
  ·simp only [e,if_false,idxI_app (a:=a) (b:=b)]
   cases idxI x a with
   | some k=>rfl
   | none =>
    simp only [Option.map_none,List.length_cons]
    cases idxI x b<;>simp
    omega
def fnx (c:List Int) (x:Int) (F:List Int) (j:Nat):Int:=match idxI x ((F.take j).map (gI c)) with | some k=>(k:Int) | none=>-1
theorem fnx_succ {c:List Int} {x:Int} {F:List Int} {j:Nat} (h:j<F.length) :
  fnx c x F (j+1)=if fnx c x F j<0∧gI c F[j]=x then (j:Int) else fnx c x F j:=by
 rw [fnx,List.take_succ_eq_append_getElem h,List.map_append,idxI_app,fnx]
 cases hk:idxI x ((F.take j).map (gI c)) with
 | some k=>simp;intro h;omega
 | none =>
  simp only [List.map_cons,List.map_nil,idxI]
  by_cases e:x=gI c F[j]
  ·rw [if_pos e,if_pos ⟨by decide,e.symm⟩]
   simp [Nat.min_eq_left (Nat.le_of_lt h)]
  ·rw [if_neg e,if_neg (fun h=>e h.2.symm)]
   rfl
def minO (t:Tb):V:=match parO t with | some c=>.tup [.agg (encT (minF t c)),.bool true] | none=>.tup [zTb,.bool false]
@[simp] theorem bel_minO {n:Nat} (t:Tb):(minO t).bel n=true:=by
 rw [minO]
 split
 ·rw [bel_tup,belAll_cons,belAll_cons,bel_agg,bel_encT];rfl
 ·rfl
def cfgX:Cfg:={ lv:=[22],ef:=[],ord:=[],em:=[] }
def objU (t:Tb) (s:Ms):List Ob:=[.cells 0 (encT t),.cells 0 [.sl true [] 0,.sl true [] 0],.cells (s.order.length-1) (s.order.map (.int .i64)),.cells 0 [.buf 4 s.rows.length 0 s.rows.length 1,.buf 5 s.accs.length 0 s.accs.length 1],.cells s.rows.length (s.rows.map slI),.cells s.accs.length (s.accs.map .bool)]
def objW (t:Tb) (s:Ms) (r:List Int × List Int):List Ob:=[.cells 0 (encT t),.cells 0 [.sl true [] 0,.sl true [] 0],.cells (r.1.length-1) (r.1.map (.int .i64)),.cells 0 [.buf 4 s.rows.length 0 s.rows.length 1,.buf 5 s.accs.length 0 s.accs.length 1],.cells s.rows.length (s.rows.map slI),.cells s.accs.length (s.accs.map .bool),.cells r.2.length (r.2.map (.int .i64))]
theorem len_objU {t:Tb} {s:Ms}:(objU t s).length=6:=rfl
theorem len_objW {t:Tb} {s:Ms} {r:List Int × List Int}:(objW t s r).length=7:=rfl
@[simp] theorem bel_objU {t:Tb} {s:Ms}:belObs 6 (objU t s)=true:=by
 simp only [objU,belObs_cons,belObs_nil,belO_cells,bel_ints,bel_bools,bel_rows,bel_encT,belAll_cons,belAll_nil,bel_buf,bel_sl]
 rfl
@[simp] theorem bel_objW {t:Tb} {s:Ms} {r:List Int × List Int}:belObs 7 (objW t s r)=true:=by
 simp only [objW,belObs_cons,belObs_nil,belO_cells,bel_ints,bel_bools,bel_rows,bel_encT,belAll_cons,belAll_nil,bel_buf,bel_sl]
 rfl
theorem parR_len (t:Tb):∀k c cnt c',c.length=t.next.length→parR t k c cnt=some c'→c'.length=t.next.length
 | 0,c,_,c',h,e=>by rw [parR] at e;cases e;exact h
 | k+1,c,cnt,c',h,e=>by
  rw [parR] at e
  split at e
  ·cases e
  ·split at e
   ·cases e;exact ref_len t c
   ·exact parR_len t k _ _ c' (ref_len t c) e
theorem parO_len {t:Tb} {c:List Int} (h:parO t=some c):c.length=t.next.length:=parR_len t _ _ _ c (by simp [cls0]) h
attribute [local push_cast] cfg0 cfgX ones_ints ones_bools getV_map getV_mapO List.length_map Nat.mul_one slI slR slB encT
theorem pc178 {n m:Nat} {t:Tb} (ht:okT n m t):PC Tryz.prog 178 [.agg (encT t)] (minO t):=by
 have h42:=pc201 ht
 have hcl0:=fun c (h:parO t=some c)=>parO_len h
 have hn1:=ht.rows
 have hn2:=ht.accs
 have hpos:=ht.pos
 have hbig:=ht.big
 rw [minO]
 cases hpo:parO t with
 | none =>
  rw [hpo] at h42
  simp only [parV] at h42
  clear hcl0 hpo
  obtain ⟨next,acc⟩:=t
  refine PC.walk tok mixed cfg0 Tryz.func178 rfl Tryz.call178 (by simp [belAll_append,len_objU,len_objW]) (by first | rfl | simp [belAll_append,len_objU,len_objW]) ?_;refine vms1 Tryz.ntmps178 ?_
  refine callO.pc h42 ?_
  refine vms0 ?_
  refine endK.ret ?_ (by first | rfl | simp [belAll_append,len_objU,len_objW]);simp [evRes,getT,retV,Tryz.f178,zTb,tt_160,Res.then,ldT,ldR,getO,mkV,getV,imp,lenOK_iff]
 | some c =>
 rw [hpo] at h42
 simp only [parV] at h42
 have hcl:=hcl0 c hpo
 clear hcl0 hpo
 have h43:=fun (x:Int) (h:x<(c.length:Int))=>pc202 (c:=c) h
 have hok:=fun i=>minN_ok ht (c:=c) i
 have hst:=fun (i:Nat) (h:(minN t c i).order.length≤i) (hi:i≤n)=>minN_at h hi
 simp only [minF,hn1]
 obtain ⟨next,acc⟩:=t
 simp only at hn1 hn2 hcl
 have hc0:0<c.length:=by omega
 refine PC.cutN tok mixed cfgX 4 Tryz.func178 rfl Tryz.call178 (by simp [belAll_append,len_objU,len_objW]) (by simp [belAll_append,len_objU,len_objW,bel_encT]) ?_
 simp (maxSteps:=2000000) -implicitDefEqProofs +contextual (disch:=first | assumption | omega | decide +kernel) only [push_cast,↓capI,seval,Nat.reduceLeDiff,Nat.reduceEqDiff,reduceCtorEq,↓reduceIte,Tryz.ntmps178,cutAt_z,cutAt_s]
 refine callO.pc h42 ?_
 simp (maxSteps:=2000000) -implicitDefEqProofs +contextual (disch:=first | assumption | omega | decide +kernel) only [push_cast,↓capI,seval,Nat.reduceLeDiff,Nat.reduceEqDiff,reduceCtorEq,↓reduceIte,cutAt_z,cutAt_s,hc0]
 refine cutK.gn ((Gn.weak (tm':=(.dead::.ptr 0 0 0::.ptr 1 0 0::.dead::.sl false (c.map (.int .i64)) c.length::.dead::.buf 2 0 0 1 1::.ptr 3 0 0::.dead::.dead::.dead::.dead::.dead::.dead::.dead::.dead::.dead::.dead::.dead::.dead::.dead::.dead::.dead::.dead::.dead::.dead::.dead::.dead::.dead::.dead::.dead::.dead::.dead::.dead::.dead::.dead::.dead::.dead::.dead::.dead::.dead::.dead::.dead::.dead::.dead::.dead::.dead::.dead::.dead::.dead::.dead::.dead::.dead::.dead::.dead::.dead::.dead::.dead::.dead::.dead::.dead::.dead::.dead::.dead::.dead::.dead::.dead::.dead::.dead::.dead::.dead::.dead::.dead::.dead::.dead::.dead::.dead::.dead::.dead::.dead::.dead::.dead::.dead::.dead::.dead::.dead::.dead::.dead::.dead::.dead::.dead::.dead::.dead::.dead::.dead::.dead::.dead::.dead::.dead::.dead::.dead::.dead::.dead::.dead::.dead::.dead::.dead::.dead::.dead::.dead::.dead::.dead::.dead::[])) (by simp [wk,minN0,mrN0])).trans (((Gn.ownCell (id:=3) (i:=0) (sz:=1) rfl rfl)).trans (Gn.ownCell (id:=3) (i:=1) (sz:=1) rfl rfl))) (cutK.go (cfg:=cfgX) tok mixed ?_)
 simp (maxSteps:=2000000) -implicitDefEqProofs +contextual (disch:=first | assumption | omega | decide +kernel) only [push_cast,↓capI,seval,Nat.reduceLeDiff,Nat.reduceEqDiff,reduceCtorEq,↓reduceIte,List.set]
 refine T.lp tok mixed cfg0 (fun ((i:Nat))=>dd 1 (kp 2 (dd 1 (kp 1 (dd 1 (sv (.buf 2 ((minN ⟨next,acc⟩ c i).order.length-1) 0 (minN ⟨next,acc⟩ c i).order.length 1) (kp 1 (sv (.int .i64 (i:Int)) (dd 104 (nl)))))))))) (fun H0 ((i:Nat))=>objU ⟨next,acc⟩ (minN ⟨next,acc⟩ c i)) (fun ((i:Nat))=>i≤(minN ⟨next,acc⟩ c i).order.length∧(minN ⟨next,acc⟩ c i).rows.length=i∧(minN ⟨next,acc⟩ c i).accs.length=i) (fun ((i:Nat))=>n-i) (0) ?_ ?_ ?_
 ·exact ⟨by simp [minN0],rfl,rfl⟩
 ·exact Gn.canon (J:=[]) (by simp [List.append_nil,encT,slR,slB,slI,minN0,mrN0,objU]) (by simp [wk,minN0,mrN0,putT,kp,dd,sv,nl]) (by simp [List.length_append,len_objU,len_objW]) (by simp [belAll_append,len_objU,len_objW,kp,dd,sv,nl]) (by rw [len_objU];exact bel_objU)
 ·intro i hi
  obtain ⟨hi,hr,ha⟩:=hi
  have hoki:=hok i
  have hnext:minN ⟨next,acc⟩ c (i+1)=minI ⟨next,acc⟩ c i (minN ⟨next,acc⟩ c i):=rfl
  have hstop:=hst i
  generalize hs:minN ⟨next,acc⟩ c i=s at hoki hnext hstop hi hr ha
  simp only [hs]
  obtain ⟨order,rows,accs⟩:=s
  simp only at hoki hi hr ha hstop
  have hlen:=hoki.len
  have hx1:objU ⟨next,acc⟩ ⟨order,rows,accs⟩=[.cells 0 (encT ⟨next,acc⟩),.cells 0 [.sl true [] 0,.sl true [] 0],.cells (order.length-1) (order.map (.int .i64)),.cells 0 [.buf 4 rows.length 0 rows.length 1,.buf 5 accs.length 0 accs.length 1],.cells rows.length (rows.map slI),.cells accs.length (accs.map .bool)]:=rfl
  by_cases hlt:i<order.length
  ·obtain ⟨q,hq⟩:∃y,y=order[i]:=⟨_,rfl⟩
   have hqr:=hoki.rng q (hq ▸ List.getElem_mem hlt)
   obtain ⟨k,rfl⟩:∃k:Nat,q=(k:Int):=⟨q.toNat,by omega⟩
   have hkn:k<next.length:=by omega
   have hka:k<acc.length:=by omega
   have hrow:=ht.row next[k] (List.getElem_mem hkn)
   have hrng:=ht.rng next[k] (List.getElem_mem hkn)
   have hcols:=ht.cols
   have hgr:next.getD k []=next[k]:=lgetD hkn
   have hga:gB acc (k:Int)=acc[k]:=by rw [gB,Int.toNat_natCast];exact lgetD hka
   have hq':=hq.symm
   refine vms2 hx1 hlt ?_
   refine T.lp tok mixed cfg0 (fun ((j:Nat))=>dd 1 (kp 2 (dd 1 (kp 1 (dd 1 (sv (.buf 2 ((mrN c next[k] order j).1.length-1) 0 (mrN c next[k] order j).1.length 1) (kp 2 (sv (.buf 6 (mrN c next[k] order j).2.length 0 (mrN c next[k] order j).2.length 1) (sv (.int .i64 (j:Int)) (dd 102 (nl))))))))))) (fun H0 ((j:Nat))=>objW ⟨next,acc⟩ ⟨order,rows,accs⟩ (mrN c next[k] order j)) (fun ((j:Nat))=>j≤m) (fun ((j:Nat))=>m-j) (0) ?_ ?_ ?_
   ·omega
   ·refine (Gn.ownNil (t:=9) (sz:=1) rfl).trans ?_
    exact Gn.canon (J:=[]) (by simp [List.append_nil,encT,slR,slB,slI,minN0,mrN0,objW]) (by simp [wk,minN0,mrN0,putT,kp,dd,sv,nl]) (by simp [List.length_append,len_objU,len_objW]) (by simp [belAll_append,len_objU,len_objW,kp,dd,sv,nl]) (by rw [len_objW];exact bel_objW)
   ·intro j hj
    have hj0:j≤m:=hj
    have hokj:=mrN_ok (n:=n) (c:=c) (row:=next[k]) (fun x hx=>(hrng x hx).2) hoki j (by omega)
    have hrl:=mrN_len c next[k] order j
    obtain ⟨rs,hrs⟩:=mrN_pre c next[k] order j
    have hnx:mrN c next[k] order (j+1)=mrI c (gI next[k] j) (mrN c next[k] order j):=rfl
    have hlast:j=m→mrN c next[k] order m=mrN c next[k] order j:=fun e=>by rw [e]
    generalize hR:mrN c next[k] order j=r at hokj hrl hrs hnx hlast
    simp only [hR]
    obtain ⟨ord2,row⟩:=r
    simp only at hokj hrl hrs
    have hlen2:=hokj.len
    have hio:i<ord2.length:=by rw [hrs,List.length_append];omega
    have hoq:ord2[i]=(k:Int):=by
     rw [hq];simp only [hrs];exact List.getElem_append_left hlt
    have hx2:objW ⟨next,acc⟩ ⟨order,rows,accs⟩ (ord2,row)=[.cells 0 (encT ⟨next,acc⟩),.cells 0 [.sl true [] 0,.sl true [] 0],.cells (ord2.length-1) (ord2.map (.int .i64)),.cells 0 [.buf 4 rows.length 0 rows.length 1,.buf 5 accs.length 0 accs.length 1],.cells rows.length (rows.map slI),.cells accs.length (accs.map .bool),.cells row.length (row.map (.int .i64))]:=rfl
    by_cases hjm:j<m
    ·have hjr:j<next[k].length:=by omega
     have hx:=hrng _ (List.getElem_mem hjr)
     have hgj:gI next[k] (j:Int)=next[k][j]:=by rw [gI,Int.toNat_natCast];exact lgetD hjr
     rw [hgj] at hnx
     have hcall:=h43 next[k][j] (by omega)
     have hneg:¬(0≤(if 0≤next[k][j] then gI c next[k][j] else -1))→mrN c next[k] order (j+1)=(ord2,row++[-1]):=fun h=>by
      rw [hnx,mrI,if_pos]
      by_cases h0:0≤next[k][j]
      ·rw [if_pos h0] at h;exact .inr (by omega)
      ·exact .inl (by omega)
     have hnn:0≤(if 0≤next[k][j] then gI c next[k][j] else -1)→∃l:Nat,next[k][j]=(l:Int)∧∃hl:l<c.length,gI c (l:Int)=c[l]∧¬c[l]<0:=fun h=>by
      by_cases h0:0≤next[k][j]
      ·rw [if_pos h0] at h
       refine ⟨next[k][j].toNat,by omega,by omega,?_⟩
       have hg:gI c (next[k][j].toNat:Int)=c[next[k][j].toNat]'(by omega):=by rw [gI,Int.toNat_natCast];exact lgetD (by omega)
       refine ⟨hg,?_⟩
       rw [←hg,show ((next[k][j].toNat:Nat):Int)=next[k][j] from by omega]
       omega
      ·rw [if_neg h0] at h;exact absurd h (by decide)
     generalize (if 0≤next[k][j] then gI c next[k][j] else -1)=y at hcall hneg hnn
     by_cases hy:0≤y
     ·obtain ⟨l,hl,hlc,hgl,hcn⟩:=hnn hy
      have hnx2:mrN c next[k] order (j+1)=match idxI c[l] (ord2.map (gI c)) with | some u=>(ord2,row++[(u:Int)]) | none=>(ord2++[(l:Int)],row++[(ord2.length:Int)]):=by
       rw [hnx,hl,mrI,if_neg (by rw [hgl];omega),hgl]
       cases idxI c[l] (List.map (gI c) ord2)<;>rfl
      have hall:fnx c c[l] ord2 ord2.length=match idxI c[l] (ord2.map (gI c)) with | some k=>(k:Int) | none=>-1:=by rw [fnx,List.take_length]
      clear hnx
      rw [hl] at hcall
      rw [←hrow] at hjm
      refine vms7 hx2 hio hoq hkn hjm hjr hl ?_
      refine callO.pc hcall ?_
      refine vms1 hy ?_
      refine T.lp tok mixed cfg0 (fun ((u:Nat))=>dd 1 (kp 2 (dd 1 (kp 1 (dd 1 (kp 6 (sv (.int .i64 (fnx c c[l] ord2 u)) (sv (.int .i64 (u:Int)) (dd 99 (nl)))))))))) (fun H0 ((u:Nat))=>H0) (fun ((u:Nat))=>u≤ord2.length) (fun ((u:Nat))=>ord2.length-u) (0) ?_ ?_ ?_
      ·omega
      ·exact Gn.canon (J:=[]) (by simp [List.append_nil,encT,slR,slB,slI,minN0,mrN0]) (by simp [wk,minN0,mrN0,putT,kp,dd,sv,nl,fnx,idxI]) (by simp [List.length_append,len_objU,len_objW]) (by simp [belAll_append,len_objU,len_objW,kp,dd,sv,nl]) (by simp [belAll_append,len_objU,len_objW])
      ·intro u hu
       have hu0:u≤ord2.length:=hu
       by_cases hul:u<ord2.length
       ·have hs:=fnx_succ (c:=c) (x:=c[l]) hul
        have hor:=hokj.rng ord2[u] (List.getElem_mem hul)
        obtain ⟨v,hv⟩:∃v:Nat,ord2[u]=(v:Int):=⟨ord2[u].toNat,by omega⟩
        have hvc:v<c.length:=by omega
        have hgv:gI c (v:Int)=c[v]:=by rw [gI,Int.toNat_natCast];exact lgetD hvc
        rw [hv,hgv] at hs
        by_cases hk:fnx c c[l] ord2 u<0
        ·by_cases he:c[v]=c[l]
         ·rw [if_pos ⟨hk,he⟩] at hs
          refine vms6 hul hv hvc hlc hk he ?_
          refine ⟨(u+1),by omega,by (try simp only);omega,?_⟩;exact Gn.canon (by first | rfl | (simp [List.append_nil,encT,slR,slB,slI,minN0,mrN0,hs];rfl)) (by simp [wk,minN0,mrN0,hs]) (by simp [List.length_append,len_objU,len_objW]) (by simp [belAll_append,len_objU,len_objW]) (by simp [belAll_append,len_objU,len_objW])
         ·rw [if_neg (fun h=>he h.2)] at hs
          refine vms6 hul hv hvc hlc hk he ?_
          refine ⟨(u+1),by omega,by (try simp only);omega,?_⟩;exact Gn.canon (by first | rfl | (simp [List.append_nil,encT,slR,slB,slI,minN0,mrN0,hs];rfl)) (by simp [wk,minN0,mrN0,hs]) (by simp [List.length_append,len_objU,len_objW]) (by simp [belAll_append,len_objU,len_objW]) (by simp [belAll_append,len_objU,len_objW])
        ·rw [if_neg (fun h=>hk h.1)] at hs
         refine vms2 hul hk ?_
         refine ⟨(u+1),by omega,by (try simp only);omega,?_⟩;exact Gn.canon (by first | rfl | (simp [List.append_nil,encT,slR,slB,slI,minN0,mrN0,hs];rfl)) (by simp [wk,minN0,mrN0,hs]) (by simp [List.length_append,len_objU,len_objW]) (by simp [belAll_append,len_objU,len_objW]) (by simp [belAll_append,len_objU,len_objW])
       ·have hul2:u=ord2.length:=by omega
        subst hul2
        cases hik:idxI c[l] (ord2.map (gI c)) with
        | some w =>
         rw [hik] at hnx2 hall
         simp only at hnx2 hall
         refine vms2 hul hall ?_
         refine ⟨(j+1),by omega,by (try simp only);omega,?_⟩;exact Gn.canon (by first | rfl | (simp [List.append_nil,encT,slR,slB,slI,minN0,mrN0,hnx2,objW];rfl)) (by simp [wk,minN0,mrN0,hnx2,objW]) (by simp [List.length_append,len_objU,len_objW]) (by simp [belAll_append,len_objU,len_objW]) (by simp [belAll_append,len_objU,len_objW])
        | none =>
         rw [hik] at hnx2 hall
         simp only at hnx2 hall
         have hap:ord2.length-1+1=ord2.length+1-1:=by omega
         refine vms3 hul hall hap ?_
         refine ⟨(j+1),by omega,by (try simp only);omega,?_⟩;exact Gn.canon (by first | rfl | (simp [List.append_nil,encT,slR,slB,slI,minN0,mrN0,hnx2,objW];rfl)) (by simp [wk,minN0,mrN0,hnx2,objW]) (by simp [List.length_append,len_objU,len_objW]) (by simp [belAll_append,len_objU,len_objW]) (by simp [belAll_append,len_objU,len_objW])
     ·have hI:=hneg hy
      rw [←hrow] at hjm
      refine vms6 hx2 hio hoq hkn hjm hjr ?_
      refine callO.pc hcall ?_
      refine vms1 hy ?_
      refine ⟨(j+1),by omega,by (try simp only);omega,?_⟩;exact Gn.canon (by first | rfl | (simp [List.append_nil,encT,slR,slB,slI,minN0,mrN0,hI,objW];rfl)) (by simp [wk,minN0,mrN0,hI,objW]) (by simp [List.length_append,len_objU,len_objW]) (by simp [belAll_append,len_objU,len_objW]) (by simp [belAll_append,len_objU,len_objW])
    ·have hjm2:j=m:=by omega
     have hjr:¬j<next[k].length:=by omega
     have hdet:minI ⟨next,acc⟩ c i ⟨order,rows,accs⟩=⟨ord2,rows++[row],accs++[acc[k]]⟩:=by
      have e1:order[i]? = some (k:Int):=by rw [hq];exact List.getElem?_eq_getElem hlt
      simp only [minI,e1,Int.toNat_natCast,hgr,hrow,hlast hjm2,hga]
     rw [hdet] at hnext
     subst hjm2
     refine vms6 hx2 hio hoq hkn hjr hka ?_
     refine ⟨(i+1),⟨by rw [hnext];exact hio,by rw [hnext];simp [hr],by rw [hnext];simp [ha]⟩,by (try simp only);omega,?_⟩;refine (Gn.freeze (id:=6) rfl).trans ?_;exact Gn.canon (by first | rfl | (simp [List.append_nil,encT,slR,slB,slI,minN0,mrN0,fzs,fz,fzs_ok,fzH,setO,getO,Nat.beq,List.take_of_length_le,belAll_append,len_objU,len_objW,hnext,objU,slI,hrl,fzs_app];done) | (simp [List.append_nil,encT,slR,slB,slI,minN0,mrN0,fzs,fz,fzs_ok,fzH,setO,getO,Nat.beq,List.take_of_length_le,belAll_append,len_objU,len_objW,hnext,objU,slI,hrl,fzs_app];rfl)) (by simp [wk,minN0,mrN0,fzs,fz,fzs_ok,fzH,setO,getO,Nat.beq,List.take_of_length_le,belAll_append,len_objU,len_objW,hnext,objU,slI,hrl,fzs_app,cfg0,cfgX,ones_ints,ones_bools,getV_map,getV_mapO,List.length_map,Nat.mul_one,slI,slR,slB,encT]) (by simp [List.length_append,len_objU,len_objW]) (by simp [belAll_append,len_objU,len_objW]) (by simp [belAll_append,len_objU,len_objW])
  ·rw [hstop (by omega) (by omega)]
   refine vms2 hx1 hlt ?_
   refine endK.gn (Gn.freeze (id:=4) rfl) ?_;refine endK.gn (Gn.freeze (id:=5) rfl) ?_;refine endK.ret ?_ (by first | rfl | simp [belAll_append,len_objU,len_objW]);simp [belAll_append,len_objU,len_objW,fzs_ok,imp,lenOK_iff,List.take_of_length_le,evRes,getT,getO,setO,fzs,fz,fzH,Nat.beq,retV,Res.then,ldT,ldR,mkV,getV,cfg0,cfgX,ones_ints,ones_bools,getV_map,getV_mapO,List.length_map,Nat.mul_one,slI,slR,slB,encT,Tryz.f178,encT,slR,slB,tt_160]
end
section
theorem parR_eq (t:Tb):∀(k:Nat) (c:List Int) (cnt:Nat),c.length=t.next.length→(∀j,j<cnt→((j:Nat):Int) ∈ c)→cnt≤64→t.next.length+1≤k+cnt→0<k→parR t k c cnt=if 64<parK t k c cnt then none else some (parF t k c cnt)
 | 0,_,_,_,_,_,_,h=>by omega
 | k+1,c,cnt,hl,hm,h64,hk,_=>by
  have h1:=ref_ge t c hl hm
  have h2:=ref_le t c
  have hge:=parK_ge t k (ref t c).1 (ref t c).2.length (ref_len t c) (refN_ok t c t.next.length).met
  rw [parR,parK,parF]
  by_cases he:(ref t c).2.length=cnt
  ·rw [if_pos he,if_pos he,if_pos he,if_neg (by omega),if_neg (by omega)]
  ·rw [if_neg he,if_neg he,if_neg he]
   by_cases hb:64<(ref t c).2.length
   ·rw [if_pos hb,if_pos (by omega)]
   ·rw [if_neg hb]
    exact parR_eq t k _ _ (ref_len t c) (refN_ok t c t.next.length).met (by omega) (by omega) (by omega)
theorem parO_eq (t:Tb):parO t=if 64<cntS t then none else some (parS t):=by
 rw [parO,cntS,parS]
 exact parR_eq t _ _ _ (by simp [cls0]) (fun j h=>by omega) (by omega) (by omega) (by omega)
end
section
def cfgG:Cfg:={ lv:=[35],ef:=[],ord:=[],em:=[] }
theorem gdN0 {st:Stp} {m:Nat} {s0:Gs}:gdN st m s0 0=⟨[s0],[],[]⟩:=rfl
theorem grN0 {st:Stp} {s:Gs} {l:List Gs}:grN st s l 0=(l,[]):=rfl
theorem one_Ws {g:Bool} {p:Prop}:∀ {l:List W32},ones g (l.map fun x=>V.int .u32 x.toNat) p=p
 | []=>rfl
 | x::l=>by simp only [List.map_cons,ones,V.one];exact one_Ws
@[simp] theorem bel_mapW {n:Nat} {α:Type} {f:α→Int} (l:List α):belAll n (l.map fun x=>V.int .u32 (f x))=true:=belAll_map (fun _=>rfl) l
@[simp] theorem bel_takeW {n k:Nat} (l:List W32):belAll n (List.take k (l.map fun x=>V.int .u32 x.toNat))=true:=by rw [←List.map_take];exact bel_Ws _
theorem brw_g {o0 o1 o2:Ob} {R:List Ob} {v:Nat} {sets:List Gs} {x:Gs}:brws (o0::o1::o2::.cells v (sets.flatMap encGs)::R) [.buf 3 v 0 sets.length 2,.agg (encGs x)]=[slG sets,.agg (encGs x)]:=by
 have:(sets.flatMap encGs).take (sets.length*2)=sets.flatMap encGs:=List.take_of_length_le (by rw [len_flat len_Gs];exact Nat.le_refl _)
 simp only [encGs] at this ⊢
 simp only [brws,brw,getO,Nat.beq_refl,Nat.beq,List.drop_zero,encGs,slG]
 rw [this]
def objN (wl:W32) (we:Bool) (wf:W32) (wt:Nat) (d:Gd):List Ob:=[.cells 0 [.sl true [] 0,.sl true [] 0],.cells 0 [.bool we,.int .u32 wf.toNat,.int .u32 wl.toNat,.int .i64 (wt:Int)],.dead,.cells (d.sets.length-1) (d.sets.flatMap encGs),.cells 0 [.buf 5 d.rows.length 0 d.rows.length 1,.buf 6 d.accs.length 0 d.accs.length 1],.cells d.rows.length (d.rows.map slI),.cells d.accs.length (d.accs.map .bool)]
def objE (wl:W32) (we:Bool) (wf:W32) (wt:Nat) (d:Gd) (q:List Gs × List Int):List Ob:=[.cells 0 [.sl true [] 0,.sl true [] 0],.cells 0 [.bool we,.int .u32 wf.toNat,.int .u32 wl.toNat,.int .i64 (wt:Int)],.dead,.cells (q.1.length-1) (q.1.flatMap encGs),.cells 0 [.buf 5 d.rows.length 0 d.rows.length 1,.buf 6 d.accs.length 0 d.accs.length 1],.cells d.rows.length (d.rows.map slI),.cells d.accs.length (d.accs.map .bool),.cells q.2.length (q.2.map (.int .i64))]
theorem len_objN {wl wf:W32} {we:Bool} {wt:Nat} {d:Gd}:(objN wl we wf wt d).length=7:=rfl
theorem len_objE {wl wf:W32} {we:Bool} {wt:Nat} {d:Gd} {q:List Gs × List Int}:(objE wl we wf wt d q).length=8:=rfl
@[simp] theorem bel_objN {wl wf:W32} {we:Bool} {wt:Nat} {d:Gd}:belObs 7 (objN wl we wf wt d)=true:=by
 simp only [objN,belObs_cons,belObs_nil,belO_cells,bel_bools,bel_rows,bel_Gss,belAll_cons,belAll_nil,bel_buf,bel_sl]
 rfl
@[simp] theorem bel_objE {wl wf:W32} {we:Bool} {wt:Nat} {d:Gd} {q:List Gs × List Int}:belObs 8 (objE wl we wf wt d q)=true:=by
 simp only [objE,belObs_cons,belObs_nil,belO_cells,bel_ints,bel_bools,bel_rows,bel_Gss,belAll_cons,belAll_nil,bel_buf,bel_sl]
 rfl
attribute [local push_cast] cfg0 cfgG slI slR slB encT ones_ints ones_bools encPt encGs slN slW slG getV_map getV_mapO List.length_map Nat.mul_one one_Ws
theorem pc29N {sw:Int} {p:Pr} (hp:okP sw p) (h24:(flat p).length≤24) {m N:Nat} (hbig:N=2^30) (hm:m≤16) (hm1:0<m):PC Tryz.prog 179 [slN (flat p),.int .i64 (m:Int)] (.agg (encT ⟨(gdN (refSt p) m (refS0 p) N).rows,(gdN (refSt p) m (refS0 p) N).accs⟩)):=by
 have h44:=pc203 sw (flat p) h24 p 0 [] hp (by simp)
 have h45:=fun (l:Nat) (hl:l≤24)=>pc204 hp h24 (leaf:=l) hl
 obtain ⟨FL,hFL⟩:∃FL:List W32,FL=(List.range (flat p).length).map fun i=>orL (conL 0 p i):=⟨_,rfl⟩
 have hFLl:FL.length=(flat p).length:=by rw [hFL];simp
 have hst:refSt p=fun s c=>advS (flat p) FL (ptP 0 p).lst s c:=by rw [hFL];rfl
 have h46:=fun (s:Gs) (c:Int)=>pc205 h24 hFLl (ptP 0 p).lst s c
 have hinv:=fun i=>gdN_inv (ref_b24 hp h24).1 (ref_b24 hp h24).2 (m:=m) i
 have hgr:=fun (s:Gs) (l:List Gs) (h:Gok l) (n:Nat)=>grN_ok (ref_b24 hp h24).1 h (s:=s) n
 have hat:=fun (i:Nat) (h:(gdN (refSt p) m (refS0 p) i).sets.length≤i) (hj:i≤N)=>gdN_at h hj
 have hs:∀(s:Gs) (c:Int),advS (flat p) FL (ptP 0 p).lst s c=refSt p s c:=fun s c=>by rw [hst]
 simp only [hs] at h46
 have hFi:∀i,(h:i<(flat p).length)→FL[i]? = some (orL (conL 0 p i)):=fun i h=>by
  rw [hFL,List.getElem?_map,List.getElem?_range h];rfl
 have hS0:refS0 p=⟨(ptP 0 p).fst,(ptP 0 p).emp⟩:=rfl
 rw [hS0] at hinv hat ⊢
 generalize refSt p=st at h46 hinv hgr hat ⊢
 generalize ptP 0 p=W at h44 h46 hinv hat ⊢
 clear hs hst hFL hp hS0
 generalize hr:flat p=r at h44 h45 h46 hFLl hFi h24
 obtain ⟨we,wf,wl,wt⟩:=W
 simp only at h46 hinv hat ⊢
 obtain ⟨zz,hzz⟩:∃zz:Nat,zz=0:=⟨_,rfl⟩
 refine PC.cutN tok mixed cfgG 5 Tryz.func179 rfl Tryz.call179 (by simp [belAll_append,len_objN,len_objE]) (by simp [belAll_append,len_objN,len_objE,bel_encT]) ?_
 simp (maxSteps:=2000000) -implicitDefEqProofs +contextual (disch:=first | assumption | omega | decide +kernel) only [push_cast,↓capI,seval,Nat.reduceLeDiff,Nat.reduceEqDiff,reduceCtorEq,↓reduceIte,Tryz.ntmps179,cutAt_z,cutAt_s]
 refine callO.pc h44 ?_
 simp (maxSteps:=2000000) -implicitDefEqProofs +contextual (disch:=first | assumption | omega | decide +kernel) only [push_cast,↓capI,seval,Nat.reduceLeDiff,Nat.reduceEqDiff,reduceCtorEq,↓reduceIte,cutAt_z,cutAt_s]
 refine T.lp tok mixed cfgG (fun ((i:Nat))=>kp 2 (dd 2 (kp 2 (sv (.buf 2 i 0 i 1) (sv (.int .i64 (i:Int)) (dd 90 (nl))))))) (fun H0 ((i:Nat))=>[.cells 0 [.sl true [] 0,.sl true [] 0],.cells 0 [.bool we,.int .u32 wf.toNat,.int .u32 wl.toNat,.int .i64 (wt:Int)],.cells i ((FL.take i).map fun x=>.int .u32 x.toNat)]) (fun ((i:Nat))=>i≤r.length) (fun ((i:Nat))=>r.length-i) (0) ?_ ?_ ?_
 ·exact Nat.zero_le _
 ·refine (Gn.ownNil (t:=6) (sz:=1) rfl).trans ?_
  exact Gn.canon (J:=[]) (by simp [List.append_nil,encT,slR,slB,slI,encPt,encGs,gdN0,grN0]) (by simp [wk,slN,slW,gdN0,grN0,putT,kp,dd,sv,nl]) (by simp [List.length_append,len_objN,len_objE]) (by simp [belAll_append,len_objN,len_objE,kp,dd,sv,nl]) (by simp [belAll_append,len_objN,len_objE])
 ·intro i hi
  have hi0:i≤r.length:=hi
  have hlk:(FL.take i).length=i:=by rw [List.length_take];omega
  by_cases hlt:i<r.length
  ·have h45i:=h45 i (by omega)
   have hfi:=hFi i hlt
   obtain ⟨hil,he⟩:=List.getElem?_eq_some_iff.1 hfi
   have htk:FL.take (i+1)=FL.take i++[orL (conL 0 p i)]:=by rw [List.take_succ_eq_append_getElem hil,he]
   refine vms2 hlt hlk ?_
   refine callO.pc h45i ?_
   refine vms1 hlk ?_
   refine ⟨(i+1),by omega,by (try simp only);omega,?_⟩;exact Gn.canon (by first | rfl | (simp [List.append_nil,encT,slR,slB,slI,encPt,encGs,gdN0,grN0,htk];rfl)) (by simp [wk,slN,slW,gdN0,grN0,htk]) (by simp [List.length_append,len_objN,len_objE]) (by simp [belAll_append,len_objN,len_objE]) (by simp [belAll_append,len_objN,len_objE])
  ·have hin:i=r.length:=by omega
   have hall:FL.take i=FL:=List.take_of_length_le (by omega)
   simp (maxSteps:=2000000) -implicitDefEqProofs +contextual (disch:=first | assumption | omega | decide +kernel) only [push_cast,↓capI,seval,Nat.reduceLeDiff,Nat.reduceEqDiff,reduceCtorEq,↓reduceIte,hlt,hall,cutAt_z,cutAt_s]
   have htkF:List.take r.length (FL.map fun x=>V.int .u32 x.toNat)=FL.map fun x=>V.int .u32 x.toNat:=List.take_of_length_le (by rw [List.length_map];omega)
   refine cutK.gn ((Gn.weak (tm':=(slN r::.int .i64 (m:Int)::.dead::.dead::.ptr 0 0 0::.ptr 1 0 0::.buf 2 i 0 i 1::.dead::.buf 3 0 0 1 2::.ptr 4 0 0::.dead::.dead::.dead::.dead::.dead::.dead::.dead::.dead::.dead::.dead::.dead::.dead::.dead::.dead::.dead::.dead::.dead::.dead::.dead::.dead::.dead::.dead::.dead::.dead::.dead::.dead::.dead::.dead::.dead::.dead::.dead::.dead::.dead::.dead::.dead::.dead::.dead::.dead::.dead::.dead::.dead::.dead::.dead::.dead::.dead::.dead::.dead::.dead::.dead::.dead::.dead::.dead::.dead::.dead::.dead::.dead::.dead::.dead::.dead::.dead::.dead::.dead::.dead::.dead::.dead::.dead::.dead::.dead::.dead::.dead::.dead::.dead::.dead::.dead::.dead::.dead::.dead::.dead::.dead::.dead::.dead::.dead::.dead::.dead::.dead::.dead::.dead::.dead::[])) (by simp [wk,slN,slW,gdN0,grN0])).trans ((Gn.freeze (id:=2) rfl).trans ((Gn.weak (tm':=(slN r::.int .i64 (m:Int)::.dead::.dead::.ptr 0 0 0::.ptr 1 0 0::slW FL::.dead::.buf 3 0 0 1 2::.ptr 4 0 0::.dead::.dead::.dead::.dead::.dead::.dead::.dead::.dead::.dead::.dead::.dead::.dead::.dead::.dead::.dead::.dead::.dead::.dead::.dead::.dead::.dead::.dead::.dead::.dead::.dead::.dead::.dead::.dead::.dead::.dead::.dead::.dead::.dead::.dead::.dead::.dead::.dead::.dead::.dead::.dead::.dead::.dead::.dead::.dead::.dead::.dead::.dead::.dead::.dead::.dead::.dead::.dead::.dead::.dead::.dead::.dead::.dead::.dead::.dead::.dead::.dead::.dead::.dead::.dead::.dead::.dead::.dead::.dead::.dead::.dead::.dead::.dead::.dead::.dead::.dead::.dead::.dead::.dead::.dead::.dead::.dead::.dead::.dead::.dead::.dead::.dead::.dead::.dead::[])) ?_).trans ((Gn.canon (J:=[]) (H:=[.cells 0 [.sl true [] 0,.sl true [] 0],.cells 0 [.bool we,.int .u32 wf.toNat,.int .u32 wl.toNat,.int .i64 (wt:Int)],.dead,.cells 0 [.int .u32 wf.toNat,.bool we],.cells 0 [.sl true [] 0,.sl true [] 0]]) (tm':=(slN r::.int .i64 (m:Int)::.dead::.dead::.ptr 0 0 0::.ptr 1 0 0::slW FL::.dead::.buf 3 0 0 1 2::.ptr 4 0 0::.dead::.dead::.dead::.dead::.dead::.dead::.dead::.dead::.dead::.dead::.dead::.dead::.dead::.dead::.dead::.dead::.dead::.dead::.dead::.dead::.dead::.dead::.dead::.dead::.dead::.dead::.dead::.dead::.dead::.dead::.dead::.dead::.dead::.dead::.dead::.dead::.dead::.dead::.dead::.dead::.dead::.dead::.dead::.dead::.dead::.dead::.dead::.dead::.dead::.dead::.dead::.dead::.dead::.dead::.dead::.dead::.dead::.dead::.dead::.dead::.dead::.dead::.dead::.dead::.dead::.dead::.dead::.dead::.dead::.dead::.dead::.dead::.dead::.dead::.dead::.dead::.dead::.dead::.dead::.dead::.dead::.dead::.dead::.dead::.dead::.dead::.dead::.dead::[])) ?_ ?_ ?_ ?_ ?_).trans ((Gn.ownCell (id:=4) (i:=0) (sz:=1) rfl rfl).trans (Gn.ownCell (id:=4) (i:=1) (sz:=1) rfl rfl)))))) (cutK.go (cfg:=cfgG) tok mixed ?_)
   ·simp [wk,slN,slW,gdN0,grN0,fzs,fz,Nat.beq,Nat.beq_refl,slW,fzs_ok,belAll_append,len_objN,len_objE,hin,hFLl,htkF]
   ·simp [wk,slN,slW,gdN0,grN0,fzs,fz,fzH,setO,Nat.beq,Nat.beq_refl,slW,fzs_ok,belAll_append,len_objN,len_objE,hin,hFLl]
   ·simp [wk,slN,slW,gdN0,grN0]
   ·simp
   ·simp [belAll_append,len_objN,len_objE]
   ·simp [belAll_append,len_objN,len_objE]
   ·simp (maxSteps:=2000000) -implicitDefEqProofs +contextual (disch:=first | assumption | omega | decide +kernel) only [push_cast,↓capI,seval,Nat.reduceLeDiff,Nat.reduceEqDiff,reduceCtorEq,↓reduceIte,List.set]
    refine T.lp tok mixed cfgG (fun ((i:Nat))=>kp 2 (dd 2 (kp 3 (dd 1 (sv (.buf 3 ((gdN st m ⟨wf,we⟩ i).sets.length-1) 0 (gdN st m ⟨wf,we⟩ i).sets.length 2) (kp 1 (sv (.int .i64 (i:Int)) (dd 87 (nl))))))))) (fun H0 ((i:Nat))=>objN wl we wf wt (gdN st m ⟨wf,we⟩ i)) (fun ((i:Nat))=>i≤(gdN st m ⟨wf,we⟩ i).sets.length∧i≤N) (fun ((i:Nat))=>N-i) (0) ?_ ?_ ?_
    ·exact ⟨Nat.zero_le _,Nat.zero_le _⟩
    ·exact Gn.canon (J:=[]) (by simp [List.append_nil,encT,slR,slB,slI,encPt,encGs,gdN0,grN0,objN]) (by simp [wk,slN,slW,gdN0,grN0,putT,kp,dd,sv,nl]) (by simp [List.length_append,len_objN,len_objE,objN]) (by simp [belAll_append,len_objN,len_objE,kp,dd,sv,nl]) (by rw [len_objN];exact bel_objN)
    ·intro i hi
     obtain ⟨hi,hiN⟩:=hi
     have hv:=hinv i
     have hnext:gdN st m ⟨wf,we⟩ (i+1)=gdI st m i (gdN st m ⟨wf,we⟩ i):=rfl
     have hstop:=hat i
     generalize hd:gdN st m ⟨wf,we⟩ i=d at hv hnext hstop hi
     simp only [hd]
     obtain ⟨sets,rows,accs⟩:=d
     have hok:=hv.ok
     have hrl:=hv.rows
     have hal:=hv.accs
     simp only at hok hrl hal hi hstop
     have hlen:=hok.len
     have hx1:objN wl we wf wt ⟨sets,rows,accs⟩=[.cells 0 [.sl true [] 0,.sl true [] 0],.cells 0 [.bool we,.int .u32 wf.toNat,.int .u32 wl.toNat,.int .i64 (wt:Int)],.dead,.cells (sets.length-1) (sets.flatMap encGs),.cells 0 [.buf 5 rows.length 0 rows.length 1,.buf 6 accs.length 0 accs.length 1],.cells rows.length (rows.map slI),.cells accs.length (accs.map .bool)]:=rfl
     by_cases hlt:i<sets.length
     ·have hgs:getV (sets.flatMap encGs) (i*2) 2=encGs sets[i]:=get_flat len_Gs sets i hlt
      have hsl:(sets.flatMap encGs).length=sets.length*2:=len_flat len_Gs sets
      have hs1:sets[i]? = some sets[i]:=List.getElem?_eq_getElem hlt
      have hgr2:=fun j=>hgr sets[i] sets hok j
      have h46i:=fun c=>h46 sets[i] c
      generalize hS:sets[i]=S at hgs hs1 hgr2 h46i
      refine vms2 hx1 hlt ?_
      refine T.lp tok mixed cfgG (fun ((j:Nat))=>kp 2 (dd 2 (kp 3 (dd 1 (sv (.buf 3 ((grN st S sets j).1.length-1) 0 (grN st S sets j).1.length 2) (kp 2 (sv (.buf 7 j 0 j 1) (sv (.int .i64 (j:Int)) (dd 85 (nl)))))))))) (fun H0 ((j:Nat))=>objE wl we wf wt ⟨sets,rows,accs⟩ (grN st S sets j)) (fun ((j:Nat))=>j≤m) (fun ((j:Nat))=>m-j) (0) ?_ ?_ ?_
      ·exact Nat.zero_le _
      ·refine (Gn.ownNil (t:=11) (sz:=1) rfl).trans ?_
       exact Gn.canon (J:=[]) (by simp [List.append_nil,encT,slR,slB,slI,encPt,encGs,gdN0,grN0,objE]) (by simp [wk,slN,slW,gdN0,grN0,putT,kp,dd,sv,nl]) (by simp [List.length_append,len_objN,len_objE,objE]) (by simp [belAll_append,len_objN,len_objE,kp,dd,sv,nl]) (by rw [len_objE];exact bel_objE)
      ·intro j hj
       have hj0:j≤m:=hj
       obtain ⟨hokj,⟨rr,hrr⟩,hrowl,_,_⟩:=hgr2 j
       have hnx:grN st S sets (j+1)=grI st S j (grN st S sets j):=rfl
       have hlast:j=m→grN st S sets m=grN st S sets j:=fun e=>by rw [e]
       generalize hR:grN st S sets j=q at hokj hrr hrowl hnx hlast
       simp only [hR]
       obtain ⟨l,row⟩:=q
       simp only at hokj hrr hrowl
       have hll:=hokj.len
       have hil:i<l.length:=by rw [hrr,List.length_append];omega
       have hgl:getV (l.flatMap encGs) (i*2) 2=encGs S:=by
        rw [get_flat len_Gs l i hil,←hS]
        simp only [hrr,List.getElem_append_left hlt]
       have hfl:(l.flatMap encGs).length=l.length*2:=len_flat len_Gs l
       have hx2:objE wl we wf wt ⟨sets,rows,accs⟩ (l,row)=[.cells 0 [.sl true [] 0,.sl true [] 0],.cells 0 [.bool we,.int .u32 wf.toNat,.int .u32 wl.toNat,.int .i64 (wt:Int)],.dead,.cells (l.length-1) (l.flatMap encGs),.cells 0 [.buf 5 rows.length 0 rows.length 1,.buf 6 accs.length 0 accs.length 1],.cells rows.length (rows.map slI),.cells accs.length (accs.map .bool),.cells row.length (row.map (.int .i64))]:=rfl
       obtain ⟨sn,sa⟩:=S
       by_cases hjm:j<m
       ·have hc:=h46i j
        rw [grI] at hnx
        generalize st ⟨sn,sa⟩ j=T at hc hnx
        obtain ⟨tg,tb⟩:=T
        simp only at hc hnx
        cases tb with
        | false =>
         rw [if_pos rfl] at hnx
         obtain ⟨tn,ta⟩:=tg
         refine vms6 hx2 hjm hil hgl hfl hrowl ?_
         refine callG.pc1 hc ?_
         refine vms1 hrowl ?_
         refine ⟨(j+1),by omega,by (try simp only);omega,?_⟩;exact Gn.canon (by first | rfl | (simp [List.append_nil,encT,slR,slB,slI,encPt,encGs,gdN0,grN0,hnx,objE,hrowl];rfl)) (by simp [wk,slN,slW,gdN0,grN0,hnx,objE,hrowl]) (by simp [List.length_append,len_objN,len_objE]) (by simp [belAll_append,len_objN,len_objE]) (by simp [belAll_append,len_objN,len_objE])
        | true =>
         rw [if_neg (by decide)] at hnx
         have h47:=pc206 (l:=l) (by omega) tg
         have hbel:belAll 0 [slG l,.agg (encGs tg)]=true:=by rw [belAll_cons,bel_slG];rfl
         have hap:l.length-1+1=l.length:=by omega
         cases hik:idxG tg l with
         | some k =>
          rw [hik] at hnx
          simp only at hnx
          rw [fndG,hik] at h47
          simp only at h47
          obtain ⟨tn,ta⟩:=tg
          refine vms6 hx2 hjm hil hgl hfl hrowl ?_
          refine callG.pc1 hc ?_
          refine vms1 hrowl ?_
          refine callO.lent (J:=[]) (by rw [List.nil_append,List.append_nil];exact (brw_g (x:=⟨tn,ta⟩)) ▸ h47.toJ rfl) (by rw [List.nil_append,List.append_nil];exact (congrArg (belAll 0) (brw_g (x:=⟨tn,ta⟩))).trans hbel) rfl rfl ?_
          refine vms1 hrowl ?_
          refine ⟨(j+1),by omega,by (try simp only);omega,?_⟩;exact Gn.canon (by first | rfl | (simp [List.append_nil,encT,slR,slB,slI,encPt,encGs,gdN0,grN0,hnx,objE,hrowl];rfl)) (by simp [wk,slN,slW,gdN0,grN0,hnx,objE,hrowl]) (by simp [List.length_append,len_objN,len_objE]) (by simp [belAll_append,len_objN,len_objE]) (by simp [belAll_append,len_objN,len_objE])
         | none =>
          rw [hik] at hnx
          simp only at hnx
          rw [fndG,hik] at h47
          simp only at h47
          obtain ⟨tn,ta⟩:=tg
          refine vms6 hx2 hjm hil hgl hfl hrowl ?_
          refine callG.pc1 hc ?_
          refine vms1 hrowl ?_
          refine callO.lent (J:=[]) (by rw [List.nil_append,List.append_nil];exact (brw_g (x:=⟨tn,ta⟩)) ▸ h47.toJ rfl) (by rw [List.nil_append,List.append_nil];exact (congrArg (belAll 0) (brw_g (x:=⟨tn,ta⟩))).trans hbel) rfl rfl ?_
          refine vms3 hrowl hfl hap ?_
          refine ⟨(j+1),by omega,by (try simp only);omega,?_⟩;exact Gn.canon (by first | rfl | (simp [List.append_nil,encT,slR,slB,slI,encPt,encGs,gdN0,grN0,hnx,objE,hrowl,hap];rfl)) (by simp [wk,slN,slW,gdN0,grN0,hnx,objE,hrowl,hap]) (by simp [List.length_append,len_objN,len_objE]) (by simp [belAll_append,len_objN,len_objE]) (by simp [belAll_append,len_objN,len_objE])
       ·have hjm2:j=m:=by omega
        have hI:gdI st m i ⟨sets,rows,accs⟩=⟨l,rows++[row],accs++[sa]⟩:=by
         rw [gdI]
         simp only [hs1]
         rw [hlast hjm2]
        rw [hI] at hnext
        subst hjm2
        have hg2:getV (l.flatMap encGs) (i*2+1) 1=[.bool sa]:=by
         have:=get_flat_drop (enc:=encGs) len_Gs l i hil 1 1 (by decide)
         have e2:encGs l[i]=[.int .u32 sn.toNat,.bool sa]:=by
          have:=hgl
          rw [get_flat len_Gs l i hil] at this
          exact this
         rw [e2] at this
         simpa [getV,List.drop_drop] using this
        have hb2:i*2+1+1≤l.length*2:=by omega
        refine vms6 hx2 hjm hil hfl hg2 hb2 ?_
        refine ⟨(i+1),⟨by rw [hnext];exact hil,by omega⟩,by (try simp only);omega,?_⟩;refine (Gn.freeze (id:=7) rfl).trans ?_;exact Gn.canon (by first | rfl | (simp [List.append_nil,encT,slR,slB,slI,encPt,encGs,gdN0,grN0,fzs,fz,fzs_ok,fzH,setO,getO,Nat.beq,List.take_of_length_le,belAll_append,len_objN,len_objE,hnext,objN,slI,hrowl,fzs_app];done) | (simp [List.append_nil,encT,slR,slB,slI,encPt,encGs,gdN0,grN0,fzs,fz,fzs_ok,fzH,setO,getO,Nat.beq,List.take_of_length_le,belAll_append,len_objN,len_objE,hnext,objN,slI,hrowl,fzs_app];rfl)) (by simp [wk,slN,slW,gdN0,grN0,fzs,fz,fzs_ok,fzH,setO,getO,Nat.beq,List.take_of_length_le,belAll_append,len_objN,len_objE,hnext,objN,slI,hrowl,fzs_app,cfg0,cfgG,slI,slR,slB,encT,ones_ints,ones_bools,encPt,encGs,slN,slW,slG,getV_map,getV_mapO,List.length_map,Nat.mul_one,one_Ws]) (by simp [List.length_append,len_objN,len_objE]) (by simp [belAll_append,len_objN,len_objE]) (by simp [belAll_append,len_objN,len_objE])
     ·rw [hstop (by omega) hiN]
      refine vms2 hx1 hlt ?_
      refine endK.gn (Gn.freeze (id:=5) rfl) ?_;refine endK.gn (Gn.freeze (id:=6) rfl) ?_;refine endK.ret ?_ (by first | rfl | simp [belAll_append,len_objN,len_objE]);simp [belAll_append,len_objN,len_objE,fzs_ok,imp,lenOK_iff,List.take_of_length_le,evRes,getT,getO,setO,fzs,fz,fzH,Nat.beq,retV,Res.then,ldT,ldR,mkV,getV,cfg0,cfgG,slI,slR,slB,encT,ones_ints,ones_bools,encPt,encGs,slN,slW,slG,getV_map,getV_mapO,List.length_map,Nat.mul_one,one_Ws,Tryz.f179,encT,slR,slB,tt_160]
theorem pc179 {sw:Int} {p:Pr} (hp:okP sw p) (h24:(flat p).length≤24) {m:Nat} (hm:m≤16) (hm1:0<m):PC Tryz.prog 179 [slN (flat p),.int .i64 (m:Int)] (.agg (encT (gdT (refSt p) m (refS0 p)))):=pc29N hp h24 (N:=bigN) rfl hm hm1
theorem bld10 {r:List Nd} {sw:Int} (hr:r.length≤4000000):BldR 148 r sw:=by
 by_cases hs:sw<1∨16<sw
 ·refine .inl ⟨hs,?_⟩
  rcases hs with h | h
  ·refine PC.walk tok mixed cfgG Tryz.func148 rfl Tryz.call148 (by simp [belAll_append,len_objN,len_objE]) (by first | rfl | simp [belAll_append,len_objN,len_objE]) ?_;refine vms1 Tryz.ntmps148 ?_
   refine endK.ret ?_ (by first | rfl | simp [belAll_append,len_objN,len_objE]);simp [evRes,getT,retV,Tryz.f148,zTb,tt_160,Res.then,ldT,ldR,getO,mkV,getV,imp,lenOK_iff]
  ·refine PC.walk tok mixed cfgG Tryz.func148 rfl Tryz.call148 (by simp [belAll_append,len_objN,len_objE]) (by first | rfl | simp [belAll_append,len_objN,len_objE]) ?_;refine vms1 Tryz.ntmps148 ?_
   (try refine vms1 h ?_)
   refine endK.ret ?_ (by first | rfl | simp [belAll_append,len_objN,len_objE]);simp [evRes,getT,retV,Tryz.f148,zTb,tt_160,Res.then,ldT,ldR,getO,mkV,getV,imp,lenOK_iff]
 have hs1:¬sw<1:=fun h=>hs (.inl h)
 have hs2:¬16<sw:=fun h=>hs (.inr h)
 have h27:=pc59 sw r hr
 by_cases hc:checkP sw r=0
 ·obtain ⟨h24,p,hp,hf⟩:=checkP_tree hc
  refine .inr (.inr ⟨hs,hc,p,hp,hf,h24,?_⟩)
  rw [hf] at h24
  have hsz:=siz_nx sw p hp
  have hD:=cls_of (x:=nxP p) (by omega)
  obtain ⟨m,rfl⟩:∃m:Nat,sw=(m:Int):=⟨sw.toNat,by omega⟩
  rw [Int.toNat_natCast]
  have hT:=(detT_ok hD (x:=nxP p) (by simp) (m:=m) (by omega) (by omega)).1
  obtain ⟨hG,hrch,hlang⟩:=refT_all hp h24 (m:=m) (by omega) (by omega)
  have hdl:=fun w=>detT_La hD (x:=nxP p) (by simp) (m:=m) (by omega) (by omega) (w:=w)
  have h29:=pc179 hp h24 (m:=m) (by omega) (by omega)
  have heq:minS (detT (nxP p) m)=minS (gdT (refSt p) m (refS0 p)):=minS_eq hT hG fun w=>by
   have h1:=hdl w
   rw [MN_nx m p w hp,←hlang w] at h1
   cases ha:La (detT (nxP p) m) 0 w with
   | true=>exact (h1.1 ha).symm
   | false =>
    cases hb:La (gdT (refSt p) m (refS0 p)) 0 w with
    | false=>rfl
    | true=>rw [h1.2 hb] at ha;cases ha
  rw [heq]
  have h28:=pc178 hG
  have hcnt:=minF_cnt hG (parS_good hG) hrch
  rw [minO,parO_eq] at h28
  rw [←hf] at h29
  have hone:Dd (gdT (refSt p) m (refS0 p)) 0→(minS (gdT (refSt p) m (refS0 p))).next.length≤64:=fun hd=>by
   obtain ⟨o,h1,h2,h3,h4,_,_,h7,_,h9⟩:=minF_ord hG (c:=parS (gdT (refSt p) m (refS0 p)))
   have:o.length≤1:=by
    by_cases ho:o.length≤1
    ·exact ho
    ·exfalso
     have hr1:=h1.rng _ (getD_mem (i:=1) (by omega))
     have hl:=h9 1 (by omega) (by omega)
     refine hl ((parS_good hG).dd _ (by omega) hr1.2 |>.2 ?_)
     obtain ⟨l,hl2⟩:=hrch (o.getD 1 0).toNat (by omega)
     rw [show (((o.getD 1 0).toNat:Nat):Int)=o.getD 1 0 from by omega] at hl2
     intro l2
     have:=hd (l++l2)
     rw [La,runA,List.foldl_append] at this
     rw [La,←hl2]
     exact this
   rw [minS];omega
  have hout:(64<cntS (gdT (refSt p) m (refS0 p))↔64<(minS (gdT (refSt p) m (refS0 p))).next.length):=by
   by_cases hd:Dd (gdT (refSt p) m (refS0 p)) 0
   ·have:=hcnt.1 hd
    have:=hone hd
    omega
   ·rw [minS,hcnt.2 hd]
  have h28:PC Tryz.prog 178 [.agg (encT (gdT (refSt p) m (refS0 p)))] (if 64<(minS (gdT (refSt p) m (refS0 p))).next.length then .tup [zTb,.bool false] else .tup [.agg (encT (minS (gdT (refSt p) m (refS0 p)))),.bool true]):=by
   by_cases h:64<cntS (gdT (refSt p) m (refS0 p))
   ·rw [if_pos h] at h28
    rw [if_pos (hout.1 h)]
    exact h28
   ·rw [if_neg h] at h28
    rw [if_neg (fun h2=>h (hout.2 h2))]
    exact h28
  rw [bldV]
  clear hout hone hcnt heq hdl hlang hrch hT hD hsz hG hf
  generalize gdT (refSt p) m (refS0 p)=u at h28 h29 ⊢
  generalize minS u=w at h28 ⊢
  obtain ⟨n1,a1⟩:=u
  obtain ⟨n2,a2⟩:=w
  by_cases h64:64<n2.length
  ·rw [if_pos h64] at h28 ⊢
   refine PC.walk tok mixed cfgG Tryz.func148 rfl Tryz.call148 (by simp [belAll_append,len_objN,len_objE]) (by first | rfl | simp [belAll_append,len_objN,len_objE]) ?_;refine vms1 Tryz.ntmps148 ?_
   (try refine vms2 hs1 hs2 ?_)
   refine callO.pc h27 ?_
   refine vms1 hc ?_
   refine callO.pc h29 ?_
   refine vms0 ?_
   refine callO.pc h28 ?_
   simp (maxSteps:=2000000) -implicitDefEqProofs +contextual (disch:=first | assumption | omega | decide +kernel) only [push_cast,↓capI,seval,Nat.reduceLeDiff,Nat.reduceEqDiff,reduceCtorEq,↓reduceIte,zTb]
   refine endK.ret ?_ (by first | rfl | simp [belAll_append,len_objN,len_objE]);simp [evRes,getT,retV,Tryz.f148,zTb,tt_160,Res.then,ldT,ldR,getO,mkV,getV,imp,lenOK_iff]
  ·rw [if_neg h64] at h28 ⊢
   refine PC.walk tok mixed cfgG Tryz.func148 rfl Tryz.call148 (by simp [belAll_append,len_objN,len_objE]) (by first | rfl | simp [belAll_append,len_objN,len_objE]) ?_;refine vms1 Tryz.ntmps148 ?_
   (try refine vms2 hs1 hs2 ?_)
   refine callO.pc h27 ?_
   refine vms1 hc ?_
   refine callO.pc h29 ?_
   refine vms0 ?_
   refine callO.pc h28 ?_
   refine vms0 ?_
   refine endK.ret ?_ (by first | rfl | simp [belAll_append,len_objN,len_objE]);simp [evRes,getT,retV,Tryz.f148,zTb,tt_160,Res.then,ldT,ldR,getO,mkV,getV,imp,lenOK_iff,encT,slR,slB]
 ·refine .inr (.inl ⟨hs,hc,?_⟩)
  refine PC.walk tok mixed cfgG Tryz.func148 rfl Tryz.call148 (by simp [belAll_append,len_objN,len_objE]) (by first | rfl | simp [belAll_append,len_objN,len_objE]) ?_;refine vms1 Tryz.ntmps148 ?_
  (try refine vms2 hs1 hs2 ?_)
  refine callO.pc h27 ?_
  refine vms1 hc ?_
  refine endK.ret ?_ (by first | rfl | simp [belAll_append,len_objN,len_objE]);simp [evRes,getT,retV,Tryz.f148,zTb,tt_160,Res.then,ldT,ldR,getO,mkV,getV,imp,lenOK_iff]
end
section
attribute [local push_cast] cfg0 Top.encT Top.slI Top.slP Top.slL slN zTb
theorem arg28 (t:Top.Tp) (x y:Int) (r:List Nd) (hf:t.fit) (hr:r.length≤4000000):ArgR 101 t x y r:=by
 have h19:=Top.pc57 t hf
 have hp:=hf.ports
 have hh:=hf.hosts
 by_cases h0:Top.chk t=0
 case neg =>
  refine .inl ⟨_,.inl ⟨h0,rfl⟩,h0,?_⟩
  rw [argV]
  refine PC.walk tok mixed cfg0 Tryz.func101 rfl Tryz.call101 (by simp [Top.belT,Top.bel_slL,Top.bel_slP]) (by first | rfl | simp [Top.belT,Top.bel_slL,Top.bel_slP]) ?_;refine vms1 Tryz.ntmps101 ?_
  refine callO.pc h19 ?_
  refine vms1 h0 ?_
  refine endK.ret ?_ (by first | rfl | simp [Top.belT,Top.bel_slL,Top.bel_slP]);simp [evRes,getT,retV,Tryz.f101,zTb,tt_160,Res.then,ldT,ldR,getO,mkV,getV,imp,lenOK_iff]
 by_cases hb:badR t x y
 ·refine .inl ⟨9,.inr (.inl ⟨h0,hb,rfl⟩),by decide,?_⟩
  rw [argV]
  have hb':=hb
  rw [badR] at hb'
  by_cases b1:x<0
  ·refine PC.walk tok mixed cfg0 Tryz.func101 rfl Tryz.call101 (by simp [Top.belT,Top.bel_slL,Top.bel_slP]) (by first | rfl | simp [Top.belT,Top.bel_slL,Top.bel_slP]) ?_;refine vms1 Tryz.ntmps101 ?_
   refine callO.pc h19 ?_
   simp (maxSteps:=2000000) -implicitDefEqProofs +contextual (disch:=first | assumption | omega | decide +kernel) only [push_cast,↓capI,seval,Nat.reduceLeDiff,Nat.reduceEqDiff,reduceCtorEq,↓reduceIte,h0,b1]
   refine endK.ret ?_ (by first | rfl | simp [Top.belT,Top.bel_slL,Top.bel_slP]);simp [evRes,getT,retV,Tryz.f101,zTb,tt_160,Res.then,ldT,ldR,getO,mkV,getV,imp,lenOK_iff]
  by_cases b2:(t.hosts.length:Int)≤x
  ·refine PC.walk tok mixed cfg0 Tryz.func101 rfl Tryz.call101 (by simp [Top.belT,Top.bel_slL,Top.bel_slP]) (by first | rfl | simp [Top.belT,Top.bel_slL,Top.bel_slP]) ?_;refine vms1 Tryz.ntmps101 ?_
   refine callO.pc h19 ?_
   simp (maxSteps:=2000000) -implicitDefEqProofs +contextual (disch:=first | assumption | omega | decide +kernel) only [push_cast,↓capI,seval,Nat.reduceLeDiff,Nat.reduceEqDiff,reduceCtorEq,↓reduceIte,h0,b1,b2]
   refine endK.ret ?_ (by first | rfl | simp [Top.belT,Top.bel_slL,Top.bel_slP]);simp [evRes,getT,retV,Tryz.f101,zTb,tt_160,Res.then,ldT,ldR,getO,mkV,getV,imp,lenOK_iff]
  by_cases b3:y<0
  ·refine PC.walk tok mixed cfg0 Tryz.func101 rfl Tryz.call101 (by simp [Top.belT,Top.bel_slL,Top.bel_slP]) (by first | rfl | simp [Top.belT,Top.bel_slL,Top.bel_slP]) ?_;refine vms1 Tryz.ntmps101 ?_
   refine callO.pc h19 ?_
   simp (maxSteps:=2000000) -implicitDefEqProofs +contextual (disch:=first | assumption | omega | decide +kernel) only [push_cast,↓capI,seval,Nat.reduceLeDiff,Nat.reduceEqDiff,reduceCtorEq,↓reduceIte,h0,b1,b2,b3]
   refine endK.ret ?_ (by first | rfl | simp [Top.belT,Top.bel_slL,Top.bel_slP]);simp [evRes,getT,retV,Tryz.f101,zTb,tt_160,Res.then,ldT,ldR,getO,mkV,getV,imp,lenOK_iff]
  have b4:(t.hosts.length:Int)≤y:=by omega
  refine PC.walk tok mixed cfg0 Tryz.func101 rfl Tryz.call101 (by simp [Top.belT,Top.bel_slL,Top.bel_slP]) (by first | rfl | simp [Top.belT,Top.bel_slL,Top.bel_slP]) ?_;refine vms1 Tryz.ntmps101 ?_
  refine callO.pc h19 ?_
  simp (maxSteps:=2000000) -implicitDefEqProofs +contextual (disch:=first | assumption | omega | decide +kernel) only [push_cast,↓capI,seval,Nat.reduceLeDiff,Nat.reduceEqDiff,reduceCtorEq,↓reduceIte,h0,b1,b2,b3,b4]
  refine endK.ret ?_ (by first | rfl | simp [Top.belT,Top.bel_slL,Top.bel_slP]);simp [evRes,getT,retV,Tryz.f101,zTb,tt_160,Res.then,ldT,ldR,getO,mkV,getV,imp,lenOK_iff]
 have hb':=hb
 rw [badR] at hb'
 have b1:¬x<0:=by omega
 have b2:¬(t.hosts.length:Int)≤x:=by omega
 have b3:¬y<0:=by omega
 have b4:¬(t.hosts.length:Int)≤y:=by omega
 have h22:=pc59 (t.ports.length:Int) r hr
 by_cases hc:checkP t.ports.length r=0
 case neg =>
  refine .inl ⟨_,.inr (.inr (.inl ⟨h0,hb,hc,rfl⟩)),hc,?_⟩
  rw [argV]
  refine PC.walk tok mixed cfg0 Tryz.func101 rfl Tryz.call101 (by simp [Top.belT,Top.bel_slL,Top.bel_slP]) (by first | rfl | simp [Top.belT,Top.bel_slL,Top.bel_slP]) ?_;refine vms1 Tryz.ntmps101 ?_
  refine callO.pc h19 ?_
  simp (maxSteps:=2000000) -implicitDefEqProofs +contextual (disch:=first | assumption | omega | decide +kernel) only [push_cast,↓capI,seval,Nat.reduceLeDiff,Nat.reduceEqDiff,reduceCtorEq,↓reduceIte,h0,b1,b2,b3,b4]
  refine callO.pc h22 ?_
  refine vms1 hc ?_
  refine endK.ret ?_ (by first | rfl | simp [Top.belT,Top.bel_slL,Top.bel_slP]);simp [evRes,getT,retV,Tryz.f101,zTb,tt_160,Res.then,ldT,ldR,getO,mkV,getV,imp,lenOK_iff]
 refine arg_bld h0 hb hc (bld10 hr) fun v e h hv=>?_
 rw [argV]
 rcases hv with rfl | ⟨u,rfl⟩
 ·refine PC.walk tok mixed cfg0 Tryz.func101 rfl Tryz.call101 (by simp [Top.belT,Top.bel_slL,Top.bel_slP]) (by first | rfl | simp [Top.belT,Top.bel_slL,Top.bel_slP]) ?_;refine vms1 Tryz.ntmps101 ?_
  refine callO.pc h19 ?_
  simp (maxSteps:=2000000) -implicitDefEqProofs +contextual (disch:=first | assumption | omega | decide +kernel) only [push_cast,↓capI,seval,Nat.reduceLeDiff,Nat.reduceEqDiff,reduceCtorEq,↓reduceIte,h0,b1,b2,b3,b4]
  refine callO.pc h22 ?_
  refine vms1 hc ?_
  refine callO.pc h ?_
  refine vms0 ?_
  refine endK.ret ?_ (by first | rfl | simp [Top.belT,Top.bel_slL,Top.bel_slP]);simp [evRes,getT,retV,Tryz.f101,zTb,tt_160,Res.then,ldT,ldR,getO,mkV,getV,imp,lenOK_iff]
 ·obtain ⟨un,ua⟩:=u
  refine PC.walk tok mixed cfg0 Tryz.func101 rfl Tryz.call101 (by simp [Top.belT,Top.bel_slL,Top.bel_slP]) (by first | rfl | simp [Top.belT,Top.bel_slL,Top.bel_slP]) ?_;refine vms1 Tryz.ntmps101 ?_
  refine callO.pc h19 ?_
  simp (maxSteps:=2000000) -implicitDefEqProofs +contextual (disch:=first | assumption | omega | decide +kernel) only [push_cast,↓capI,seval,Nat.reduceLeDiff,Nat.reduceEqDiff,reduceCtorEq,↓reduceIte,h0,b1,b2,b3,b4]
  refine callO.pc h22 ?_
  refine vms1 hc ?_
  refine callO.pc h ?_
  simp (maxSteps:=2000000) -implicitDefEqProofs +contextual (disch:=first | assumption | omega | decide +kernel) only [push_cast,↓capI,seval,Nat.reduceLeDiff,Nat.reduceEqDiff,reduceCtorEq,↓reduceIte,encT,slR,slB]
  refine endK.ret ?_ (by first | rfl | simp [Top.belT,Top.bel_slL,Top.bel_slP]);simp [evRes,getT,retV,Tryz.f101,zTb,tt_160,Res.then,ldT,ldR,getO,mkV,getV,imp,lenOK_iff,encT,slR,slB]
end
section
mutual
theorem V.bel_le {n m:Nat} (h:n≤m):∀x:V,x.bel n=true→x.bel m=true
 | .buf i a b c d,hb=>by rw [bel_buf,decide_eq_true_eq] at hb ⊢;omega
 | .ptr i a b,hb=>by rw [bel_ptr,decide_eq_true_eq] at hb ⊢;omega
 | .mp i,hb=>by rw [bel_mp,decide_eq_true_eq] at hb ⊢;omega
 | .agg vs,hb=>by rw [bel_agg] at hb ⊢;exact belAll_le h vs hb
 | .tup vs,hb=>by rw [bel_tup] at hb ⊢;exact belAll_le h vs hb
 | .sl b vs k,hb=>by rw [bel_sl] at hb ⊢;exact belAll_le h vs hb
 | .fp vs,hb=>by rw [bel_fp] at hb ⊢;exact belAll_le h vs hb
 | .ifc t v,hb=>by rw [bel_ifc] at hb ⊢;exact V.bel_le h v hb
 | .opt t v,hb=>by rw [bel_opt] at hb ⊢;exact V.bel_le h v hb
 | .fn f a b,hb=>by
  rw [bel_fn,Bool.and_eq_true] at hb ⊢
  exact ⟨belAll_le h a hb.1,belAll_le h b hb.2⟩
 | .int _ _,_=>by simp only [V.bel]
 | .bool _,_=>by simp only [V.bel]
 | .str _,_=>by simp only [V.bel]
 | .nilp,_=>by simp only [V.bel]
 | .nili,_=>by simp only [V.bel]
 | .nilf,_=>by simp only [V.bel]
 | .nilm,_=>by simp only [V.bel]
 | .dead,_=>by simp only [V.bel]
 | .raw _,_=>by simp only [V.bel]
@[simp] theorem belAll_le {n m:Nat} (h:n≤m):∀xs:List V,belAll n xs=true→belAll m xs=true
 | [],_=>belAll_nil
 | x::xs,hb=>by
  rw [belAll_cons,Bool.and_eq_true] at hb ⊢
  exact ⟨V.bel_le h x hb.1,belAll_le h xs hb.2⟩
end
end
end Go.Proofs.YtlbmbbaefncleaaGreatDoor.Px

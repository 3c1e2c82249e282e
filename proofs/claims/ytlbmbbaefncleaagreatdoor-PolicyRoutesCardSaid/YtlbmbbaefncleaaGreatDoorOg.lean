/-
  Joined by a program from the texts PxLiv PxCls PxMns PxMin PxDet.
-/
import Derived.Test.YtlbmbbaefncleaaGreatDoorOf
set_option maxRecDepth 100000
set_option maxHeartbeats 4000000
set_option linter.all false
namespace Go.Proofs.YtlbmbbaefncleaaGreatDoor.Px
open Go.Vm
section
theorem liveN0 {t:Tb} {o:List Bool}:liveN t o 0=(o,false):=rfl
theorem take_bools {l:List Bool}:List.take l.length (l.map V.bool)=l.map V.bool:=List.take_of_length_le (by simp)
def cfgC:Cfg:={ lv:=[5],ef:=[],ord:=[],em:=[] }
attribute [local push_cast] cfg0 ones_ints ones_bools getV_map getV_mapO List.length_map Nat.mul_one slI slR slB encT
theorem pcj232 {l:List Bool} (h:0<l.length) (hl:l.length≤2^30):PCJ Tryz.prog 232 [slB l] (.buf 0 1 0 l.length 1) [.cells 1 (l.map .bool)]:=by
 have h0:¬l.length=0:=by omega
 refine PCJ.walk tok mixed cfgC Tryz.func232 rfl Tryz.call232 (by simp) ?_;simp (maxSteps:=2000000) -implicitDefEqProofs +contextual (disch:=first | assumption | omega | decide +kernel) only [push_cast,↓capI,seval,Nat.reduceLeDiff,Nat.reduceEqDiff,reduceCtorEq,↓reduceIte,Tryz.ntmps232,cfgC]
 simp (maxSteps:=2000000) -implicitDefEqProofs +contextual (disch:=first | assumption | omega | decide +kernel) only [push_cast,↓capI,seval,Nat.reduceLeDiff,Nat.reduceEqDiff,reduceCtorEq,↓reduceIte,take_bools]
 refine endJ.ret ([]) (by simp [fzs_ok,getO,setO,fzs,fz,fzH,Nat.beq,cfg0,ones_ints,ones_bools,getV_map,getV_mapO,List.length_map,Nat.mul_one,slI,slR,slB,encT]) (by simp [fzs_ok,imp,lenOK_iff,List.take_of_length_le,evRes,getT,getO,setO,fzs,fz,fzH,Nat.beq,retV,Res.then,ldT,ldR,mkV,getV,cfg0,ones_ints,ones_bools,getV_map,getV_mapO,List.length_map,Nat.mul_one,slI,slR,slB,encT,Tryz.f232]) (by first | rfl | simp) (by first | rfl | simp)
theorem pc234 {out:List Bool} {n:Int} (hn:n<(out.length:Int)):PC Tryz.prog 234 [.int .i64 n,.fp [slB out]] (.bool (decide (0≤n)&&gB out n)):=by
 by_cases h:0≤n
 ·obtain ⟨k,rfl⟩:∃k:Nat,n=k:=⟨n.toNat,by omega⟩
  have hk:k<out.length:=by omega
  have hg:gB out (k:Int)=out[k]:=by rw [gB,Int.toNat_natCast,List.getD_eq_getElem?_getD,List.getElem?_eq_getElem hk];rfl
  rw [hg,decide_eq_true h]
  refine PC.walk tok mixed cfg0 Tryz.func234 rfl Tryz.call234 (by simp) (by first | rfl | simp) ?_;refine vms1 Tryz.ntmps234 ?_
  refine endK.retA ?_;simp [evRes,getT,retV,Tryz.f234]
 ·rw [decide_eq_false h]
  refine PC.walk tok mixed cfg0 Tryz.func234 rfl Tryz.call234 (by simp) (by first | rfl | simp) ?_;refine vms1 Tryz.ntmps234 ?_
  refine endK.retA ?_;simp [evRes,getT,retV,Tryz.f234]
def idxP (out:List Bool):Nat→List Int→Int
 | _,[]=>-1
 | i,x::r=>if (decide (0≤x)&&gB out x)=true then (i:Int) else idxP out (i+1) r
theorem idxP_ge (out:List Bool):∀(r:List Int) (i:Nat),(decide (0≤idxP out i r))=toL out r
 | [],_=>rfl
 | x::r,i=>by
  rw [idxP,toL,List.any_cons]
  split
  ·rename_i h
   rw [h,decide_eq_true (by omega)];rfl
  ·rename_i h
   rw [Bool.not_eq_true] at h
   rw [h,Bool.false_or]
   exact idxP_ge out r (i+1)
theorem pc238 {out:List Bool} {row:List Int} (hr:∀x ∈ row,x<(out.length:Int)) (hl:row.length≤1000) :
  PC Tryz.prog 238 [slI row,.fn (.func 234) [] [.fp [slB out]]] (.int .i64 (idxP out 0 row)):=by
 refine PC.walk tok mixed cfg0 Tryz.func238 rfl Tryz.call238 (by simp) (by first | rfl | simp) ?_;refine vms1 Tryz.ntmps238 ?_
 refine T.lp tok mixed cfg0 (fun ((i:Nat))=>kp 2 (dd 5 (kp 1 (sv (.int .i64 (i:Int)) (dd 10 (nl)))))) (fun H0 ((i:Nat))=>H0) (fun ((i:Nat))=>i≤row.length∧idxP out i (row.drop i)=idxP out 0 row) (fun ((i:Nat))=>row.length-i) (0) ?_ ?_ ?_
 ·exact ⟨by omega,rfl⟩
 ·exact Gn.canon (J:=_) (by first | rfl | (simp [List.append_nil,encT,slR,slB,shs_ok,bel_bools,liveN0];done) | (simp [List.append_nil,encT,slR,slB,shs_ok,bel_bools,liveN0];rfl)) (by simp [wk,liveN0,putT,kp,dd,sv,nl]) (by simp [List.length_append]) (by simp [kp,dd,sv,nl]) (by simp)
 ·intro i hi
  obtain ⟨hi,hx⟩:=hi
  by_cases hlt:i<row.length
  ·have h62:=pc234 (hr row[i] (List.getElem_mem hlt))
   rw [List.drop_eq_getElem_cons hlt,idxP] at hx
   cases hb:(decide (0≤row[i])&&gB out row[i]) with
   | true =>
    rw [hb] at h62 hx
    rw [if_pos rfl] at hx
    refine vms1 hlt ?_
    refine callO.pc h62 ?_
    refine vms0 ?_
    refine endK.retA ?_;simp [evRes,getT,retV,Tryz.f238,hx]
   | false =>
    rw [hb] at h62 hx
    rw [if_neg (by decide)] at hx
    refine vms1 hlt ?_
    refine callO.pc h62 ?_
    refine vms0 ?_
    refine ⟨(i+1),⟨by omega,hx⟩,by (try simp only);omega,?_⟩;exact Gn.canon (by first | rfl | (simp [List.append_nil,encT,slR,slB,shs_ok,bel_bools,liveN0];rfl)) (by simp [wk,liveN0]) (by simp [List.length_append]) (by simp) (by simp)
  ·have h64:i=row.length:=by omega
   subst h64
   rw [List.drop_eq_nil_of_le (Nat.le_refl _),idxP] at hx
   refine vms1 hlt ?_
   refine endK.retA ?_;simp [evRes,getT,retV,Tryz.f238,hx]
theorem pc233 {out:List Bool} {row:List Int} (hr:∀x ∈ row,x<(out.length:Int)) (hl:row.length≤1000) :
  PC Tryz.prog 233 [slI row,.fn (.func 234) [] [.fp [slB out]]] (.bool (toL out row)):=by
 have h64:=pc238 hr hl
 rw [←idxP_ge out row 0]
 refine PC.walk tok mixed cfg0 Tryz.func233 rfl Tryz.call233 (by simp) (by first | rfl | simp) ?_;refine vms1 Tryz.ntmps233 ?_
 refine callO.pc h64 ?_
 refine vms0 ?_
 refine endK.retA ?_;simp [evRes,getT,retV,Tryz.f233]
theorem set_bools {o:List Bool} {q:Nat} (h:q<o.length):putV (o.map V.bool) q [.bool true]=(o.set q true).map V.bool:=put_map _ _ h
theorem pc220 {n m:Nat} {t:Tb} (ht:okT n m t):PC Tryz.prog 220 [.agg (encT t)] (slB (liveS t)):=by
 obtain ⟨next,acc⟩:=t
 have h60:=pcj232 (l:=acc) (by have:=ht.accs;have:=ht.pos;simp only at *;omega) (by have:=ht.accs;have:=ht.big;simp only at *;omega)
 have hn1:=ht.rows
 have hn2:=ht.accs
 have hpos:=ht.pos
 have hbig:=ht.big
 simp only at hn1 hn2
 refine PC.walk tok mixed cfg0 Tryz.func220 rfl Tryz.call220 (by simp) (by first | rfl | simp) ?_;refine vms1 Tryz.ntmps220 ?_
 refine callO.pcj h60 ?_
 refine vms0 ?_
 refine T.lp tok mixed cfg0 (fun ((s:List Bool × Bool))=>dd 1 (kp 1 (dd 1 (kp 1 (sv (.bool s.2) (dd 29 (nl))))))) (fun H0 ((s:List Bool × Bool))=>[.cells 0 (encT ⟨next,acc⟩),.cells 1 (s.1.map .bool),.cells 0 [.buf 1 1 0 acc.length 1]]) (fun ((s:List Bool × Bool))=>s.1.length=acc.length∧(s.2=true→liveF ⟨next,acc⟩ (cntF s.1+1) s.1=liveS ⟨next,acc⟩)∧(s.2=false→s.1=liveS ⟨next,acc⟩)) (fun ((s:List Bool × Bool))=>2*cntF s.1+cond s.2 1 0) ((acc,true)) ?_ ?_ ?_
 ·exact ⟨rfl,fun _=>rfl,fun h=>by simp at h⟩
 ·exact Gn.canon (J:=_) (by first | rfl | (simp [List.append_nil,encT,slR,slB,shs_ok,bel_bools,liveN0];done) | (simp [List.append_nil,encT,slR,slB,shs_ok,bel_bools,liveN0];rfl)) (by simp [wk,liveN0,putT,kp,dd,sv,nl]) (by simp [List.length_append]) (by simp [kp,dd,sv,nl]) (by simp)
 ·intro s hs
  obtain ⟨o,ch⟩:=s
  obtain ⟨hol,htr,hfa⟩:=hs
  simp only at hol htr hfa
  cases ch with
  | false =>
   have hfa:=hfa rfl
   rw [←hfa]
   refine vms0 ?_
   have htk:List.take acc.length (o.map V.bool)=o.map V.bool:=List.take_of_length_le (by simp;omega)
   refine endK.gn (Gn.freeze (id:=1) rfl) ?_;refine endK.retA ?_;simp [fzs_ok,imp,lenOK_iff,List.take_of_length_le,evRes,getT,getO,setO,fzs,fz,fzH,Nat.beq,retV,Res.then,ldT,ldR,mkV,getV,cfg0,ones_ints,ones_bools,getV_map,getV_mapO,List.length_map,Nat.mul_one,slI,slR,slB,encT,Tryz.f220,slB,htk,hol]
  | true =>
   have htr:=htr rfl
   have hstep:=liveF_step ⟨next,acc⟩ (k:=cntF o+1) (o:=o) (by simp only;omega) (by omega)
   rw [htr] at hstep
   refine vms0 ?_
   refine T.lp tok mixed cfg0 (fun ((q:Nat))=>dd 1 (kp 1 (dd 1 (kp 1 (sv (.bool (liveN ⟨next,acc⟩ o q).2) (dd 7 (kp 2 (sv (.int .i64 (q:Int)) (dd 19 (nl)))))))))) (fun H0 ((q:Nat))=>[.cells 0 (encT ⟨next,acc⟩),.cells 1 ((liveN ⟨next,acc⟩ o q).1.map .bool),.cells 0 [.buf 1 1 0 acc.length 1]]) (fun ((q:Nat))=>q≤next.length) (fun ((q:Nat))=>next.length-q) (0) ?_ ?_ ?_
   ·omega
   ·exact Gn.canon (J:=_) (by first | rfl | (simp [List.append_nil,encT,slR,slB,shs_ok,bel_bools,liveN0];done) | (simp [List.append_nil,encT,slR,slB,shs_ok,bel_bools,liveN0];rfl)) (by simp [wk,liveN0,putT,kp,dd,sv,nl]) (by simp [List.length_append]) (by simp [kp,dd,sv,nl]) (by simp)
   ·intro q hq
    have hq0:q≤next.length:=hq
    have hol2:=liveN_len ⟨next,acc⟩ o q
    have hcn:=(liveN_cnt ⟨next,acc⟩ o (by simp only;omega) q hq0).1
    have hnx:liveN ⟨next,acc⟩ o (q+1)=liveI ⟨next,acc⟩ q (liveN ⟨next,acc⟩ o q):=rfl
    have hlast:q=next.length→pass ⟨next,acc⟩ o=liveN ⟨next,acc⟩ o q:=fun e=>by rw [e];rfl
    generalize hs:liveN ⟨next,acc⟩ o q=s at hol2 hnx hlast hcn
    simp only [hs]
    obtain ⟨o2,c2⟩:=s
    simp only at hol2 hcn
    by_cases hlt:q<next.length
    ·have hqo:q<o2.length:=by omega
     have hgo:o2.getD q false=o2[q]:=lgetD hqo
     have hgr:next.getD q []=next[q]:=lgetD hlt
     have hrow:=ht.row next[q] (List.getElem_mem hlt)
     have hrng:=ht.rng next[q] (List.getElem_mem hlt)
     have hcols:=ht.cols
     have h61:=pc233 (out:=o2) (row:=next[q]) (fun x hx=>by have:=(hrng x hx).2;omega) (by omega)
     have htk:List.take acc.length (o2.map V.bool)=o2.map V.bool:=List.take_of_length_le (by simp;omega)
     have hlo:acc.length=o2.length:=by omega
     cases hb:o2[q] with
     | true =>
      have hI:liveI ⟨next,acc⟩ q (o2,c2)=(o2,c2):=by rw [liveI];simp only [hgo,hb];rfl
      refine vms3 hlt hqo hb ?_
      rw [hI] at hnx
      refine ⟨(q+1),by omega,by (try simp only);omega,?_⟩;exact Gn.canon (by first | rfl | (simp [List.append_nil,encT,slR,slB,shs_ok,bel_bools,liveN0,hnx];rfl)) (by simp [wk,liveN0,hnx]) (by simp [List.length_append]) (by simp) (by simp)
     | false =>
      have hset:=set_bools hqo
      cases htl:toL o2 next[q] with
      | false =>
       have hI:liveI ⟨next,acc⟩ q (o2,c2)=(o2,c2):=by rw [liveI];simp only [hgo,hgr,hb,htl];rfl
       rw [htl] at h61
       refine vms3 hlt hqo hb ?_
       refine callO.lend1 (v:=.bool false) (by simpa [lnds1,lndWs,lndW,getO,Nat.blt,Nat.ble,Nat.beq,htk,slI,slB,hlo,take_bools] using h61) (by simp [lnds1,lndWs,lndW,getO,Nat.blt,Nat.ble,Nat.beq,htk,slI,slB]) rfl rfl ?_
       refine vms0 ?_
       rw [hI] at hnx
       refine ⟨(q+1),by omega,by (try simp only);omega,?_⟩;exact Gn.canon (by first | rfl | (simp [List.append_nil,encT,slR,slB,shs_ok,bel_bools,liveN0,hnx];rfl)) (by simp [wk,liveN0,hnx]) (by simp [List.length_append]) (by simp) (by simp)
      | true =>
       have hI:liveI ⟨next,acc⟩ q (o2,c2)=(o2.set q true,true):=by rw [liveI];simp only [hgo,hgr,hb,htl,and_self,if_true]
       rw [htl] at h61
       refine vms3 hlt hqo hb ?_
       refine callO.lend1 (v:=.bool true) (by simpa [lnds1,lndWs,lndW,getO,Nat.blt,Nat.ble,Nat.beq,htk,slI,slB,hlo,take_bools] using h61) (by simp [lnds1,lndWs,lndW,getO,Nat.blt,Nat.ble,Nat.beq,htk,slI,slB]) rfl rfl ?_
       refine vms2 hset hqo ?_
       rw [hI] at hnx
       refine ⟨(q+1),by omega,by (try simp only);omega,?_⟩;exact Gn.canon (by first | rfl | (simp [List.append_nil,encT,slR,slB,shs_ok,bel_bools,liveN0,hnx];rfl)) (by simp [wk,liveN0,hnx]) (by simp [List.length_append]) (by simp) (by simp)
    ·have hqn:q=next.length:=by omega
     rw [hlast hqn] at hstep
     cases c2 with
     | true =>
      have h1:=hstep.1 rfl
      simp only at h1
      refine vms1 hlt ?_
      refine ⟨(o2,true),⟨by simp only;omega,fun _=>by rw [←h1.2];exact liveF_any _ _ _ (by simp only;omega) (by simp only;omega) _ (by simp only;omega),fun h=>by simp at h⟩,by show 2*cntF o2+1<2*cntF o+1;omega,?_⟩;exact Gn.canon (by first | rfl | (simp [List.append_nil,encT,slR,slB,shs_ok,bel_bools,liveN0];rfl)) (by simp [wk,liveN0]) (by simp [List.length_append]) (by simp) (by simp)
     | false =>
      have h1:=hstep.2 rfl
      refine vms1 hlt ?_
      refine ⟨(o2,false),⟨by simp only;omega,fun h=>by simp at h,fun _=>h1⟩,by show 2*cntF o2+0<2*cntF o+1;omega,?_⟩;exact Gn.canon (by first | rfl | (simp [List.append_nil,encT,slR,slB,shs_ok,bel_bools,liveN0];rfl)) (by simp [wk,liveN0]) (by simp [List.length_append]) (by simp) (by simp)
end
section
theorem refN0 {t:Tb} {c:List Int}:refN t c 0=([],[]):=rfl
@[simp] theorem bel_rep {n k:Nat} {y:Int}:belAll n (List.replicate k (V.int .i64 y))=true:=by
 rw [show List.replicate k (V.int .i64 y)=(List.replicate k y).map (V.int .i64) by simp];exact bel_ints _
theorem rep_ints {n:Nat} {y:Int}:List.replicate n (V.int .i64 y)=(List.replicate n y).map (V.int .i64):=by simp
theorem set_ints {l:List Int} {q:Nat} {y:Int} (h:q<l.length):putV (l.map (V.int .i64)) q [.int .i64 y]=(l.set q y).map (V.int .i64):=put_map _ _ h
theorem cls0_len (t:Tb):(cls0 t).length=t.next.length:=by simp [cls0]
def cl0 (t:Tb) (n q:Nat):List Int:=(cls0 t).take q++List.replicate (n-q) 0
theorem cl0_step {t:Tb} {n q:Nat} (hn:t.next.length=n) (hq:q<n) {y:Int} (hy:(cls0 t)[q]? = some y):(cl0 t n q).set q y=cl0 t n (q+1):=by
 have hl:=cls0_len t
 have hq':q<(cls0 t).length:=by omega
 have hg:(cls0 t)[q]=y:=by rw [List.getElem?_eq_getElem hq'] at hy;simpa using hy
 rw [cl0,set_pad (by rw [List.length_take];omega) hq,cl0,List.take_succ_eq_append_getElem hq',hg]
 simp
theorem cl0_zero {t:Tb} {n q:Nat} (hn:t.next.length=n) (hq:q<n) (hy:(cls0 t)[q]? = some 0):cl0 t n q=cl0 t n (q+1):=by
 have hl:=cls0_len t
 have hq':q<(cls0 t).length:=by omega
 have hg:(cls0 t)[q]=0:=by rw [List.getElem?_eq_getElem hq'] at hy;simpa using hy
 obtain ⟨k,hk⟩:∃k,n-q=k+1:=⟨n-q-1,by omega⟩
 rw [cl0,cl0,List.take_succ_eq_append_getElem hq',hg,hk,show n-(q+1)=k from by omega,List.replicate_succ]
 simp
theorem cl0_len {t:Tb} {n q:Nat} (hn:t.next.length=n) (hq:q≤n):(cl0 t n q).length=n:=by
 have hl:=cls0_len t
 simp [cl0];omega
theorem cls0_at {t:Tb} {q:Nat} (hq:q<t.next.length):(cls0 t)[q]? = some (if (liveS t).getD q false=false then -1 else if t.acc.getD q false=true then 1 else 0):=by
 rw [cls0,List.getElem?_map,List.getElem?_range hq];rfl
theorem cl0_all {t:Tb} {n:Nat} (hn:t.next.length=n):cl0 t n n=cls0 t:=by
 have hl:=cls0_len t
 rw [cl0,List.take_of_length_le (by omega),Nat.sub_self,List.replicate_zero,List.append_nil]
def padS (s:List Int):List Int:=s++List.replicate (17-s.length) 0
def sgV (s:List Int):V:=.agg ((padS s).map (.int .i64))
def enL:Nat→List (List Int)→List (V × V)
 | _,[]=>[]
 | i,x::r=>(sgV x,.int .i64 i)::enL (i+1) r
theorem enL_len:∀(l:List (List Int)) (i:Nat),(enL i l).length=l.length
 | [],_=>rfl
 | x::r,i=>by simp [enL,enL_len r]
theorem keyL {l:List Int} (h:l.length=17):keyOK tt 312 (.agg (l.map (V.int .i64))):=by
 match l,h with
 | [a1,a2,a3,a4,a5,a6,a7,a8,a9,a10,a11,a12,a13,a14,a15,a16,a17],_=>exact ⟨rfl,rfl⟩
theorem padS_len {s:List Int} (h:s.length≤17):(padS s).length=17:=by simp [padS];omega
theorem ints_inj:∀ {a b:List Int},a.map (V.int .i64)=b.map (V.int .i64)→a=b
 | [],[],_=>rfl
 | x::a,y::b,h=>by
  simp only [List.map_cons,List.cons.injEq,V.int.injEq,true_and] at h
  rw [h.1,ints_inj h.2]
 | [],_::_,h=>by simp at h
 | _::_,[],h=>by simp at h
theorem pls_ints:∀(l:List Int) (n:Nat),pls (l.map (V.int .i64)) n=true
 | [],_=>rfl
 | x::r,n=>by simp [pls,pl,pls_ints r n]
theorem veqL {x y:List Int} (h:x.length=y.length):veq (sgV x) (sgV y)=decide (x=y):=by
 have hp:pl (sgV x) 1=true:=by simp [sgV,pl,pls_ints]
 by_cases e:x=y
 ·subst e
  rw [(veq_iff _ _ _ hp).2 rfl,decide_eq_true rfl]
 ·rw [decide_eq_false e]
  cases hb:veq (sgV x) (sgV y)
  ·rfl
  ·have h1:=(veq_iff _ _ _ hp).1 hb
   simp only [sgV,V.agg.injEq] at h1
   have h2:=ints_inj h1
   rw [padS,padS,h] at h2
   exact absurd (List.append_inj_left h2 h) e
theorem keysL {l:List (List Int)} (h:∀s ∈ l,s.length≤17):∀i,keysOK tt 312 (enL i l):=by
 induction l with
 | nil=>intro i e he;simp [enL] at he
 | cons x r ih =>
  intro i e he
  simp only [enL,List.mem_cons] at he
  rcases he with rfl | he
  ·exact keyL (padS_len (h x (by simp)))
  ·exact ih (fun s hs=>h s (by simp [hs])) (i+1) e he
theorem mHas_enL {x:List Int}:∀(l:List (List Int)) (i:Nat),(∀s ∈ l,x.length=s.length)→mHas (sgV x) (enL i l)=(idxL x l).isSome
 | [],_,_=>rfl
 | y::r,i,h=>by
  simp only [enL,mHas,veqL (h y (by simp)),idxL]
  by_cases e:x=y
  ·simp [e]
  ·simp [e,mHas_enL r (i+1) (fun s hs=>h s (by simp [hs]))]
theorem mGet_enL {x:List Int} (z:V):∀(l:List (List Int)) (i:Nat),(∀s ∈ l,x.length=s.length)→mGet z (sgV x) (enL i l)=numV i z (idxL x l)
 | [],_,_=>rfl
 | y::r,i,h=>by
  simp only [enL,mGet,veqL (h y (by simp)),idxL]
  by_cases e:x=y
  ·simp [e,numV]
  ·simp only [e,decide_false,mGet_enL z r (i+1) (fun s hs=>h s (by simp [hs])),if_false]
   cases idxL x r<;>simp [numV]
   omega
theorem mPut_enL {x:List Int}:∀(l:List (List Int)) (i:Nat),(∀s ∈ l,x.length=s.length)→idxL x l=none→mPut (sgV x) (.int .i64 ((i+l.length:Nat):Int)) (enL i l)=enL i (l++[x])
 | [],_,_,_=>rfl
 | y::r,i,h,hi=>by
  simp only [idxL] at hi
  by_cases e:x=y
  ·simp [e] at hi
  ·simp only [e,if_false,Option.map_eq_none_iff] at hi
   have:=mPut_enL r (i+1) (fun s hs=>h s (by simp [hs])) hi
   simp only [enL,mPut,veqL (h y (by simp)),e,decide_false,List.cons_append,List.length_cons]
   rw [←this,show i+(r.length+1)=i+1+r.length from by omega]
theorem bel_enL1 {n:Nat}:∀(l:List (List Int)) (i:Nat),belAll n ((enL i l).map (·.1))=true
 | [],_=>rfl
 | x::r,i=>by rw [enL,List.map_cons,belAll_cons,bel_enL1 r,sgV,bel_agg,bel_ints];rfl
theorem bel_enL2 {n:Nat}:∀(l:List (List Int)) (i:Nat),belAll n ((enL i l).map (·.2))=true
 | [],_=>rfl
 | x::r,i=>by rw [enL,List.map_cons,belAll_cons,bel_enL2 r];rfl
@[simp] theorem bel_mapL {n i:Nat} {l:List (List Int)}:(Ob.map (enL i l)).bel n=true:=by simp only [Ob.bel,bel_enL1,bel_enL2];rfl
def sgC (c:Int) (rs:List Int) (j:Nat):List Int:=c::(rs.take j++List.replicate (16-j) 0)
theorem sgC_set {c:Int} {rs:List Int} {j:Nat} (hj:j<rs.length) (h16:j<16) (y:Int):(sgC c rs j).set (j+1) y=c::(rs.take j++(y::List.replicate (16-(j+1)) 0)):=by
 rw [sgC,List.set_cons_succ,set_pad (by rw [List.length_take];omega) h16]
theorem sgC_set2 {c z:Int} {rs t:List Int} {j:Nat} (hj:j<rs.length) (y:Int):(c::(rs.take j++(z::t))).set (j+1) y=c::(rs.take j++(y::t)):=by
 have hl:(rs.take j).length=j:=by rw [List.length_take];omega
 rw [List.set_cons_succ,List.set_append_right _ _ (by omega),hl]
 simp
theorem sgC_succ {c:Int} {rs:List Int} {j:Nat} (hj:j<rs.length):sgC c rs (j+1)=c::(rs.take j++(rs[j]::List.replicate (16-(j+1)) 0)):=by
 rw [sgC,List.take_succ_eq_append_getElem hj,List.append_assoc]
 rfl
theorem sgC_all {c:Int} {rs:List Int} (h:rs.length≤16):sgC c rs rs.length=padS (c::rs):=by
 rw [sgC,padS,List.take_length]
 simp
theorem sgC_len {c:Int} {rs:List Int} {j:Nat} (hj:j≤rs.length) (h16:j≤16):(sgC c rs j).length=17:=by
 simp [sgC];omega
theorem refN_sgl (t:Tb) (cls:List Int) {m:Nat} (hm:∀r ∈ t.next,r.length=m):∀n,n≤t.next.length→∀s ∈ (refN t cls n).2,s.length=m+1
 | 0,_,s,h=>by simp [refN] at h
 | n+1,hn,s,h=>by
  have ih:=refN_sgl t cls hm n (by omega)
  rw [refN,refI] at h
  split at h
  ·exact ih s h
  ·split at h
   ·exact ih s h
   ·rcases List.mem_append.1 h with h | h
    ·exact ih s h
    ·simp at h
     subst h
     have hg:t.next[n]?.getD []=t.next[n]:=by rw [List.getElem?_eq_getElem (by omega)];rfl
     have:=hm t.next[n] (List.getElem_mem _)
     rw [sigO,List.length_cons,List.length_map,hg,this]
attribute [local push_cast] cfg0 ones_ints ones_bools getV_map getV_mapO List.length_map Nat.mul_one slI slR slB encT rep_ints numV Option.isSome_some Option.isSome_none
theorem pc200 {n m:Nat} {t:Tb} (ht:okT n m t):PC Tryz.prog 200 [.agg (encT t)] (slI (parS t)):=by
 have h52:=pc220 ht
 have hn1:=ht.rows
 have hn2:=ht.accs
 have hpos:=ht.pos
 have hbig:=ht.big
 have hll:=liveS_len t
 obtain ⟨next,acc⟩:=t
 simp only at hn1 hn2 hll
 refine PC.walk tok mixed cfg0 Tryz.func200 rfl Tryz.call200 (by simp [belAll_append]) (by first | rfl | simp [belAll_append]) ?_;refine vms1 Tryz.ntmps200 ?_
 refine callO.pc h52 ?_
 refine vms0 ?_
 refine T.lp tok mixed cfg0 (fun ((q:Nat))=>dd 1 (kp 1 (dd 1 (kp 2 (dd 18 (kp 1 (sv (.int .i64 (q:Int)) (dd 92 (nl))))))))) (fun H0 ((q:Nat))=>[.cells 0 (encT ⟨next,acc⟩),.cells 0 ((cl0 ⟨next,acc⟩ n q).map (.int .i64))]) (fun ((q:Nat))=>q≤n) (fun ((q:Nat))=>n-q) (0) ?_ ?_ ?_
 ·omega
 ·exact Gn.canon (J:=[]) (by simp [List.append_nil,encT,slR,slB,slI,cl0,hn1]) (by simp [wk,refN0,putT,kp,dd,sv,nl]) (by simp) (by simp [belAll_append,kp,dd,sv,nl]) (by simp only [belAll_append,bel_rep,bel_mapL,bel_ints,bel_bools,bel_rows,bel_slI,bel_slR,bel_slB,bel_encT,belObs_cons,belO_cells,belObs_nil];rfl)
 ·intro q hq
  have hq0:q≤n:=hq
  have hcl:=cl0_len (t:=⟨next,acc⟩) hn1 hq0
  by_cases hlt:q<n
  ·have hql:q<next.length:=by omega
   have hqo:q<(liveS ⟨next,acc⟩).length:=by omega
   have hqa:q<acc.length:=by omega
   have hat:=cls0_at (t:=⟨next,acc⟩) (q:=q) (by simp only;omega)
   rw [lgetD hqo,lgetD hqa] at hat
   have hst:=fun y=>cl0_step (t:=⟨next,acc⟩) (y:=y) hn1 hlt
   have hz:=cl0_zero (t:=⟨next,acc⟩) hn1 hlt
   have hset:=fun y=>set_ints (y:=y) (show q<(cl0 ⟨next,acc⟩ n q).length by omega)
   rw [←hn1] at hlt
   cases hb:(liveS ⟨next,acc⟩)[q] with
   | false =>
    rw [hb,if_pos rfl] at hat
    have e1:=hst (-1) hat
    simp (maxSteps:=2000000) -implicitDefEqProofs +contextual (disch:=first | assumption | omega | decide +kernel) only [push_cast,↓capI,seval,Nat.reduceLeDiff,Nat.reduceEqDiff,reduceCtorEq,↓reduceIte,hlt,hqo,hb,hset,e1]
    refine ⟨(q+1),by omega,by (try simp only);omega,?_⟩;exact Gn.canon (by first | rfl | (simp [List.append_nil,encT,slR,slB,slI,refN0,enL];rfl)) (by simp [wk,refN0]) (by simp [List.length_append]) (by simp [belAll_append]) (by simp [belAll_append])
   | true =>
    rw [hb,if_neg (by decide)] at hat
    cases hb2:acc[q] with
    | true =>
     rw [hb2,if_pos rfl] at hat
     have e1:=hst 1 hat
     simp (maxSteps:=2000000) -implicitDefEqProofs +contextual (disch:=first | assumption | omega | decide +kernel) only [push_cast,↓capI,seval,Nat.reduceLeDiff,Nat.reduceEqDiff,reduceCtorEq,↓reduceIte,hlt,hqo,hqa,hb,hb2,hset,e1]
     refine ⟨(q+1),by omega,by (try simp only);omega,?_⟩;exact Gn.canon (by first | rfl | (simp [List.append_nil,encT,slR,slB,slI,refN0,enL];rfl)) (by simp [wk,refN0]) (by simp [List.length_append]) (by simp [belAll_append]) (by simp [belAll_append])
    | false =>
     rw [hb2,if_neg (by decide)] at hat
     have e1:=hz hat
     refine vms5 hlt hqo hqa hb hb2 ?_
     refine ⟨(q+1),by omega,by (try simp only);omega,?_⟩;exact Gn.canon (by first | rfl | (simp [List.append_nil,encT,slR,slB,slI,refN0,enL,←e1];rfl)) (by simp [wk,refN0,←e1]) (by simp [List.length_append]) (by simp [belAll_append]) (by simp [belAll_append])
  ·have hqn:q=n:=by omega
   subst hqn
   have hall:=cl0_all (t:=⟨next,acc⟩) hn1
   simp only [hall]
   have hlt':¬q<next.length:=by omega
   have hlc:=cls0_len ⟨next,acc⟩
   simp only at hlc
   have hlc2:next.length=(cls0 ⟨next,acc⟩).length:=by omega
   refine vms1 hlt' ?_
   refine T.lp tok mixed cfg0 (fun ((s:List Int × Nat))=>dd 1 (kp 1 (dd 2 (sv (slI s.1) (dd 1 (sv (.int .i64 (s.2:Int)) (dd 110 (nl)))))))) (fun H0 ((s:List Int × Nat))=>[.cells 0 (encT ⟨next,acc⟩),.dead]) (fun ((s:List Int × Nat))=>s.1.length=q∧(∀j,j<s.2→((j:Nat):Int) ∈ s.1)∧s.2≤q∧parF ⟨next,acc⟩ (q+2) s.1 s.2=parS ⟨next,acc⟩) (fun ((s:List Int × Nat))=>q+1-s.2) ((cls0 ⟨next,acc⟩,0)) ?_ ?_ ?_
   ·exact ⟨by simp only;omega,fun j h=>by omega,Nat.zero_le _,by rw [parS,←hn1]⟩
   ·refine (Gn.freeze (id:=1) rfl).trans ?_;exact Gn.canon (by first | rfl | (simp [List.append_nil,encT,slR,slB,slI,refN0,enL,fzs,fz,fzs_ok,fzH,setO,getO,Nat.beq,List.take_of_length_le,belAll_append,hlc];done) | (simp [List.append_nil,encT,slR,slB,slI,refN0,enL,fzs,fz,fzs_ok,fzH,setO,getO,Nat.beq,List.take_of_length_le,belAll_append,hlc];rfl)) (by simp [wk,refN0,putT,kp,dd,sv,nl,fzs,fz,fzs_ok,fzH,setO,getO,Nat.beq,List.take_of_length_le,belAll_append,hlc,cfg0,ones_ints,ones_bools,getV_map,getV_mapO,List.length_map,Nat.mul_one,slI,slR,slB,encT,rep_ints,numV,Option.isSome_some,Option.isSome_none]) (by simp [List.length_append]) (by simp [belAll_append,kp,dd,sv,nl]) (by simp [belAll_append])
   ·intro s hs
    obtain ⟨c,cnt⟩:=s
    obtain ⟨hcl2,hmet,hcnt,hpar⟩:=hs
    simp only at hcl2 hmet hcnt hpar
    refine vms0 ?_
    refine T.lp tok mixed cfg0 (fun ((i:Nat))=>dd 1 (kp 1 (dd 2 (kp 1 (dd 1 (kp 3 (dd 42 (kp 2 (sv (.int .i64 (i:Int)) (dd 63 (nl))))))))))) (fun H0 ((i:Nat))=>[.cells 0 (encT ⟨next,acc⟩),.dead,.map (enL 0 (refN ⟨next,acc⟩ c i).2),.cells 0 (((refN ⟨next,acc⟩ c i).1++List.replicate (q-i) 0).map (.int .i64))]) (fun ((i:Nat))=>i≤q) (fun ((i:Nat))=>q-i) (0) ?_ ?_ ?_
    ·omega
    ·exact Gn.canon (J:=[]) (by simp [List.append_nil,encT,slR,slB,slI,refN0,enL,hcl2]) (by simp [wk,refN0,putT,kp,dd,sv,nl]) (by simp [List.length_append]) (by simp [belAll_append,kp,dd,sv,nl]) (by simp [belAll_append])
    ·intro i hi
     have hi0:i≤q:=hi
     have hrl:=refN_len ⟨next,acc⟩ c i
     have hnx:refN ⟨next,acc⟩ c (i+1)=refI ⟨next,acc⟩ c i (refN ⟨next,acc⟩ c i):=rfl
     have hlast:i=q→ref ⟨next,acc⟩ c=refN ⟨next,acc⟩ c i:=fun e=>by rw [ref,e,←hn1]
     have hsl:=refN_sgl ⟨next,acc⟩ c ht.row i (by simp only;omega)
     have hle:=(refN_ok ⟨next,acc⟩ c i).sg
     generalize hR:refN ⟨next,acc⟩ c i=r at hrl hnx hlast hsl hle
     simp only [hR]
     obtain ⟨out,sigs⟩:=r
     simp only at hrl hsl hle
     by_cases hlt:i<q
     ·have hin:i<next.length:=by omega
      have hic:i<c.length:=by omega
      have hgc:c.getD i 0=c[i]:=lgetD hic
      have hgr:next.getD i []=next[i]:=lgetD hin
      have hrow:=ht.row next[i] (List.getElem_mem hin)
      have hrng:=ht.rng next[i] (List.getElem_mem hin)
      have hcols:=ht.cols
      have hlr:((out++List.replicate (q-i) (0:Int)).map (V.int .i64)).length=q:=by simp;omega
      have p1:=fun y=>put_row1 (y:=y) hrl hlt
      have p2:=fun y z=>put_row2 (t:=List.replicate (q-(i+1)) 0) (y:=y) (z:=z) hrl
      rw [←hn1] at hlt
      by_cases hneg:c[i]<0
      ·have hI:refI ⟨next,acc⟩ c i (out,sigs)=(out++[-1],sigs):=by rw [refI,hgc,if_pos hneg]
       rw [hI] at hnx
       simp (maxSteps:=2000000) -implicitDefEqProofs +contextual (disch:=first | assumption | omega | decide +kernel) only [push_cast,↓capI,seval,Nat.reduceLeDiff,Nat.reduceEqDiff,reduceCtorEq,↓reduceIte,hlt,hic,hlr,p1,hneg,hn1]
       refine ⟨(i+1),by omega,by (try simp only);omega,?_⟩;exact Gn.canon (by first | rfl | (simp [List.append_nil,encT,slR,slB,slI,refN0,enL,hnx];rfl)) (by simp [wk,refN0,hnx]) (by simp [List.length_append]) (by simp [belAll_append]) (by simp [belAll_append])
      ·obtain ⟨rs,hrs⟩:∃rs,rs=next[i].map fun x=>if 0≤x then gI c x else -1:=⟨_,rfl⟩
       have hrsl:rs.length=m:=by rw [hrs,List.length_map,hrow]
       have hsig:sigO c (next.getD i []) i=c[i]::rs:=by rw [sigO,hgc,hgr,hrs]
       simp (maxSteps:=2000000) -implicitDefEqProofs +contextual (disch:=first | assumption | omega | decide +kernel) only [push_cast,↓capI,seval,Nat.reduceLeDiff,Nat.reduceEqDiff,reduceCtorEq,↓reduceIte,hlt,hic,hlr,p1,hneg,hn1]
       refine T.lp tok mixed cfg0 (fun ((j:Nat))=>dd 1 (kp 1 (dd 2 (kp 1 (dd 1 (kp 4 (dd 1 (kp 1 (dd 39 (kp 3 (dd 17 (kp 2 (sv (.int .i64 (j:Int)) (dd 43 (nl))))))))))))))) (fun H0 ((j:Nat))=>[.cells 0 (encT ⟨next,acc⟩),.dead,.map (enL 0 sigs),.cells 0 ((out++-1::List.replicate (q-(i+1)) 0).map (.int .i64)),.cells 0 ((sgC c[i] rs j).map (.int .i64))]) (fun ((j:Nat))=>j≤m) (fun ((j:Nat))=>m-j) (0) ?_ ?_ ?_
       ·omega
       ·exact Gn.canon (J:=[]) (by simp [List.append_nil,encT,slR,slB,slI,refN0,enL,sgC,hn1]) (by simp [wk,refN0,putT,kp,dd,sv,nl,hn1]) (by simp [List.length_append]) (by simp [belAll_append,kp,dd,sv,nl]) (by simp [belAll_append])
       ·intro j hj
        have hj0:j≤m:=hj
        have htn:((j:Int)+1).toNat=j+1:=by omega
        have hsgl:=sgC_len (c:=c[i]) (rs:=rs) (j:=j) (by omega) (by omega)
        by_cases hjm:j<m
        ·have hjr:j<next[i].length:=by omega
         have hs1:=fun y=>sgC_set (c:=c[i]) (rs:=rs) (by omega) (by omega:j<16) y
         have hs2:=fun y z=>sgC_set2 (c:=c[i]) (rs:=rs) (z:=z) (t:=List.replicate (16-(j+1)) 0) (by omega:j<rs.length) y
         have htl:(rs.take j).length=j:=by rw [List.length_take];omega
         have hq1:=fun y=>put_row1 (y:=y) (m:=16) htl (by omega)
         have hq2:=fun y z=>put_row2 (t:=List.replicate (16-(j+1)) 0) (y:=y) (z:=z) htl
         have hq3:∀y z:Int,putV (List.take j (List.map (V.int .i64) rs)++V.int .i64 z::List.replicate (15-j) (V.int .i64 0)) j [.int .i64 y]=List.take j (List.map (V.int .i64) rs)++V.int .i64 y::List.replicate (15-j) (V.int .i64 0):=fun y z=>by
          have:=hq2 y z
          simpa using this
         have hsucc:=sgC_succ (c:=c[i]) (rs:=rs) (j:=j) (by omega)
         have hrsj:rs[j]'(by omega)=if 0≤next[i][j] then gI c next[i][j] else -1:=by simp [hrs]
         have hset1:=fun y=>set_ints (y:=y) (show j+1<(sgC c[i] rs j).length by omega)
         have hset2:=fun y z=>set_ints (y:=y) (l:=c[i]::(rs.take j++(z::List.replicate (16-(j+1)) 0))) (q:=j+1) (by simp;omega)
         have hx:=hrng _ (List.getElem_mem hjr)
         rw [hrsj] at hsucc
         rw [←hrow] at hjm
         by_cases hneg2:0≤next[i][j]
         ·obtain ⟨k,hk⟩:∃k:Nat,next[i][j]=(k:Int):=⟨next[i][j].toNat,by omega⟩
          have hkc:k<c.length:=by omega
          have hgk:gI c (k:Int)=c[k]:=by rw [gI,Int.toNat_natCast];exact lgetD hkc
          rw [if_pos hneg2,hk,hgk] at hsucc
          refine vms12 hjm hjr hk hkc hset1 hset2 hs1 hs2 hsgl htn hq1 hq2 ?_
          refine ⟨(j+1),by omega,by (try simp only);omega,?_⟩;exact Gn.canon (by first | rfl | (simp [List.append_nil,encT,slR,slB,slI,refN0,enL,hsucc,hn1,hq3];rfl)) (by simp [wk,refN0,hsucc,hn1,hq3]) (by simp [List.length_append]) (by simp [belAll_append]) (by simp [belAll_append])
         ·rw [if_neg hneg2] at hsucc
          refine vms11 hjm hjr hneg2 hset1 hset2 hs1 hs2 hsgl htn hq1 hq2 ?_
          refine ⟨(j+1),by omega,by (try simp only);omega,?_⟩;exact Gn.canon (by first | rfl | (simp [List.append_nil,encT,slR,slB,slI,refN0,enL,hsucc,hn1,hq3];rfl)) (by simp [wk,refN0,hsucc,hn1,hq3]) (by simp [List.length_append]) (by simp [belAll_append]) (by simp [belAll_append])
        ·have hjm2:j=m:=by omega
         have hjr:¬j<next[i].length:=by omega
         have hall2:=sgC_all (c:=c[i]) (rs:=rs) (by omega)
         rw [hrsl] at hall2
         have hxl:∀s ∈ sigs,(c[i]::rs).length=s.length:=fun s hs=>by rw [hsl s hs,List.length_cons,hrsl]
         have hkk:keyOK tt 312 (sgV (c[i]::rs)):=keyL (padS_len (by simp;omega))
         have hks:=keysL (l:=sigs) (fun s hs=>by rw [hsl s hs];omega) 0
         have hmh:=mHas_enL sigs 0 hxl
         have hmg:=fun z=>mGet_enL z sigs 0 hxl
         have hmp:=mPut_enL sigs 0 hxl
         rw [Nat.zero_add] at hmp
         have hpl:=padS_len (s:=c[i]::rs) (by simp;omega)
         have hel:=enL_len sigs 0
         have hgv:getV ((padS (c[i]::rs)).map (V.int .i64)) 0 17=(padS (c[i]::rs)).map (V.int .i64):=by
          rw [getV,List.drop_zero,List.take_of_length_le (by simp;omega)]
         have hpl2:((padS (c[i]::rs)).map (V.int .i64)).length=17:=by rw [List.length_map,hpl]
         simp only [sgV] at hkk hmh hmg hmp
         cases hik:idxL (c[i]::rs) sigs with
         | some k =>
          have hI:refI ⟨next,acc⟩ c i (out,sigs)=(out++[(k:Int)],sigs):=by rw [refI,hgc,if_neg hneg,hsig];simp only [hik]
          rw [hI] at hnx
          rw [hik] at hmh hmg
          subst hjm2
          simp (maxSteps:=2000000) -implicitDefEqProofs +contextual (disch:=first | assumption | omega | decide +kernel) only [push_cast,↓capI,seval,Nat.reduceLeDiff,Nat.reduceEqDiff,reduceCtorEq,↓reduceIte,hjr,hall2,hgv,hpl2,hkk,hks,hmh,hmg,p2,Nat.zero_add]
          refine ⟨(i+1),by omega,by (try simp only);omega,?_⟩;exact Gn.canon (by first | rfl | (simp [List.append_nil,encT,slR,slB,slI,refN0,enL,hnx,hn1];rfl)) (by simp [wk,refN0,hnx,hn1]) (by simp [List.length_append]) (by simp [belAll_append]) (by simp [belAll_append])
         | none =>
          have hI:refI ⟨next,acc⟩ c i (out,sigs)=(out++[(sigs.length:Int)],sigs++[c[i]::rs]):=by rw [refI,hgc,if_neg hneg,hsig];simp only [hik]
          rw [hI] at hnx
          rw [hik] at hmh hmg
          have hmp2:=hmp hik
          subst hjm2
          simp (maxSteps:=2000000) -implicitDefEqProofs +contextual (disch:=first | assumption | omega | decide +kernel) only [push_cast,↓capI,seval,Nat.reduceLeDiff,Nat.reduceEqDiff,reduceCtorEq,↓reduceIte,hjr,hall2,hgv,hpl2,hkk,hks,hmh,hmg,p2,Nat.zero_add,hel,hmp2]
          refine ⟨(i+1),by omega,by (try simp only);omega,?_⟩;exact Gn.canon (by first | rfl | (simp [List.append_nil,encT,slR,slB,slI,refN0,enL,hnx,hn1];rfl)) (by simp [wk,refN0,hnx,hn1]) (by simp [List.length_append]) (by simp [belAll_append]) (by simp [belAll_append])
     ·have hiq:i=q:=by omega
      have hrf:=hlast hiq
      have hge:=ref_ge ⟨next,acc⟩ c (by simp only;omega) hmet
      have hok:=refN_ok ⟨next,acc⟩ c next.length
      rw [show refN ⟨next,acc⟩ c next.length=ref ⟨next,acc⟩ c from rfl,hrf] at hok
      rw [hrf] at hge
      simp only at hge
      have hel:=enL_len sigs 0
      have hlt2:¬i<next.length:=by omega
      subst hiq
      have hlr2:out++List.replicate (i-i) (0:Int)=out:=by simp
      have hpf:parF ⟨next,acc⟩ (i+2) c cnt=if sigs.length=cnt then out else parF ⟨next,acc⟩ (i+1) out sigs.length:=by rw [parF,hrf]
      rw [hpf] at hpar
      by_cases heq:sigs.length=cnt
      ·rw [if_pos heq] at hpar
       rw [←hpar]
       refine vms4 hlt2 hlr2 hel heq ?_
       refine endK.gn (Gn.freeze (id:=3) rfl) ?_;refine endK.ret ?_ (by first | rfl | simp [belAll_append]);simp [belAll_append,fzs_ok,imp,lenOK_iff,List.take_of_length_le,evRes,getT,getO,setO,fzs,fz,fzH,Nat.beq,retV,Res.then,ldT,ldR,mkV,getV,cfg0,ones_ints,ones_bools,getV_map,getV_mapO,List.length_map,Nat.mul_one,slI,slR,slB,encT,rep_ints,numV,Option.isSome_some,Option.isSome_none,Tryz.f200,hcl2,hrl]
      ·rw [if_neg heq] at hpar
       have hpar2:parF ⟨next,acc⟩ (i+2) out sigs.length=parS ⟨next,acc⟩:=by
        rw [←hpar]
        exact parF_any _ _ _ _ (by simp only;omega) hok.met (by simp only;omega) _ (by simp only;omega) (by omega) (by omega)
       refine vms4 hlt2 hlr2 hel heq ?_
       refine ⟨(out,sigs.length),⟨hrl,hok.met,hle,hpar2⟩,by (try simp only);omega,?_⟩;refine (Gn.freeze (id:=3) rfl).trans ?_;exact Gn.canon (by first | rfl | (simp [List.append_nil,encT,slR,slB,slI,refN0,enL,fzs,fz,fzs_ok,fzH,setO,getO,Nat.beq,List.take_of_length_le,belAll_append,hcl2,hrl];done) | (simp [List.append_nil,encT,slR,slB,slI,refN0,enL,fzs,fz,fzs_ok,fzH,setO,getO,Nat.beq,List.take_of_length_le,belAll_append,hcl2,hrl];rfl)) (by simp [wk,refN0,fzs,fz,fzs_ok,fzH,setO,getO,Nat.beq,List.take_of_length_le,belAll_append,hcl2,hrl,cfg0,ones_ints,ones_bools,getV_map,getV_mapO,List.length_map,Nat.mul_one,slI,slR,slB,encT,rep_ints,numV,Option.isSome_some,Option.isSome_none]) (by simp [List.length_append]) (by simp [belAll_append]) (by simp [belAll_append])
end
section
def idxI (x:Int):List Int→Option Nat
 | []=>none
 | y::r=>if x=y then some 0 else (idxI x r).map (· + 1)
theorem idxI_none {x:Int}:∀ {l:List Int},idxI x l=none→x ∉ l
 | [],_=>by simp
 | y::r,h=>by
  simp only [idxI] at h
  split at h
  ·cases h
  ·rename_i e
   rw [Option.map_eq_none_iff] at h
   have:=idxI_none h
   simp [e,this]
theorem idxI_some {x:Int}:∀ {l:List Int} {k:Nat},idxI x l=some k→l[k]? = some x
 | [],k,h=>by simp [idxI] at h
 | y::r,k,h=>by
  simp only [idxI] at h
  split at h
  ·rename_i e;cases h;simp [e]
  ·rw [Option.map_eq_some_iff] at h
   obtain ⟨j,hj,rfl⟩:=h
   simpa using idxI_some hj
def mrI (c:List Int) (x:Int) (s:List Int × List Int):List Int × List Int :=
 if x<0∨gI c x<0 then (s.1,s.2++[-1])
 else match idxI (gI c x) (s.1.map (gI c)) with
  | some k=>(s.1,s.2++[(k:Int)])
  | none=>(s.1++[x],s.2++[(s.1.length:Int)])
def mrN (c row:List Int) (order:List Int):Nat→List Int × List Int
 | 0=>(order,[])
 | n+1=>mrI c (gI row n) (mrN c row order n)
structure Ms where
 order:List Int
 rows:List (List Int)
 accs:List Bool
def minI (t:Tb) (c:List Int) (i:Nat) (s:Ms):Ms :=
 match s.order[i]? with
 | some q=>⟨(mrN c (t.next.getD q.toNat []) s.order (t.next.getD q.toNat []).length).1,s.rows++[(mrN c (t.next.getD q.toNat []) s.order (t.next.getD q.toNat []).length).2],s.accs++[gB t.acc q]⟩
 | none=>s
def minN (t:Tb) (c:List Int):Nat→Ms
 | 0=>⟨[0],[],[]⟩
 | n+1=>minI t c n (minN t c n)
def minF (t:Tb) (c:List Int):Tb:=⟨(minN t c t.next.length).rows,(minN t c t.next.length).accs⟩
def minS (t:Tb):Tb:=minF t (parS t)
structure Ook (n:Nat) (c:List Int) (order:List Int):Prop where
 rng:∀x ∈ order,0≤x∧x<(n:Int)
 apart:(order.map (gI c)).Nodup
theorem mrI_ok {n:Nat} {c:List Int} {x:Int} (hx:x<(n:Int)) {s:List Int × List Int} (h:Ook n c s.1):Ook n c (mrI c x s).1:=by
 unfold mrI
 split
 ·exact h
 ·rename_i hx0
  split
  ·exact h
  ·rename_i hi
   refine ⟨fun y hy=>?_,?_⟩
   ·rcases List.mem_append.1 hy with hy | hy
    ·exact h.rng y hy
    ·rw [List.mem_singleton] at hy
     subst hy
     exact ⟨by omega,hx⟩
   ·rw [List.map_append,List.nodup_append]
    refine ⟨h.apart,by simp,?_⟩
    intro a ha b hb
    simp at hb
    subst hb
    exact fun e=>idxI_none hi (e ▸ ha)
theorem mrN_ok {n:Nat} {c row:List Int} (hr:∀x ∈ row,x<(n:Int)) {order:List Int} (h:Ook n c order):∀j,j≤row.length→Ook n c (mrN c row order j).1
 | 0,_=>h
 | j+1,hj=>by
  rw [mrN]
  refine mrI_ok ?_ (mrN_ok hr h j (by omega))
  rw [gI,Int.toNat_natCast]
  have:row.getD j 0=row[j]:=by rw [List.getD_eq_getElem?_getD,List.getElem?_eq_getElem (by omega)];rfl
  rw [this]
  exact hr _ (List.getElem_mem _)
theorem mrN_len (c row order:List Int):∀j,(mrN c row order j).2.length=j
 | 0=>rfl
 | j+1=>by
  have:=mrN_len c row order j
  rw [mrN,mrI]
  split
  ·simp [this]
  ·split<;>simp [this]
theorem mrN_pre (c row order:List Int):∀j,∃r,(mrN c row order j).1=order++r
 | 0=>⟨[],by simp [mrN]⟩
 | j+1=>by
  obtain ⟨r,hr⟩:=mrN_pre c row order j
  rw [mrN,mrI]
  split
  ·exact ⟨r,hr⟩
  ·split
   ·exact ⟨r,hr⟩
   ·exact ⟨_,by rw [hr,List.append_assoc]⟩
theorem getRow {n m:Nat} {t:Tb} (ht:okT n m t) {q:Int} (h0:0≤q) (h1:q<(n:Int)):t.next.getD q.toNat [] ∈ t.next:=by
 have hl:=ht.rows
 have:q.toNat<t.next.length:=by omega
 rw [List.getD_eq_getElem?_getD,List.getElem?_eq_getElem this]
 exact List.getElem_mem _
theorem minI_ok {n m:Nat} {t:Tb} (ht:okT n m t) {c:List Int} {i:Nat} {s:Ms} (h:Ook n c s.order):Ook n c (minI t c i s).order:=by
 unfold minI
 split
 ·rename_i q hq
  have hq:=h.rng q (List.mem_of_getElem? hq)
  exact mrN_ok (fun x hx=>(ht.rng _ (getRow ht hq.1 hq.2) x hx).2) h _ (Nat.le_refl _)
 ·exact h
theorem minN_ok {n m:Nat} {t:Tb} (ht:okT n m t) {c:List Int}:∀i,Ook n c (minN t c i).order
 | 0=>⟨fun x hx=>by simp [minN] at hx;subst hx;exact ⟨by omega,by have:=ht.pos;omega⟩,by simp [minN]⟩
 | i+1=>minI_ok ht (minN_ok ht i)
theorem nodup_of_map {α β:Type} {f:α→β}:∀ {l:List α},(l.map f).Nodup→l.Nodup
 | [],_=>by simp
 | x::r,h=>by
  rw [List.map_cons,List.nodup_cons] at h
  rw [List.nodup_cons]
  exact ⟨fun hx=>h.1 (List.mem_map_of_mem hx),nodup_of_map h.2⟩
theorem Ook.len {n:Nat} {c order:List Int} (h:Ook n c order):order.length≤n:=by
 have:=nat_len (N:=n) (l:=order.map Int.toNat) (by
  have h1:=nodup_of_map h.apart
  have h2:=h.rng
  clear h
  induction order with
  | nil=>simp
  | cons x r ih =>
   rw [List.nodup_cons] at h1
   rw [List.map_cons,List.nodup_cons]
   refine ⟨fun hm=>?_,ih h1.2 (fun y hy=>h2 y (by simp [hy]))⟩
   obtain ⟨y,hy,e⟩:=List.mem_map.1 hm
   have hy0:=h2 y (by simp [hy])
   have hx0:=h2 x (by simp)
   have:y=x:=by omega
   exact h1.1 (this ▸ hy)) (fun k hk=>by
  obtain ⟨x,hx,rfl⟩:=List.mem_map.1 hk
  have:=h.rng x hx
  omega)
 simpa using this
theorem minI_stop {t:Tb} {c:List Int} {i:Nat} {s:Ms} (h:s.order.length≤i):minI t c i s=s:=by
 rw [minI,List.getElem?_eq_none h]
theorem minN_stop {t:Tb} {c:List Int} {i:Nat} (h:(minN t c i).order.length≤i):∀k,minN t c (i+k)=minN t c i
 | 0=>rfl
 | k+1=>by
  rw [←Nat.add_assoc,minN,minI_stop (by rw [minN_stop h k];omega),minN_stop h k]
theorem minN_at {t:Tb} {c:List Int} {i j:Nat} (h:(minN t c i).order.length≤i) (hj:i≤j):minN t c j=minN t c i:=by
 have:=minN_stop h (j-i)
 rwa [show i+(j-i)=j from by omega] at this
theorem parF_len (t:Tb):∀k c cnt,c.length=t.next.length→(parF t k c cnt).length=t.next.length
 | 0,c,_,h=>h
 | k+1,c,cnt,h=>by
  rw [parF]
  split
  ·exact ref_len t c
  ·exact parF_len t k _ _ (ref_len t c)
theorem parS_len (t:Tb):(parS t).length=t.next.length:=parF_len t _ _ _ (by simp [cls0])
end
section
def enz:Nat→List Int→List (V × V)
 | _,[]=>[]
 | i,x::r=>(.int .i64 x,.int .i64 i)::enz (i+1) r
theorem keyI {x:Int}:keyOK tt 3 (.int .i64 x):=⟨rfl,rfl⟩
theorem veqI {x y:Int}:veq (.int .i64 x) (.int .i64 y)=decide (x=y):=by
 show (kindEq .i64 .i64&&(x==y))=decide (x=y)
 rw [ibeq_dec];rfl
theorem keys0' {t:Nat}:keysOK tt t []:=fun e he=>by simp at he
theorem mPut_nil' {k v:V}:mPut k v []=[(k,v)]:=rfl
theorem keysI {l:List Int}:∀i,keysOK tt 3 (enz i l):=by
 induction l with
 | nil=>intro i e he;simp [enz] at he
 | cons x r ih =>
  intro i e he
  simp only [enz,List.mem_cons] at he
  rcases he with rfl | he
  ·exact keyI
  ·exact ih (i+1) e he
theorem mHas_enz {x:Int}:∀(l:List Int) (i:Nat),mHas (.int .i64 x) (enz i l)=(idxI x l).isSome
 | [],_=>rfl
 | y::r,i=>by
  simp only [enz,mHas,veqI,idxI]
  by_cases e:x=y
  ·simp [e]
  ·simp [e,mHas_enz r (i+1)]
theorem mGet_enz {x:Int} (z:V):∀(l:List Int) (i:Nat),mGet z (.int .i64 x) (enz i l)=numV i z (idxI x l)
 | [],_=>rfl
 | y::r,i=>by
  simp only [enz,mGet,veqI,idxI]
  by_cases e:x=y
  ·simp [e,numV]
  ·simp only [e,decide_false,mGet_enz z r (i+1),if_false]
   cases idxI x r<;>simp [numV]
   omega
theorem mPut_enz {x:Int}:∀(l:List Int) (i:Nat),idxI x l=none→mPut (.int .i64 x) (.int .i64 ((i+l.length:Nat):Int)) (enz i l)=enz i (l++[x])
 | [],_,_=>rfl
 | y::r,i,hi=>by
  simp only [idxI] at hi
  by_cases e:x=y
  ·simp [e] at hi
  ·simp only [e,if_false,Option.map_eq_none_iff] at hi
   have:=mPut_enz r (i+1) hi
   simp only [enz,mPut,veqI,e,decide_false,List.cons_append,List.length_cons]
   rw [←this,show i+(r.length+1)=i+1+r.length from by omega]
theorem bel_enz1 {n:Nat}:∀(l:List Int) (i:Nat),belAll n ((enz i l).map (·.1))=true
 | [],_=>rfl
 | x::r,i=>by rw [enz,List.map_cons,belAll_cons,bel_enz1 r];rfl
theorem bel_enz2 {n:Nat}:∀(l:List Int) (i:Nat),belAll n ((enz i l).map (·.2))=true
 | [],_=>rfl
 | x::r,i=>by rw [enz,List.map_cons,belAll_cons,bel_enz2 r];rfl
@[simp] theorem bel_mapZ {n i:Nat} {l:List Int}:(Ob.map (enz i l)).bel n=true:=by simp only [Ob.bel,bel_enz1,bel_enz2];rfl
theorem minN0 {t:Tb} {c:List Int}:minN t c 0=⟨[0],[],[]⟩:=rfl
theorem mrN0 {c row order:List Int}:mrN c row order 0=(order,[]):=rfl
def cfgM:Cfg:={ lv:=[16],ef:=[],ord:=[],em:=[] }
def objM (t:Tb) (c:List Int) (s:Ms):List Ob:=[.cells 0 (encT t),.cells 0 [.sl true [] 0,.sl true [] 0],.cells (s.order.length-1) (s.order.map (.int .i64)),.map (enz 0 (s.order.map (gI c))),.cells 0 [.buf 5 s.rows.length 0 s.rows.length 1,.buf 6 s.accs.length 0 s.accs.length 1],.cells s.rows.length (s.rows.map slI),.cells s.accs.length (s.accs.map .bool)]
def objQ (t:Tb) (c:List Int) (s:Ms) (m j:Nat) (r:List Int × List Int):List Ob:=[.cells 0 (encT t),.cells 0 [.sl true [] 0,.sl true [] 0],.cells (r.1.length-1) (r.1.map (.int .i64)),.map (enz 0 (r.1.map (gI c))),.cells 0 [.buf 5 s.rows.length 0 s.rows.length 1,.buf 6 s.accs.length 0 s.accs.length 1],.cells s.rows.length (s.rows.map slI),.cells s.accs.length (s.accs.map .bool),.cells 0 ((r.2++List.replicate (m-j) 0).map (.int .i64))]
theorem len_objM {t:Tb} {c:List Int} {s:Ms}:(objM t c s).length=7:=rfl
theorem len_objQ {t:Tb} {c:List Int} {s:Ms} {m j:Nat} {r:List Int × List Int}:(objQ t c s m j r).length=8:=rfl
@[simp] theorem bel_objM {t:Tb} {c:List Int} {s:Ms}:belObs 7 (objM t c s)=true:=by
 simp only [objM,belObs_cons,belObs_nil,belO_cells,bel_ints,bel_bools,bel_rows,bel_mapZ,bel_encT,belAll_cons,belAll_nil,bel_buf,bel_sl]
 rfl
@[simp] theorem bel_objQ {t:Tb} {c:List Int} {s:Ms} {m j:Nat} {r:List Int × List Int}:belObs 8 (objQ t c s m j r)=true:=by
 simp only [objQ,belObs_cons,belObs_nil,belO_cells,bel_ints,bel_bools,bel_rows,bel_mapZ,bel_encT,belAll_cons,belAll_nil,bel_buf,bel_sl]
 rfl
attribute [local push_cast] cfg0 cfgM ones_ints ones_bools getV_map getV_mapO List.length_map Nat.mul_one slI slR slB encT rep_ints numV Option.isSome_some Option.isSome_none keyI keys0' keysI mPut_nil'
theorem pc175 {n m:Nat} {t:Tb} (ht:okT n m t):PC Tryz.prog 175 [.agg (encT t)] (.agg (encT (minS t))):=by
 have h40:=pc200 ht
 have hcl:=parS_len t
 have hn1:=ht.rows
 have hn2:=ht.accs
 have hpos:=ht.pos
 have hbig:=ht.big
 rw [minS]
 generalize hcc:parS t=c at h40 hcl
 have hok:=fun i=>minN_ok ht (c:=c) i
 have hst:=fun (i:Nat) (h:(minN t c i).order.length≤i) (hi:i≤n)=>minN_at h hi
 rw [minF,hn1]
 obtain ⟨next,acc⟩:=t
 simp only at hn1 hn2 hcl
 have hc0:0<c.length:=by omega
 have hg0:gI c 0=c[0]:=by
  rw [gI];exact lgetD hc0
 refine PC.cutN tok mixed cfgM 4 Tryz.func175 rfl Tryz.call175 (by simp [belAll_append,len_objM,len_objQ]) (by simp [belAll_append,len_objM,len_objQ,bel_encT]) ?_
 simp (maxSteps:=2000000) -implicitDefEqProofs +contextual (disch:=first | assumption | omega | decide +kernel) only [push_cast,↓capI,seval,Nat.reduceLeDiff,Nat.reduceEqDiff,reduceCtorEq,↓reduceIte,Tryz.ntmps175,cutAt_z,cutAt_s]
 refine callO.pc h40 ?_
 simp (maxSteps:=2000000) -implicitDefEqProofs +contextual (disch:=first | assumption | omega | decide +kernel) only [push_cast,↓capI,seval,Nat.reduceLeDiff,Nat.reduceEqDiff,reduceCtorEq,↓reduceIte,cutAt_z,cutAt_s,hc0]
 refine cutK.gn ((Gn.weak (tm':=(.dead::.ptr 0 0 0::.ptr 1 0 0::.sl false (c.map (.int .i64)) c.length::.buf 2 0 0 1 1::.mp 3::.ptr 4 0 0::.dead::.dead::.dead::.dead::.dead::.dead::.dead::.dead::.dead::.dead::.dead::.dead::.dead::.dead::.dead::.dead::.dead::.dead::.dead::.dead::.dead::.dead::.dead::.dead::.dead::.dead::.dead::.dead::.dead::.dead::.dead::.dead::.dead::.dead::.dead::.dead::.dead::.dead::.dead::.dead::.dead::.dead::.dead::.dead::.dead::.dead::.dead::.dead::.dead::.dead::.dead::.dead::.dead::.dead::.dead::.dead::.dead::.dead::.dead::.dead::.dead::.dead::.dead::.dead::.dead::.dead::.dead::.dead::.dead::.dead::.dead::.dead::.dead::.dead::.dead::.dead::.dead::.dead::.dead::.dead::.dead::.dead::.dead::.dead::.dead::.dead::.dead::.dead::.dead::.dead::.dead::.dead::.dead::.dead::.dead::.dead::.dead::.dead::.dead::.dead::[])) (by simp [wk,minN0,mrN0])).trans (((Gn.ownCell (id:=4) (i:=0) (sz:=1) rfl rfl)).trans (Gn.ownCell (id:=4) (i:=1) (sz:=1) rfl rfl))) (cutK.go (cfg:=cfg0) tok mixed ?_)
 simp (maxSteps:=2000000) -implicitDefEqProofs +contextual (disch:=first | assumption | omega | decide +kernel) only [push_cast,↓capI,seval,Nat.reduceLeDiff,Nat.reduceEqDiff,reduceCtorEq,↓reduceIte,List.set]
 refine T.lp tok mixed cfg0 (fun ((i:Nat))=>dd 1 (kp 3 (sv (.buf 2 ((minN ⟨next,acc⟩ c i).order.length-1) 0 (minN ⟨next,acc⟩ c i).order.length 1) (kp 2 (sv (.int .i64 (i:Int)) (dd 99 (nl))))))) (fun H0 ((i:Nat))=>objM ⟨next,acc⟩ c (minN ⟨next,acc⟩ c i)) (fun ((i:Nat))=>i≤(minN ⟨next,acc⟩ c i).order.length∧(minN ⟨next,acc⟩ c i).rows.length=i∧(minN ⟨next,acc⟩ c i).accs.length=i) (fun ((i:Nat))=>n-i) (0) ?_ ?_ ?_
 ·exact ⟨by simp [minN0],rfl,rfl⟩
 ·exact Gn.canon (J:=[]) (by simp [List.append_nil,encT,slR,slB,slI,minN0,mrN0,enz,objM,hg0]) (by simp [wk,minN0,mrN0,putT,kp,dd,sv,nl]) (by simp [List.length_append,len_objM,len_objQ]) (by simp [belAll_append,len_objM,len_objQ,kp,dd,sv,nl]) (by rw [len_objM];exact bel_objM)
 ·intro i hi
  obtain ⟨hi,hr,ha⟩:=hi
  have hoki:=hok i
  have hnext:minN ⟨next,acc⟩ c (i+1)=minI ⟨next,acc⟩ c i (minN ⟨next,acc⟩ c i):=rfl
  have hstop:=hst i
  generalize hs:minN ⟨next,acc⟩ c i=s at hoki hnext hstop hi hr ha
  simp only [hs]
  obtain ⟨order,rows,accs⟩:=s
  simp only at hoki hi hr ha hstop
  have hlen:=hoki.len
  by_cases hlt:i<order.length
  ·obtain ⟨q,hq⟩:∃y,y=order[i]:=⟨_,rfl⟩
   have hqr:=hoki.rng q (hq ▸ List.getElem_mem hlt)
   obtain ⟨k,rfl⟩:∃k:Nat,q=(k:Int):=⟨q.toNat,by omega⟩
   have hkn:k<next.length:=by omega
   have hka:k<acc.length:=by omega
   have hrow:=ht.row next[k] (List.getElem_mem hkn)
   have hrng:=ht.rng next[k] (List.getElem_mem hkn)
   have hcols:=ht.cols
   have hgr:next.getD k []=next[k]:=lgetD hkn
   have hga:gB acc (k:Int)=acc[k]:=by rw [gB,Int.toNat_natCast];exact lgetD hka
   have hx1:objM ⟨next,acc⟩ c ⟨order,rows,accs⟩=[.cells 0 (encT ⟨next,acc⟩),.cells 0 [.sl true [] 0,.sl true [] 0],.cells (order.length-1) (order.map (.int .i64)),.map (enz 0 (order.map (gI c))),.cells 0 [.buf 5 rows.length 0 rows.length 1,.buf 6 accs.length 0 accs.length 1],.cells rows.length (rows.map slI),.cells accs.length (accs.map .bool)]:=rfl
   have hq':=hq.symm
   refine vms5 hx1 hlt hq' hkn hrow ?_
   refine T.lp tok mixed cfg0 (fun ((j:Nat))=>dd 1 (kp 3 (sv (.buf 2 ((mrN c next[k] order j).1.length-1) 0 (mrN c next[k] order j).1.length 1) (kp 5 (dd 33 (kp 2 (sv (.int .i64 (j:Int)) (dd 61 (nl))))))))) (fun H0 ((j:Nat))=>objQ ⟨next,acc⟩ c ⟨order,rows,accs⟩ m j (mrN c next[k] order j)) (fun ((j:Nat))=>j≤m) (fun ((j:Nat))=>m-j) (0) ?_ ?_ ?_
   ·omega
   ·exact Gn.canon (J:=[]) (by simp [List.append_nil,encT,slR,slB,slI,minN0,mrN0,enz,objQ]) (by simp [wk,minN0,mrN0,putT,kp,dd,sv,nl]) (by simp [List.length_append,len_objM,len_objQ]) (by simp [belAll_append,len_objM,len_objQ,kp,dd,sv,nl]) (by rw [len_objQ];exact bel_objQ)
   ·intro j hj
    have hj0:j≤m:=hj
    have hokj:=mrN_ok (n:=n) (c:=c) (row:=next[k]) (fun x hx=>(hrng x hx).2) hoki j (by omega)
    have hrl:=mrN_len c next[k] order j
    obtain ⟨rs,hrs⟩:=mrN_pre c next[k] order j
    have hnx:mrN c next[k] order (j+1)=mrI c (gI next[k] j) (mrN c next[k] order j):=rfl
    have hlast:j=m→mrN c next[k] order m=mrN c next[k] order j:=fun e=>by rw [e]
    generalize hR:mrN c next[k] order j=r at hokj hrl hrs hnx hlast
    simp only [hR]
    obtain ⟨ord2,row⟩:=r
    simp only at hokj hrl hrs
    have hlen2:=hokj.len
    have hx2:objQ ⟨next,acc⟩ c ⟨order,rows,accs⟩ m j (ord2,row)=[.cells 0 (encT ⟨next,acc⟩),.cells 0 [.sl true [] 0,.sl true [] 0],.cells (ord2.length-1) (ord2.map (.int .i64)),.map (enz 0 (ord2.map (gI c))),.cells 0 [.buf 5 rows.length 0 rows.length 1,.buf 6 accs.length 0 accs.length 1],.cells rows.length (rows.map slI),.cells accs.length (accs.map .bool),.cells 0 ((row++List.replicate (m-j) 0).map (.int .i64))]:=rfl
    by_cases hjm:j<m
    ·have hjr:j<next[k].length:=by omega
     have p1:=fun y=>put_row1 (y:=y) hrl hjm
     have p2:=fun y z=>put_row2 (t:=List.replicate (m-(j+1)) 0) (y:=y) (z:=z) hrl
     have hlr:((row++List.replicate (m-j) (0:Int)).map (V.int .i64)).length=m:=by simp;omega
     have hx:=hrng _ (List.getElem_mem hjr)
     have hgj:gI next[k] (j:Int)=next[k][j]:=by rw [gI,Int.toNat_natCast];exact lgetD hjr
     rw [hgj] at hnx
     by_cases hneg:next[k][j]<0
     ·have hI:mrI c next[k][j] (ord2,row)=(ord2,row++[-1]):=by rw [mrI,if_pos (.inl hneg)]
      rw [hI] at hnx
      rw [←hrow] at hjm
      simp (maxSteps:=2000000) -implicitDefEqProofs +contextual (disch:=first | assumption | omega | decide +kernel) only [push_cast,↓capI,seval,Nat.reduceLeDiff,Nat.reduceEqDiff,reduceCtorEq,↓reduceIte,hx2,hjm,hjr,hlr,p1,hneg,hrow]
      refine ⟨(j+1),by omega,by (try simp only);omega,?_⟩;exact Gn.canon (by first | rfl | (simp [List.append_nil,encT,slR,slB,slI,minN0,mrN0,enz,hnx,objQ];rfl)) (by simp [wk,minN0,mrN0,hnx,objQ]) (by simp [List.length_append,len_objM,len_objQ]) (by simp [belAll_append,len_objM,len_objQ]) (by simp [belAll_append,len_objM,len_objQ])
     ·obtain ⟨l,hl⟩:∃l:Nat,next[k][j]=(l:Int):=⟨next[k][j].toNat,by omega⟩
      have hlc:l<c.length:=by omega
      have hgl:gI c (l:Int)=c[l]:=by rw [gI,Int.toNat_natCast];exact lgetD hlc
      rw [hl] at hnx hneg
      by_cases hneg2:c[l]<0
      ·have hI:mrI c (l:Int) (ord2,row)=(ord2,row++[-1]):=by rw [mrI,if_pos (.inr (by rw [hgl];exact hneg2))]
       rw [hI] at hnx
       rw [←hrow] at hjm
       simp (maxSteps:=2000000) -implicitDefEqProofs +contextual (disch:=first | assumption | omega | decide +kernel) only [push_cast,↓capI,seval,Nat.reduceLeDiff,Nat.reduceEqDiff,reduceCtorEq,↓reduceIte,hx2,hjm,hjr,hlr,p1,hl,hlc,hneg2,hrow]
       refine ⟨(j+1),by omega,by (try simp only);omega,?_⟩;exact Gn.canon (by first | rfl | (simp [List.append_nil,encT,slR,slB,slI,minN0,mrN0,enz,hnx,objQ];rfl)) (by simp [wk,minN0,mrN0,hnx,objQ]) (by simp [List.length_append,len_objM,len_objQ]) (by simp [belAll_append,len_objM,len_objQ]) (by simp [belAll_append,len_objM,len_objQ])
      ·have hmh:=mHas_enz (x:=c[l]) (ord2.map (gI c)) 0
       have hmg:=fun z=>mGet_enz (x:=c[l]) z (ord2.map (gI c)) 0
       have hmp:=mPut_enz (x:=c[l]) (ord2.map (gI c)) 0
       rw [Nat.zero_add,List.length_map] at hmp
       cases hik:idxI c[l] (ord2.map (gI c)) with
       | some u =>
        have hI:mrI c (l:Int) (ord2,row)=(ord2,row++[(u:Int)]):=by rw [mrI,if_neg (by rw [hgl];omega),hgl];simp only [hik]
        rw [hI] at hnx
        rw [hik] at hmh hmg
        rw [←hrow] at hjm
        simp (maxSteps:=2000000) -implicitDefEqProofs +contextual (disch:=first | assumption | omega | decide +kernel) only [push_cast,↓capI,seval,Nat.reduceLeDiff,Nat.reduceEqDiff,reduceCtorEq,↓reduceIte,hx2,hjm,hjr,hlr,p1,p2,hl,hlc,hneg2,hrow,hmh,hmg,Nat.zero_add]
        refine ⟨(j+1),by omega,by (try simp only);omega,?_⟩;exact Gn.canon (by first | rfl | (simp [List.append_nil,encT,slR,slB,slI,minN0,mrN0,enz,hnx,objQ];rfl)) (by simp [wk,minN0,mrN0,hnx,objQ]) (by simp [List.length_append,len_objM,len_objQ]) (by simp [belAll_append,len_objM,len_objQ]) (by simp [belAll_append,len_objM,len_objQ])
       | none =>
        have hI:mrI c (l:Int) (ord2,row)=(ord2++[(l:Int)],row++[(ord2.length:Int)]):=by rw [mrI,if_neg (by rw [hgl];omega),hgl];simp only [hik]
        rw [hI] at hnx
        rw [hik] at hmh hmg
        have hmp2:=hmp hik
        have hpos2:0<ord2.length:=by rw [hrs,List.length_append];omega
        have hap:ord2.length-1+1=ord2.length+1-1:=by omega
        rw [←hrow] at hjm
        simp (maxSteps:=2000000) -implicitDefEqProofs +contextual (disch:=first | assumption | omega | decide +kernel) only [push_cast,↓capI,seval,Nat.reduceLeDiff,Nat.reduceEqDiff,reduceCtorEq,↓reduceIte,hx2,hjm,hjr,hlr,p1,p2,hl,hlc,hneg2,hrow,hmh,hmg,hmp2,hap,Nat.zero_add]
        refine ⟨(j+1),by omega,by (try simp only);omega,?_⟩;exact Gn.canon (by first | rfl | (simp [List.append_nil,encT,slR,slB,slI,minN0,mrN0,enz,hnx,objQ,hgl];rfl)) (by simp [wk,minN0,mrN0,hnx,objQ,hgl]) (by simp [List.length_append,len_objM,len_objQ]) (by simp [belAll_append,len_objM,len_objQ]) (by simp [belAll_append,len_objM,len_objQ])
    ·have hjm2:j=m:=by omega
     have hjr:¬j<next[k].length:=by omega
     have hdet:minI ⟨next,acc⟩ c i ⟨order,rows,accs⟩=⟨ord2,rows++[row],accs++[acc[k]]⟩:=by
      have e1:order[i]? = some (k:Int):=by rw [hq];exact List.getElem?_eq_getElem hlt
      simp only [minI,e1,Int.toNat_natCast,hgr,hrow,hlast hjm2,hga]
     rw [hdet] at hnext
     have hio:i<ord2.length:=by rw [hrs,List.length_append];omega
     subst hjm2
     refine vms3 hx2 hjr hka ?_
     refine ⟨(i+1),⟨by rw [hnext];exact hio,by rw [hnext];simp [hr],by rw [hnext];simp [ha]⟩,by (try simp only);omega,?_⟩;refine (Gn.freeze (id:=7) rfl).trans ?_;exact Gn.canon (by first | rfl | (simp [List.append_nil,encT,slR,slB,slI,minN0,mrN0,enz,fzs,fz,fzs_ok,fzH,setO,getO,Nat.beq,List.take_of_length_le,belAll_append,len_objM,len_objQ,hnext,objM,slI,hrl,fzs_app];done) | (simp [List.append_nil,encT,slR,slB,slI,minN0,mrN0,enz,fzs,fz,fzs_ok,fzH,setO,getO,Nat.beq,List.take_of_length_le,belAll_append,len_objM,len_objQ,hnext,objM,slI,hrl,fzs_app];rfl)) (by simp [wk,minN0,mrN0,fzs,fz,fzs_ok,fzH,setO,getO,Nat.beq,List.take_of_length_le,belAll_append,len_objM,len_objQ,hnext,objM,slI,hrl,fzs_app,cfg0,cfgM,ones_ints,ones_bools,getV_map,getV_mapO,List.length_map,Nat.mul_one,slI,slR,slB,encT,rep_ints,numV,Option.isSome_some,Option.isSome_none,keyI,keys0',keysI,mPut_nil']) (by simp [List.length_append,len_objM,len_objQ]) (by simp [belAll_append,len_objM,len_objQ]) (by simp [belAll_append,len_objM,len_objQ])
  ·rw [hstop (by omega) (by omega)]
   have hx1:objM ⟨next,acc⟩ c ⟨order,rows,accs⟩=[.cells 0 (encT ⟨next,acc⟩),.cells 0 [.sl true [] 0,.sl true [] 0],.cells (order.length-1) (order.map (.int .i64)),.map (enz 0 (order.map (gI c))),.cells 0 [.buf 5 rows.length 0 rows.length 1,.buf 6 accs.length 0 accs.length 1],.cells rows.length (rows.map slI),.cells accs.length (accs.map .bool)]:=rfl
   refine vms2 hx1 hlt ?_
   refine endK.gn (Gn.freeze (id:=5) rfl) ?_;refine endK.gn (Gn.freeze (id:=6) rfl) ?_;refine endK.ret ?_ (by first | rfl | simp [belAll_append,len_objM,len_objQ]);simp [belAll_append,len_objM,len_objQ,fzs_ok,imp,lenOK_iff,List.take_of_length_le,evRes,getT,getO,setO,fzs,fz,fzH,Nat.beq,retV,Res.then,ldT,ldR,mkV,getV,cfg0,cfgM,ones_ints,ones_bools,getV_map,getV_mapO,List.length_map,Nat.mul_one,slI,slR,slB,encT,rep_ints,numV,Option.isSome_some,Option.isSome_none,keyI,keys0',keysI,mPut_nil',Tryz.f175,encT,slR,slB,tt_238]
end
section
def cfgT:Cfg:={ lv:=[22],ef:=[],ord:=[],em:=[] }
def bigN:Nat:=2^30
theorem keyU {n:Int}:keyOK tt 128 (.int .u64 n):=⟨rfl,rfl⟩
theorem keys0 {t:Nat}:keysOK tt t []:=fun e he=>by simp at he
theorem mPut_nil {k v:V}:mPut k v []=[(k,v)]:=rfl
theorem shl10:ishl .u64 1 0=1:=rfl
theorem rn_clA {q:Nat→Nat} {x:Nx}:rns q (clA x)=clA x:=rns_ok (bel_clA x)
theorem gn_parts {x:Nx} {m:Int}:Gn 0 ⟨(.ifc (tgA x) (.agg (clA x))::.int .i64 m::.dead::.dead::.ptr 0 0 0::.ptr 2 0 0::.dead::.dead::.dead::.dead::.dead::.dead::.dead::.dead::.dead::.dead::.dead::.dead::.dead::.dead::.dead::.dead::.dead::.dead::.dead::.dead::.dead::.dead::.dead::.dead::.dead::.dead::.dead::.dead::.dead::.dead::.dead::.dead::.dead::.dead::.dead::.dead::.dead::.dead::.dead::.dead::.dead::.dead::.dead::.dead::.dead::.dead::.dead::.dead::.dead::.dead::.dead::.dead::.dead::.dead::.dead::.dead::.dead::.dead::.dead::.dead::.dead::.dead::.dead::.dead::.dead::.dead::.dead::.dead::.dead::.dead::.dead::.dead::.dead::.dead::.dead::.dead::.dead::.dead::.dead::.dead::.dead::.dead::.dead::.dead::.dead::.dead::.dead::[]),[.cells 0 [.sl true [] 0,.sl true [] 0],.map [],.cells 0 [.mp 1,.sl true [] 0]]⟩
  ⟨(.ifc (tgA x) (.agg (clA x))::.int .i64 m::.dead::.dead::.ptr 3 0 0::.ptr 0 0 0::.dead::.dead::.dead::.dead::.dead::.dead::.dead::.dead::.dead::.dead::.dead::.dead::.dead::.dead::.dead::.dead::.dead::.dead::.dead::.dead::.dead::.dead::.dead::.dead::.dead::.dead::.dead::.dead::.dead::.dead::.dead::.dead::.dead::.dead::.dead::.dead::.dead::.dead::.dead::.dead::.dead::.dead::.dead::.dead::.dead::.dead::.dead::.dead::.dead::.dead::.dead::.dead::.dead::.dead::.dead::.dead::.dead::.dead::.dead::.dead::.dead::.dead::.dead::.dead::.dead::.dead::.dead::.dead::.dead::.dead::.dead::.dead::.dead::.dead::.dead::.dead::.dead::.dead::.dead::.dead::.dead::.dead::.dead::.dead::.dead::.dead::.dead::[]),[.cells 0 [.mp 2,.buf 1 0 0 0 1],.cells 0 [],.map [],.cells 0 [.sl true [] 0,.sl true [] 0]]⟩:=by
 refine (Gn.ownCell (id:=2) (i:=1) (sz:=1) rfl rfl).trans ?_
 refine (Gn.swap (i:=0) (j:=2) (Nat.zero_le _) (Nat.zero_le _) (by simp [setO]) (by simp [setO])).trans ?_
 simp [V.rn,rns,Ob.rn,rnOs,swp,swpH,setO,getO,Nat.beq,rn_clA,List.map_nil]
 refine (Gn.swap (i:=1) (j:=3) (Nat.zero_le _) (Nat.zero_le _) (by simp) (by simp)).trans ?_
 simp [V.rn,rns,Ob.rn,rnOs,swp,swpH,setO,getO,Nat.beq,rn_clA,List.map_nil]
 refine (Gn.swap (i:=2) (j:=3) (Nat.zero_le _) (Nat.zero_le _) (by simp) (by simp)).trans ?_
 simp [V.rn,rns,Ob.rn,rnOs,swp,swpH,setO,getO,Nat.beq,rn_clA,List.map_nil]
 exact Gn.refl _ _
def objD (s:Ds2):List Ob:=objP s.L++[.cells 0 [.sl true [] 0,.sl true [] 0],.cells (s.sets.length-1) (s.sets.map u64),.map (enk 0 s.sets),.cells 0 [.buf 7 s.rows.length 0 s.rows.length 1,.buf 8 s.accs.length 0 s.accs.length 1],.cells s.rows.length (s.rows.map slI),.cells s.accs.length (s.accs.map .bool)]
def objR (s:Ds2) (m:Nat) (r:Rs) (j:Nat):List Ob:=objP r.L++[.cells 0 [.sl true [] 0,.sl true [] 0],.cells (r.sets.length-1) (r.sets.map u64),.map (enk 0 r.sets),.cells 0 [.buf 7 s.rows.length 0 s.rows.length 1,.buf 8 s.accs.length 0 s.accs.length 1],.cells s.rows.length (s.rows.map slI),.cells s.accs.length (s.accs.map .bool),.cells 0 ((r.row++List.replicate (m-j) 0).map (.int .i64))]
@[simp] theorem bel_objD (s:Ds2):belObs 9 (objD s)=true:=by
 simp only [objD,objP,List.cons_append,List.nil_append,belObs_cons,belObs_nil,belO_cells,bel_ints,bel_bools,bel_rows,bel_u64s,bel_mapK,bel_mapE,bel_As,belAll_cons,belAll_nil,bel_buf,bel_mp,bel_sl]
 rfl
@[simp] theorem bel_objR (s:Ds2) (m:Nat) (r:Rs) (j:Nat):belObs 10 (objR s m r j)=true:=by
 simp only [objR,objP,List.cons_append,List.nil_append,belObs_cons,belObs_nil,belO_cells,bel_ints,bel_bools,bel_rows,bel_u64s,bel_mapK,bel_mapE,bel_As,belAll_cons,belAll_nil,bel_buf,bel_mp,bel_sl]
 rfl
theorem len_objD (s:Ds2):(objD s).length=9:=rfl
theorem len_objR (s:Ds2) (m:Nat) (r:Rs) (j:Nat):(objR s m r j).length=10:=rfl
attribute [local push_cast] cfg0 encA ones_A ones_ints ones_bools objP w_shl1 cfgT mHas_enk mGet_enk getV_mapO getV_map Nat.mul_one w_eqb0 List.length_map numV Option.isSome_some Option.isSome_none keyU keys0 keysW mPut_nil shl10
theorem pc174 {D:List Nx} (hD:Cls D) {x:Nx} (hx:x ∈ D) {m:Nat} (hm:m≤1000) (hm1:0<m) :
  PC Tryz.prog 174 [encA x,.int .i64 (m:Int)] (.agg (encT ⟨(detN m x bigN).rows,(detN m x bigN).accs⟩)):=by
 have hk:keyOK tt 234 (encA x):=keyA (hD.hgt x hx)
 refine PC.cutN tok mixed cfgT 1 Tryz.func174 rfl Tryz.call174 (by simp [bel_clA,bel_As,len_objD,len_objR]) (by simp [bel_clA,bel_As,len_objD,len_objR,bel_encT]) ?_
 simp (maxSteps:=2000000) -implicitDefEqProofs +contextual (disch:=first | assumption | omega | decide +kernel) only [push_cast,↓capI,seval,Nat.reduceLeDiff,Nat.reduceEqDiff,reduceCtorEq,↓reduceIte,Tryz.ntmps174,cutAt_z,cutAt_s]
 refine cutK.gn ((Gn.weak (by simp [wk])).trans (gn_parts (x:=x) (m:=(m:Int)))) (cutK.goN (cfg:=cfgT) tok mixed 2 ?_)
 simp (maxSteps:=2000000) -implicitDefEqProofs +contextual (disch:=first | assumption | omega | decide +kernel) only [push_cast,↓capI,seval,Nat.reduceLeDiff,Nat.reduceEqDiff,reduceCtorEq,↓reduceIte,cutAt_z,cutAt_s]
 have h37:=pc197 (L:=[]) (x:=x) (fun y hy=>by simp at hy) (hD.hgt x hx) (by simp)
 refine callO.app [.cells 0 [.sl true [] 0,.sl true [] 0]] h37 rfl rfl (by simp [bel_clA,bel_As,len_objD,len_objR,objP,enm]) (bel_objP _) rfl (bel_objP _) ?_
 have hnum:num [] x=([x],0):=rfl
 simp (maxSteps:=2000000) -implicitDefEqProofs +contextual (disch:=first | assumption | omega | decide +kernel) only [push_cast,↓capI,seval,Nat.reduceLeDiff,Nat.reduceEqDiff,reduceCtorEq,↓reduceIte,cutAt_z,cutAt_s,hnum]
 refine cutK.gn ((Gn.weak (tm':=(.dead::.int .i64 (m:Int)::.dead::.dead::.ptr 3 0 0::.ptr 0 0 0::.buf 4 0 0 1 1::.mp 5::.ptr 6 0 0::.dead::.dead::.dead::.dead::.dead::.dead::.dead::.dead::.dead::.dead::.dead::.dead::.dead::.dead::.dead::.dead::.dead::.dead::.dead::.dead::.dead::.dead::.dead::.dead::.dead::.dead::.dead::.dead::.dead::.dead::.dead::.dead::.dead::.dead::.dead::.dead::.dead::.dead::.dead::.dead::.dead::.dead::.dead::.dead::.dead::.dead::.dead::.dead::.dead::.dead::.dead::.dead::.dead::.dead::.dead::.dead::.dead::.dead::.dead::.dead::.dead::.dead::.dead::.dead::.dead::.dead::.dead::.dead::.dead::.dead::.dead::.dead::.dead::.dead::.dead::.dead::.dead::.dead::.dead::.dead::.dead::.dead::.dead::.dead::[])) (by simp [wk])).trans (((Gn.ownCell (id:=6) (i:=0) (sz:=1) rfl rfl)).trans (Gn.ownCell (id:=6) (i:=1) (sz:=1) rfl rfl))) (cutK.go (cfg:=cfgT) tok mixed ?_)
 simp (maxSteps:=2000000) -implicitDefEqProofs +contextual (disch:=first | assumption | omega | decide +kernel) only [push_cast,↓capI,seval,Nat.reduceLeDiff,Nat.reduceEqDiff,reduceCtorEq,↓reduceIte,List.set]
 refine T.lp tok mixed cfg0 (fun ((i:Nat))=>dd 1 (kp 1 (dd 2 (kp 2 (sv (.buf 4 ((detN m x i).sets.length-1) 0 (detN m x i).sets.length 1) (kp 2 (sv (.int .i64 (i:Int)) (dd 83 (nl))))))))) (fun H0 ((i:Nat))=>objD (detN m x i)) (fun ((i:Nat))=>i≤(detN m x i).sets.length∧(detN m x i).rows.length=i∧(detN m x i).accs.length=i) (fun ((i:Nat))=>2^30-i) (0) ?_ ?_ ?_
 ·exact ⟨by omega,rfl,rfl⟩
 ·exact Gn.canon (J:=[]) (by simp [objD,objP,detN,enk,enm,encA]) (by simp [wk,putT,kp,dd,sv,nl,detN]) (by simp [len_objD]) (by simp [bel_clA,bel_As,len_objD,len_objR,kp,dd,sv,nl,len_objD]) (by rw [len_objD];exact bel_objD _)
 ·intro i hi
  obtain ⟨hi,hr,ha⟩:=hi
  have hok:=detN_ok hD hx (m:=m) i
  have hlen:=hok.len hD
  simp only at hlen
  have hnext:detN m x (i+1)=detI m i (detN m x i):=rfl
  have hstop:(detN m x i).sets.length≤i→detN m x bigN=detN m x i:=fun h=>detN_at h (by rw [bigN];omega)
  generalize hs:detN m x i=s at hok hlen hnext hstop hi hr ha
  simp only [hs]
  obtain ⟨L,sets,rows,accs⟩:=s
  simp only at hok hlen hi hr ha hstop
  by_cases hlt:i<sets.length
  ·obtain ⟨set,hset⟩:∃y,y=sets[i]:=⟨_,rfl⟩
   have hrok:=rowN_ok hD (set:=set) hok
   have hseti:bitsIn set L.length:=by rw [hset];exact hok.bits _ (List.getElem_mem hlt)
   have hx1:objD ⟨L,sets,rows,accs⟩=objP L++[.cells 0 [.sl true [] 0,.sl true [] 0],.cells (sets.length-1) (sets.map u64),.map (enk 0 sets),.cells 0 [.buf 7 rows.length 0 rows.length 1,.buf 8 accs.length 0 accs.length 1],.cells rows.length (rows.map slI),.cells accs.length (accs.map .bool)]:=rfl
   refine vms2 hx1 hlt ?_
   refine T.lp tok mixed cfg0 (fun ((j:Nat))=>dd 1 (kp 1 (dd 2 (kp 2 (sv (.buf 4 ((rowN set L sets j).sets.length-1) 0 (rowN set L sets j).sets.length 1) (kp 4 (dd 26 (kp 1 (sv (.int .i64 (j:Int)) (dd 54 (nl))))))))))) (fun H0 ((j:Nat))=>objR ⟨L,sets,rows,accs⟩ m (rowN set L sets j) j) (fun ((j:Nat))=>j≤m) (fun ((j:Nat))=>m-j) (0) ?_ ?_ ?_
   ·omega
   ·exact Gn.canon (J:=[]) (by simp [objR,objP,rowN]) (by simp [wk,putT,kp,dd,sv,nl,rowN]) (by simp [len_objR]) (by simp [bel_clA,bel_As,len_objD,len_objR,kp,dd,sv,nl,len_objR]) (by rw [len_objR];exact bel_objR _ _ _ _)
   ·intro j hj
    have hj0:j≤m:=hj
    have hrj:=hrok j
    have hrow:=rowN_len set L sets j
    obtain ⟨rs,hrs⟩:=rowN_sets set L sets j
    have hnx:rowN set L sets (j+1)=rowI set j (rowN set L sets j):=rfl
    have hml:j=m→rowN set L sets m=rowN set L sets j:=fun e=>by rw [e]
    generalize hR:rowN set L sets j=r at hrj hrow hrs hnx hml
    simp only [hR]
    obtain ⟨L2,sets2,row⟩:=r
    simp only at hrj hrow hrs
    have hx2:objR ⟨L,sets,rows,accs⟩ m ⟨L2,sets2,row⟩ j=objP L2++[.cells 0 [.sl true [] 0,.sl true [] 0],.cells (sets2.length-1) (sets2.map u64),.map (enk 0 sets2),.cells 0 [.buf 7 rows.length 0 rows.length 1,.buf 8 accs.length 0 accs.length 1],.cells rows.length (rows.map slI),.cells accs.length (accs.map .bool),.cells 0 ((row++List.replicate (m-j) 0).map (.int .i64))]:=rfl
    have hi2:i<sets2.length:=by rw [hrs,List.length_append];omega
    have hg2:sets2[i]=set:=by
     rw [hset]
     simp [hrs,List.getElem_append_left hlt]
    by_cases hjm:j<m
    ·have hlen2:=hrj.1.len hD
     simp only at hlen2
     have h38:=pc198 hD (L:=L2) (sw:=(j:Int)) (set:=set) hrj.1.good (hseti.le hrj.2)
     have p1:=fun y=>put_row1 (y:=y) hrow hjm
     have p2:=fun y z=>put_row2 (t:=List.replicate (m-(j+1)) 0) (y:=y) (z:=z) hrow
     have hlr:((row++List.replicate (m-j) (0:Int)).map (V.int .i64)).length=m:=by simp;omega
     simp (maxSteps:=2000000) -implicitDefEqProofs +contextual (disch:=first | assumption | omega | decide +kernel) only [push_cast,↓capI,seval,Nat.reduceLeDiff,Nat.reduceEqDiff,reduceCtorEq,↓reduceIte,hx2,hjm,hi2,hg2,p1,p2,hlr]
     generalize hst:stepS (j:Int) set L2=st at h38
     obtain ⟨L3,o3⟩:=st
     refine callO.app [_,_,_,_,_,_,_] h38 rfl rfl (by simp [bel_clA,bel_As,len_objD,len_objR,len_objP]) (bel_objP _) rfl (bel_objP _) ?_
     by_cases h0:o3=0#64
     ·have hrI:rowI set j ⟨L2,sets2,row⟩=⟨L3,sets2,row++[-1]⟩:=by rw [rowI,hst,if_pos h0]
      subst h0
      simp (maxSteps:=2000000) -implicitDefEqProofs +contextual (disch:=first | assumption | omega | decide +kernel) only [push_cast,↓capI,seval,Nat.reduceLeDiff,Nat.reduceEqDiff,reduceCtorEq,↓reduceIte,p1,p2]
      rw [hrI] at hnx
      refine ⟨(j+1),by omega,by (try simp only);omega,?_⟩;exact Gn.canon (by first | rfl | (simp [List.append_nil,hnx,objR,objP];rfl)) (by simp [wk,hnx,objR,objP]) (by simp [List.length_append,len_objD,len_objR]) (by simp [bel_clA,bel_As,len_objD,len_objR]) (by simp [bel_clA,bel_As,len_objD,len_objR])
     ·cases hik:idxW o3 sets2 with
      | some k =>
       have hrI:rowI set j ⟨L2,sets2,row⟩=⟨L3,sets2,row++[(k:Int)]⟩:=by rw [rowI,hst,if_neg h0];simp only [hik]
       rw [hrI] at hnx
       simp (maxSteps:=2000000) -implicitDefEqProofs +contextual (disch:=first | assumption | omega | decide +kernel) only [push_cast,↓capI,seval,Nat.reduceLeDiff,Nat.reduceEqDiff,reduceCtorEq,↓reduceIte,p1,p2,h0,hik,Nat.zero_add]
       refine ⟨(j+1),by omega,by (try simp only);omega,?_⟩;exact Gn.canon (by first | rfl | (simp [List.append_nil,hnx,objR,objP];rfl)) (by simp [wk,hnx,objR,objP]) (by simp [List.length_append,len_objD,len_objR]) (by simp [bel_clA,bel_As,len_objD,len_objR]) (by simp [bel_clA,bel_As,len_objD,len_objR])
      | none =>
       have hrI:rowI set j ⟨L2,sets2,row⟩=⟨L3,sets2++[o3],row++[(sets2.length:Int)]⟩:=by rw [rowI,hst,if_neg h0];simp only [hik]
       rw [hrI] at hnx
       have hpk:=mPut_enk hik
       have hpos:0<sets2.length:=by omega
       have hap:sets2.length-1+1=sets2.length+1-1:=by omega
       simp (maxSteps:=2000000) -implicitDefEqProofs +contextual (disch:=first | assumption | omega | decide +kernel) only [push_cast,↓capI,seval,Nat.reduceLeDiff,Nat.reduceEqDiff,reduceCtorEq,↓reduceIte,p1,p2,h0,hik,Nat.zero_add,hpk,hap]
       refine ⟨(j+1),by omega,by (try simp only);omega,?_⟩;exact Gn.canon (by first | rfl | (simp [List.append_nil,hnx,objR,objP];rfl)) (by simp [wk,hnx,objR,objP]) (by simp [List.length_append,len_objD,len_objR]) (by simp [bel_clA,bel_As,len_objD,len_objR]) (by simp [bel_clA,bel_As,len_objD,len_objR])
    ·have ejm:j=m:=by omega
     have hacc:=pc199 (L:=L2) (set:=set) (by have:=hrj.1.good.len;have:=hD.len;simp only at *;omega)
     refine vms4 hx2 hjm hi2 hg2 ?_
     have htk:List.take L2.length (List.map encA L2)=List.map encA L2:=List.take_of_length_le (by simp)
     refine callG.lend1 (v:=.bool (accS set L2)) (fun _=>by simpa [lnds1,lndWs,lndW,getO,Nat.blt,Nat.ble,Nat.beq,htk] using hacc) (fun _=>by simp [lnds1,lndWs,lndW,getO,Nat.blt,Nat.ble,Nat.beq,htk,bel_clA,bel_As,len_objD,len_objR]) rfl rfl ?_
     refine vms0 ?_
     have hdet:detI m i ⟨L,sets,rows,accs⟩=⟨L2,sets2,rows++[row],accs++[accS set L2]⟩:=by
      have e1:sets[i]? = some set:=by rw [hset];exact List.getElem?_eq_getElem hlt
      simp only [detI,e1,hml ejm]
     rw [hdet] at hnext
     have hrm:row.length=m:=by omega
     subst ejm
     refine ⟨(i+1),⟨by rw [hnext];simp only;omega,by rw [hnext];simp [hr],by rw [hnext];simp [ha]⟩,by (try simp only);omega,?_⟩;refine (Gn.freeze (id:=9) rfl).trans ?_;exact Gn.canon (by first | rfl | (simp [List.append_nil,fzs,fz,fzs_ok,fzH,setO,getO,Nat.beq,List.take_of_length_le,bel_clA,bel_As,len_objD,len_objR,hnext,objD,objP,slI,hrow,fzs_app];done) | (simp [List.append_nil,fzs,fz,fzs_ok,fzH,setO,getO,Nat.beq,List.take_of_length_le,bel_clA,bel_As,len_objD,len_objR,hnext,objD,objP,slI,hrow,fzs_app];rfl)) (by simp [wk,fzs,fz,fzs_ok,fzH,setO,getO,Nat.beq,List.take_of_length_le,bel_clA,bel_As,len_objD,len_objR,hnext,objD,objP,slI,hrow,fzs_app,cfg0,encA,ones_A,ones_ints,ones_bools,objP,w_shl1,cfgT,mHas_enk,mGet_enk,getV_mapO,getV_map,Nat.mul_one,w_eqb0,List.length_map,numV,Option.isSome_some,Option.isSome_none,keyU,keys0,keysW,mPut_nil,shl10]) (by simp [List.length_append,len_objD,len_objR]) (by simp [bel_clA,bel_As,len_objD,len_objR]) (by simp [bel_clA,bel_As,len_objD,len_objR])
  ·have hx1:objD ⟨L,sets,rows,accs⟩=objP L++[.cells 0 [.sl true [] 0,.sl true [] 0],.cells (sets.length-1) (sets.map u64),.map (enk 0 sets),.cells 0 [.buf 7 rows.length 0 rows.length 1,.buf 8 accs.length 0 accs.length 1],.cells rows.length (rows.map slI),.cells accs.length (accs.map .bool)]:=rfl
   rw [hstop (by omega)]
   refine vms2 hx1 hlt ?_
   refine endK.gn (Gn.freeze (id:=7) rfl) ?_;refine endK.gn (Gn.freeze (id:=8) rfl) ?_;refine endK.ret ?_ (by first | rfl | simp [bel_clA,bel_As,len_objD,len_objR]);simp [bel_clA,bel_As,len_objD,len_objR,fzs_ok,imp,lenOK_iff,List.take_of_length_le,evRes,getT,getO,setO,fzs,fz,fzH,Nat.beq,retV,Res.then,ldT,ldR,mkV,getV,cfg0,encA,ones_A,ones_ints,ones_bools,objP,w_shl1,cfgT,mHas_enk,mGet_enk,getV_mapO,getV_map,Nat.mul_one,w_eqb0,List.length_map,numV,Option.isSome_some,Option.isSome_none,keyU,keys0,keysW,mPut_nil,shl10,Tryz.f174,encT,slR,slB,tt_238]
end
end Go.Proofs.YtlbmbbaefncleaaGreatDoor.Px

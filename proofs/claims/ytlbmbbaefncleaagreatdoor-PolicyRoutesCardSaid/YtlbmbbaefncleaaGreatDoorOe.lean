/-
  Joined by a program from the texts Ru Chk Sel.
-/
import Derived.Test.YtlbmbbaefncleaaGreatDoorOc
import Derived.Test.YtlbmbbaefncleaaGreatDoorOd
import Derived.Test.YtlbmbbaefncleaaGreatDoorNl
import Derived.Test.YtlbmbbaefncleaaGreatDoorOb
set_option maxRecDepth 100000
set_option maxHeartbeats 4000000
set_option linter.all false
namespace Go.Proofs.YtlbmbbaefncleaaGreatDoor
open Go.Vm
section
structure Ru where
 f:Int
 t:Int
 p:List Pd.Nd
 q:List Px.Nd
instance:Inhabited Ru:=⟨⟨0,0,[],[]⟩⟩
def encR (r:Ru):List V:=[.int .i64 r.f,.int .i64 r.t,Pd.slN r.p,Px.slN r.q]
def slR (l:List Ru):V:=.sl false (l.flatMap encR) l.length
theorem lenR (r:Ru):(encR r).length=4:=rfl
theorem gfp_lenR (xs:List (Ru)) (i:Nat) (h:i<xs.length) (m:Nat) (hm:m≤4):getV ((xs.flatMap encR).drop (i*4)) 0 m=getV (encR xs[i]) 0 m:=get_flat_part lenR xs i h m hm
theorem gfd_lenR (xs:List (Ru)) (i:Nat) (h:i<xs.length) (o m:Nat) (hm:o+m≤4):getV (((xs.flatMap encR).drop (i*4)).drop o) 0 m=getV (encR xs[i]) o m:=get_flat_drop lenR xs i h o m hm
theorem lfl_lenR (xs:List (Ru)):(xs.flatMap encR).length=xs.length*4:=len_flat lenR xs
@[simp] theorem belR {n:Nat} (r:Ru):belAll n (encR r)=true:=by simp [encR,Pd.bel_slN,Px.bel_slN]
@[simp] theorem bel_Rs {n:Nat} (l:List Ru):belAll n (l.flatMap encR)=true:=belAll_flat belR l
@[simp] theorem bel_slR {n:Nat} (l:List Ru):(slR l).bel n=true:=by unfold slR;rw [bel_sl];exact bel_Rs l
@[simp] theorem bel_parts {n:Nat} (ls:List (List Ru)):belAll n (ls.map slR)=true:=belAll_map (fun l=>bel_slR l) ls
attribute [local push_cast] encR slR cfg0 gfp_lenR gfd_lenR lfl_lenR Nat.mul_one
def sumR (ls:List (List Ru)):Nat:=(ls.map List.length).sum
theorem sum0:sumR []=0:=rfl
end
section
def errR (ports hosts:Nat) (r:Ru):Int:=if r.f<0∨(hosts:Int)≤r.f∨r.t<0∨(hosts:Int)≤r.t then 9 else if Pd.checkP r.p=0 then Px.checkP ports r.q else Pd.checkP r.p
def firstE (e:Ru→Int):List Ru→Int × Int
 | []=>(0,0)
 | r::l=>if e r=0 then (if (firstE e l).2=0 then (0,0) else ((firstE e l).1+1,(firstE e l).2)) else (0,e r)
theorem first_at {e:Ru→Int}:∀ {l:List Ru} {i:Nat},(hi:i<l.length)→(∀j,j<i→∀hj:j<l.length,e l[j]=0)→¬e l[i]=0→firstE e l=((i:Int),e l[i])
 | [],_,hi,_,_=>by simp at hi
 | r::l,0,_,_,hh=>by
  have hh':¬e r=0:=hh
  rw [firstE,if_neg hh'];rfl
 | r::l,i+1,hi,hn,hh=>by
  have h0:e r=0:=hn 0 (by omega) (by simp)
  have hi':i<l.length:=by simpa using hi
  have h1:=first_at (l:=l) (i:=i) hi' (fun j hj hl=>hn (j+1) (by omega) (by simpa using hl)) hh
  have hh':¬e l[i]=0:=hh
  rw [firstE,if_pos h0,h1,if_neg hh']
  simp
theorem first_none {e:Ru→Int}:∀ {l:List Ru},(∀j,∀hj:j<l.length,e l[j]=0)→firstE e l=(0,0)
 | [],_=>rfl
 | r::l,hn=>by
  have h0:e r=0:=hn 0 (by simp)
  have h1:=first_none (l:=l) (fun j hl=>hn (j+1) (by simpa using hl))
  rw [firstE,if_pos h0,h1,if_pos rfl]
def checkL (t:Top.Tp) (l:List Ru):Int × Int:=if Top.chk t=0 then (if 32<l.length then (-1,12) else firstE (errR t.ports.length t.hosts.length) l) else (-1,Top.chk t)
def encII2 (r:Int × Int):V:=.tup [.int .i64 r.1,.int .i64 r.2]
attribute [local push_cast] encR slR cfg0 gfp_lenR gfd_lenR lfl_lenR Nat.mul_one Pd.slN Px.slN Top.encT Top.slI Top.slP Top.slL Top.lfl_lenP Top.lfl_lenL
theorem pc17 (t:Top.Tp) (l:List Ru) (hf:t.fit) (hs:∀r ∈ l,r.p.length≤4000000∧r.q.length≤4000000):PC Tryz.prog 17 [.agg (Top.encT t),slR l] (encII2 (checkL t l)):=by
 have hfp:=hf.ports
 have hfh:=hf.hosts
 by_cases hc:Top.chk t=0
 case neg =>
  refine PC.walk tok mixed cfg0 Tryz.func17 rfl Tryz.call17 (by simp [Pd.bel_slN,Px.bel_slN,Pd.bel_Ns,Px.bel_Ns]) (by first | rfl | simp [Pd.bel_slN,Px.bel_slN,Pd.bel_Ns,Px.bel_Ns]) ?_;refine vms1 Tryz.ntmps17 ?_
  refine callO.pc (Top.pc54 t hf) ?_
  refine vms1 hc ?_
  refine endK.ret ?_ (by first | rfl | simp [Pd.bel_slN,Px.bel_slN,Pd.bel_Ns,Px.bel_Ns]);simp [evRes,getT,retV,Tryz.f17,encII2,checkL,hc]
 by_cases h32:32<l.length
 ·refine PC.walk tok mixed cfg0 Tryz.func17 rfl Tryz.call17 (by simp [Pd.bel_slN,Px.bel_slN,Pd.bel_Ns,Px.bel_Ns]) (by first | rfl | simp [Pd.bel_slN,Px.bel_slN,Pd.bel_Ns,Px.bel_Ns]) ?_;refine vms1 Tryz.ntmps17 ?_
  refine callO.pc (Top.pc54 t hf) ?_
  refine vms2 hc h32 ?_
  refine endK.ret ?_ (by first | rfl | simp [Pd.bel_slN,Px.bel_slN,Pd.bel_Ns,Px.bel_Ns]);simp [evRes,getT,retV,Tryz.f17,encII2,checkL,hc,h32]
 have hck:checkL t l=firstE (errR t.ports.length t.hosts.length) l:=by rw [checkL,if_pos hc,if_neg h32]
 refine PC.walk tok mixed cfg0 Tryz.func17 rfl Tryz.call17 (by simp [Pd.bel_slN,Px.bel_slN,Pd.bel_Ns,Px.bel_Ns]) (by first | rfl | simp [Pd.bel_slN,Px.bel_slN,Pd.bel_Ns,Px.bel_Ns]) ?_;refine vms1 Tryz.ntmps17 ?_
 refine callO.pc (Top.pc54 t hf) ?_
 refine vms2 hc h32 ?_
 refine T.lp tok mixed cfg0 (fun (i:Nat)=>dd 2 (kp 1 (dd 16 (kp 2 (sv (.int .i64 i) (dd 40 (nl))))))) (fun H0 (i:Nat)=>[.cells 0 (Top.encT t)]) (fun (i:Nat)=>i≤l.length∧∀j,j<i→∀hj:j<l.length,errR t.ports.length t.hosts.length l[j]=0) (fun (i:Nat)=>l.length-i) (0) ?_ ?_ ?_
 ·exact ⟨Nat.zero_le _,fun j hj=>absurd hj (Nat.not_lt_zero j)⟩
 ·exact Gn.canon (J:=[]) (by first | rfl | (simp [List.append_nil];done) | (simp [List.append_nil];rfl)) (by simp [wk,slR,Pd.slN,Px.slN,Top.encT,Top.slI,Top.slP,Top.slL,putT,kp,dd,sv,nl]) (by simp [List.length_append]) (by simp [Pd.bel_slN,Px.bel_slN,Pd.bel_Ns,Px.bel_Ns,kp,dd,sv,nl]) (by simp [Pd.bel_slN,Px.bel_slN,Pd.bel_Ns,Px.bel_Ns])
 rintro i ⟨hi,hn⟩
 by_cases hlt:i<l.length
 case neg =>
  have e:=first_none (e:=errR t.ports.length t.hosts.length) (l:=l) fun j hj=>hn j (by omega) hj
  rw [e] at hck
  refine vms1 hlt ?_
  refine endK.ret ?_ (by first | rfl | simp [Pd.bel_slN,Px.bel_slN,Pd.bel_Ns,Px.bel_Ns]);simp [evRes,getT,retV,Tryz.f17,encII2,hck]
 have hm:=hs _ (List.getElem_mem hlt)
 have hnext:errR t.ports.length t.hosts.length l[i]=0→∀j,j<i+1→∀hj:j<l.length,errR t.ports.length t.hosts.length l[j]=0:=fun h0 j hj hjl=>by
  by_cases e:j=i
  ·subst e;exact h0
  ·exact hn j (by omega) hjl
 have hbad:∀c,errR t.ports.length t.hosts.length l[i]=c→¬c=0→checkL t l=((i:Int),c):=fun c h1 h2=>by
  rw [hck,first_at hlt hn (by rw [h1];exact h2),h1]
 by_cases h1:(if l[i].t<l[i].f then l[i].t else l[i].f)<0
 ·have e:errR t.ports.length t.hosts.length l[i]=9:=by
   rw [errR,if_pos]
   split at h1<;>omega
  refine vms2 hlt h1 ?_
  refine endK.ret ?_ (by first | rfl | simp [Pd.bel_slN,Px.bel_slN,Pd.bel_Ns,Px.bel_Ns]);simp [evRes,getT,retV,Tryz.f17,encII2,hbad 9 e (by decide)]
 by_cases h2:(t.hosts.length:Int)≤(if l[i].f<l[i].t then l[i].t else l[i].f)
 ·have e:errR t.ports.length t.hosts.length l[i]=9:=by
   rw [errR,if_pos]
   split at h2<;>omega
  refine vms3 hlt h1 h2 ?_
  refine endK.ret ?_ (by first | rfl | simp [Pd.bel_slN,Px.bel_slN,Pd.bel_Ns,Px.bel_Ns]);simp [evRes,getT,retV,Tryz.f17,encII2,hbad 9 e (by decide)]
 have e0:errR t.ports.length t.hosts.length l[i]=if Pd.checkP l[i].p=0 then Px.checkP t.ports.length l[i].q else Pd.checkP l[i].p:=by
  rw [errR,if_neg]
  split at h1<;>split at h2<;>omega
 refine vms3 hlt h1 h2 ?_
 refine callO.pc (Pd.pc55 l[i].p hm.1) ?_
 by_cases h3:Pd.checkP l[i].p=0
 case neg =>
  rw [if_neg h3] at e0
  refine vms2 hlt h3 ?_
  refine endK.ret ?_ (by first | rfl | simp [Pd.bel_slN,Px.bel_slN,Pd.bel_Ns,Px.bel_Ns]);simp [evRes,getT,retV,Tryz.f17,encII2,hbad _ e0 h3]
 rw [if_pos h3] at e0
 refine vms2 hlt h3 ?_
 refine callO.pc (Px.pc56 t.ports.length l[i].q hm.2) ?_
 by_cases h4:Px.checkP t.ports.length l[i].q=0
 case neg =>
  refine vms2 hlt h4 ?_
  refine endK.ret ?_ (by first | rfl | simp [Pd.bel_slN,Px.bel_slN,Pd.bel_Ns,Px.bel_Ns]);simp [evRes,getT,retV,Tryz.f17,encII2,hbad _ e0 h4]
 rw [h4] at e0
 refine vms2 hlt h4 ?_
 refine ⟨i+1,⟨by omega,hnext e0⟩,by (try simp only);omega,?_⟩;exact Gn.canon (by first | rfl | (simp [List.append_nil];rfl)) (by simp [wk,slR,Pd.slN,Px.slN,Top.encT,Top.slI,Top.slP,Top.slL]) (by simp [List.length_append]) (by simp [Pd.bel_slN,Px.bel_slN,Pd.bel_Ns,Px.bel_Ns]) (by simp [Pd.bel_slN,Px.bel_slN,Pd.bel_Ns,Px.bel_Ns])
theorem pc18 (t:Top.Tp) (l:List Ru) (hf:t.fit) (hs:∀r ∈ l,r.p.length≤4000000∧r.q.length≤4000000):PC Tryz.prog 18 [.agg (Top.encT t),slR l] (encII2 (checkL t l)):=by
 have hfp:=hf.ports
 have hfh:=hf.hosts
 by_cases hc:Top.chk t=0
 case neg =>
  refine PC.walk tok mixed cfg0 Tryz.func18 rfl Tryz.call18 (by simp [Pd.bel_slN,Px.bel_slN,Pd.bel_Ns,Px.bel_Ns]) (by first | rfl | simp [Pd.bel_slN,Px.bel_slN,Pd.bel_Ns,Px.bel_Ns]) ?_;refine vms1 Tryz.ntmps18 ?_
  refine callO.pc (Top.pc57 t hf) ?_
  refine vms1 hc ?_
  refine endK.ret ?_ (by first | rfl | simp [Pd.bel_slN,Px.bel_slN,Pd.bel_Ns,Px.bel_Ns]);simp [evRes,getT,retV,Tryz.f18,encII2,checkL,hc]
 by_cases h32:32<l.length
 ·refine PC.walk tok mixed cfg0 Tryz.func18 rfl Tryz.call18 (by simp [Pd.bel_slN,Px.bel_slN,Pd.bel_Ns,Px.bel_Ns]) (by first | rfl | simp [Pd.bel_slN,Px.bel_slN,Pd.bel_Ns,Px.bel_Ns]) ?_;refine vms1 Tryz.ntmps18 ?_
  refine callO.pc (Top.pc57 t hf) ?_
  refine vms2 hc h32 ?_
  refine endK.ret ?_ (by first | rfl | simp [Pd.bel_slN,Px.bel_slN,Pd.bel_Ns,Px.bel_Ns]);simp [evRes,getT,retV,Tryz.f18,encII2,checkL,hc,h32]
 have hck:checkL t l=firstE (errR t.ports.length t.hosts.length) l:=by rw [checkL,if_pos hc,if_neg h32]
 refine PC.walk tok mixed cfg0 Tryz.func18 rfl Tryz.call18 (by simp [Pd.bel_slN,Px.bel_slN,Pd.bel_Ns,Px.bel_Ns]) (by first | rfl | simp [Pd.bel_slN,Px.bel_slN,Pd.bel_Ns,Px.bel_Ns]) ?_;refine vms1 Tryz.ntmps18 ?_
 refine callO.pc (Top.pc57 t hf) ?_
 refine vms2 hc h32 ?_
 refine T.lp tok mixed cfg0 (fun (i:Nat)=>dd 1 (kp 2 (dd 4 (sv (.int .i64 i) (dd 74 (nl)))))) (fun H0 (i:Nat)=>[.cells 0 (Top.encT t)]) (fun (i:Nat)=>i≤l.length∧∀j,j<i→∀hj:j<l.length,errR t.ports.length t.hosts.length l[j]=0) (fun (i:Nat)=>l.length-i) (0) ?_ ?_ ?_
 ·exact ⟨Nat.zero_le _,fun j hj=>absurd hj (Nat.not_lt_zero j)⟩
 ·exact Gn.canon (J:=[]) (by first | rfl | (simp [List.append_nil];done) | (simp [List.append_nil];rfl)) (by simp [wk,slR,Pd.slN,Px.slN,Top.encT,Top.slI,Top.slP,Top.slL,putT,kp,dd,sv,nl]) (by simp [List.length_append]) (by simp [Pd.bel_slN,Px.bel_slN,Pd.bel_Ns,Px.bel_Ns,kp,dd,sv,nl]) (by simp [Pd.bel_slN,Px.bel_slN,Pd.bel_Ns,Px.bel_Ns])
 rintro i ⟨hi,hn⟩
 by_cases hlt:i<l.length
 case neg =>
  have e:=first_none (e:=errR t.ports.length t.hosts.length) (l:=l) fun j hj=>hn j (by omega) hj
  rw [e] at hck
  refine vms1 hlt ?_
  refine endK.ret ?_ (by first | rfl | simp [Pd.bel_slN,Px.bel_slN,Pd.bel_Ns,Px.bel_Ns]);simp [evRes,getT,retV,Tryz.f18,encII2,hck]
 have hm:=hs _ (List.getElem_mem hlt)
 have hnext:errR t.ports.length t.hosts.length l[i]=0→∀j,j<i+1→∀hj:j<l.length,errR t.ports.length t.hosts.length l[j]=0:=fun h0 j hj hjl=>by
  by_cases e:j=i
  ·subst e;exact h0
  ·exact hn j (by omega) hjl
 have hbad:∀c,errR t.ports.length t.hosts.length l[i]=c→¬c=0→checkL t l=((i:Int),c):=fun c h1 h2=>by
  rw [hck,first_at hlt hn (by rw [h1];exact h2),h1]
 by_cases h1:l[i].f<0
 ·have e:errR t.ports.length t.hosts.length l[i]=9:=by rw [errR,if_pos (.inl h1)]
  refine vms2 hlt h1 ?_
  refine endK.ret ?_ (by first | rfl | simp [Pd.bel_slN,Px.bel_slN,Pd.bel_Ns,Px.bel_Ns]);simp [evRes,getT,retV,Tryz.f18,encII2,hbad 9 e (by decide)]
 by_cases h2:(t.hosts.length:Int)≤l[i].f
 ·have e:errR t.ports.length t.hosts.length l[i]=9:=by rw [errR,if_pos (.inr (.inl h2))]
  refine vms3 hlt h1 h2 ?_
  refine endK.ret ?_ (by first | rfl | simp [Pd.bel_slN,Px.bel_slN,Pd.bel_Ns,Px.bel_Ns]);simp [evRes,getT,retV,Tryz.f18,encII2,hbad 9 e (by decide)]
 by_cases h3:l[i].t<0
 ·have e:errR t.ports.length t.hosts.length l[i]=9:=by rw [errR,if_pos (.inr (.inr (.inl h3)))]
  refine vms4 hlt h1 h2 h3 ?_
  refine endK.ret ?_ (by first | rfl | simp [Pd.bel_slN,Px.bel_slN,Pd.bel_Ns,Px.bel_Ns]);simp [evRes,getT,retV,Tryz.f18,encII2,hbad 9 e (by decide)]
 by_cases h4:(t.hosts.length:Int)≤l[i].t
 ·have e:errR t.ports.length t.hosts.length l[i]=9:=by rw [errR,if_pos (.inr (.inr (.inr h4)))]
  refine vms5 hlt h1 h2 h3 h4 ?_
  refine endK.ret ?_ (by first | rfl | simp [Pd.bel_slN,Px.bel_slN,Pd.bel_Ns,Px.bel_Ns]);simp [evRes,getT,retV,Tryz.f18,encII2,hbad 9 e (by decide)]
 have e0:errR t.ports.length t.hosts.length l[i]=if Pd.checkP l[i].p=0 then Px.checkP t.ports.length l[i].q else Pd.checkP l[i].p:=by
  rw [errR,if_neg]
  omega
 refine vms5 hlt h1 h2 h3 h4 ?_
 refine callO.pc (Pd.pc58 l[i].p hm.1) ?_
 by_cases h5:Pd.checkP l[i].p=0
 case neg =>
  rw [if_neg h5] at e0
  refine vms2 hlt h5 ?_
  refine endK.ret ?_ (by first | rfl | simp [Pd.bel_slN,Px.bel_slN,Pd.bel_Ns,Px.bel_Ns]);simp [evRes,getT,retV,Tryz.f18,encII2,hbad _ e0 h5]
 rw [if_pos h5] at e0
 refine vms2 hlt h5 ?_
 refine callG.pc1 (Px.pc59 t.ports.length l[i].q hm.2) ?_
 by_cases h6:Px.checkP t.ports.length l[i].q=0
 case neg =>
  refine vms2 hlt h6 ?_
  refine endK.ret ?_ (by first | rfl | simp [Pd.bel_slN,Px.bel_slN,Pd.bel_Ns,Px.bel_Ns]);simp [evRes,getT,retV,Tryz.f18,encII2,hbad _ e0 h6]
 rw [h6] at e0
 refine vms2 hlt h6 ?_
 refine ⟨i+1,⟨by omega,hnext e0⟩,by (try simp only);omega,?_⟩;exact Gn.canon (by first | rfl | (simp [List.append_nil];rfl)) (by simp [wk,slR,Pd.slN,Px.slN,Top.encT,Top.slI,Top.slP,Top.slL]) (by simp [List.length_append]) (by simp [Pd.bel_slN,Px.bel_slN,Pd.bel_Ns,Px.bel_Ns]) (by simp [Pd.bel_slN,Px.bel_slN,Pd.bel_Ns,Px.bel_Ns])
end
section
noncomputable def evD (f:Pd.Fl) (l:List Pd.Nd):Bool:=by
 classical
 exact if h:Pd.checkP l=0∧∃p,Pd.okP p∧l=Pd.flat p then Pd.evP f h.2.choose else false
theorem evD_spec (f:Pd.Fl) (l:List Pd.Nd):Pd.evalL f l (evD f l):=by
 classical
 by_cases h0:Pd.checkP l=0
 ·obtain ⟨_,p,hp,e⟩:=Pd.checkP_tree h0
  have h:Pd.checkP l=0∧∃p,Pd.okP p∧l=Pd.flat p:=⟨h0,p,hp,e⟩
  refine .inl ⟨h0,h.2.choose,h.2.choose_spec.1,h.2.choose_spec.2,?_⟩
  unfold evD
  rw [dif_pos h]
 ·refine .inr ⟨h0,?_⟩
  unfold evD
  rw [dif_neg fun h=>h0 h.1]
def smallR (l:List Ru):Bool:=decide (l.length≤60)&&l.all fun r=>decide (r.p.length≤60)&&decide (r.q.length≤60)
theorem small_iff {l:List Ru}:smallR l=true↔l.length≤60∧∀r ∈ l,r.p.length≤60∧r.q.length≤60:=by
 unfold smallR
 simp only [Bool.and_eq_true,decide_eq_true_eq,List.all_eq_true]
attribute [local push_cast] encR slR cfg0 gfp_lenR gfd_lenR lfl_lenR Nat.mul_one Pd.slN Px.slN Pd.encF
theorem pc9 (l:List Ru):PC Tryz.prog 9 [slR l] (.bool (smallR l)):=by
 by_cases h60:60<l.length
 ·have hs:smallR l=false:=by
   rw [←Bool.not_eq_true,small_iff]
   omega
  refine PC.walk tok mixed cfg0 Tryz.func9 rfl Tryz.call9 (by simp [Pd.bel_slN,Px.bel_slN,Pd.bel_Ns,Px.bel_Ns,belAll_append,Pd.belF]) (by first | rfl | simp [Pd.bel_slN,Px.bel_slN,Pd.bel_Ns,Px.bel_Ns,belAll_append,Pd.belF]) ?_;refine vms1 Tryz.ntmps9 ?_
  refine endK.ret ?_ (by first | rfl | simp [Pd.bel_slN,Px.bel_slN,Pd.bel_Ns,Px.bel_Ns,belAll_append,Pd.belF]);simp [evRes,getT,retV,Tryz.f9,hs]
 have hl:l.length≤60:=by omega
 refine PC.walk tok mixed cfg0 Tryz.func9 rfl Tryz.call9 (by simp [Pd.bel_slN,Px.bel_slN,Pd.bel_Ns,Px.bel_Ns,belAll_append,Pd.belF]) (by first | rfl | simp [Pd.bel_slN,Px.bel_slN,Pd.bel_Ns,Px.bel_Ns,belAll_append,Pd.belF]) ?_;refine vms1 Tryz.ntmps9 ?_
 refine T.lp tok mixed cfg0 (fun (i:Nat)=>kp 1 (dd 2 (sv (.int .i64 i) (dd 25 (nl))))) (fun H0 (i:Nat)=>[]) (fun (i:Nat)=>i≤l.length∧∀j,j<i→∀h:j<l.length,l[j].p.length≤60∧l[j].q.length≤60) (fun (i:Nat)=>l.length-i) (0) ?_ ?_ ?_
 ·exact ⟨Nat.zero_le _,fun j hj=>absurd hj (Nat.not_lt_zero j)⟩
 ·exact Gn.canon (J:=[]) (by first | rfl | (simp [List.append_nil];done) | (simp [List.append_nil];rfl)) (by simp [wk,slR,sum0,Pd.slN,Px.slN,putT,kp,dd,sv,nl]) (by simp [List.length_append]) (by simp [Pd.bel_slN,Px.bel_slN,Pd.bel_Ns,Px.bel_Ns,belAll_append,Pd.belF,kp,dd,sv,nl]) (by simp [Pd.bel_slN,Px.bel_slN,Pd.bel_Ns,Px.bel_Ns,belAll_append,Pd.belF])
 rintro i ⟨hi,hall⟩
 by_cases hlt:i<l.length
 ·by_cases hp:l[i].p.length≤60
  ·have hp2:¬60<l[i].p.length:=by omega
   by_cases hq:l[i].q.length≤60
   ·have hq2:¬60<l[i].q.length:=by omega
    refine vms3 hlt hp2 hq2 ?_
    refine ⟨i+1,⟨by omega,fun j hj h=>by
     by_cases e:j=i
     ·subst e;exact ⟨hp,hq⟩
     ·exact hall j (by omega) h⟩,by (try simp only);omega,?_⟩;exact Gn.canon (by first | rfl | (simp [List.append_nil];rfl)) (by simp [wk,slR,sum0,Pd.slN,Px.slN]) (by simp [List.length_append]) (by simp [Pd.bel_slN,Px.bel_slN,Pd.bel_Ns,Px.bel_Ns,belAll_append,Pd.belF]) (by simp [Pd.bel_slN,Px.bel_slN,Pd.bel_Ns,Px.bel_Ns,belAll_append,Pd.belF])
   ·have hq2:60<l[i].q.length:=by omega
    have hs:smallR l=false:=by
     rw [←Bool.not_eq_true,small_iff]
     intro h
     exact hq (h.2 _ (List.getElem_mem hlt)).2
    refine vms3 hlt hp2 hq2 ?_
    refine endK.ret ?_ (by first | rfl | simp [Pd.bel_slN,Px.bel_slN,Pd.bel_Ns,Px.bel_Ns,belAll_append,Pd.belF]);simp [evRes,getT,retV,Tryz.f9,hs]
  ·have hp2:60<l[i].p.length:=by omega
   have hs:smallR l=false:=by
    rw [←Bool.not_eq_true,small_iff]
    intro h
    exact hp (h.2 _ (List.getElem_mem hlt)).1
   refine vms2 hlt hp2 ?_
   refine endK.ret ?_ (by first | rfl | simp [Pd.bel_slN,Px.bel_slN,Pd.bel_Ns,Px.bel_Ns,belAll_append,Pd.belF]);simp [evRes,getT,retV,Tryz.f9,hs]
 have hi':i=l.length:=by omega
 have hs:smallR l=true:=by
  rw [small_iff]
  refine ⟨by omega,fun r hr=>?_⟩
  obtain ⟨j,hj,rfl⟩:=List.getElem_of_mem hr
  exact hall j (by omega) hj
 refine vms1 hlt ?_
 refine endK.ret ?_ (by first | rfl | simp [Pd.bel_slN,Px.bel_slN,Pd.bel_Ns,Px.bel_Ns,belAll_append,Pd.belF]);simp [evRes,getT,retV,Tryz.f9,hs]
noncomputable def hitR (h:Int) (f:Pd.Fl) (r:Ru):Bool:=decide (r.f=h)&&evD f r.p
noncomputable def selR (h:Int) (f:Pd.Fl):List Ru→Nat × Bool
 | []=>(0,false)
 | r::l=>if hitR h f r=true then (0,true) else if (selR h f l).2=true then ((selR h f l).1+1,true) else (0,false)
theorem sel_at {h:Int} {f:Pd.Fl}:∀ {l:List Ru} {i:Nat},(hi:i<l.length)→(∀j,j<i→∀hj:j<l.length,hitR h f l[j]=false)→hitR h f l[i]=true→selR h f l=(i,true)
 | [],_,hi,_,_=>by simp at hi
 | r::l,0,_,_,hh=>by
  have hh':hitR h f r=true:=hh
  rw [selR,if_pos hh']
 | r::l,i+1,hi,hn,hh=>by
  have h0:=hn 0 (by omega) (by simp)
  have h1:=sel_at (l:=l) (i:=i) (by simpa using hi) (fun j hj hl=>hn (j+1) (by omega) (by simpa using hl)) hh
  rw [selR,if_neg (by simpa using h0),h1,if_pos rfl]
theorem sel_none {h:Int} {f:Pd.Fl}:∀ {l:List Ru},(∀j,∀hj:j<l.length,hitR h f l[j]=false)→selR h f l=(0,false)
 | [],_=>rfl
 | r::l,hn=>by
  have h0:=hn 0 (by simp)
  have h1:=sel_none (l:=l) (fun j hl=>hn (j+1) (by simpa using hl))
  rw [selR,if_neg (by simpa using h0),h1,if_neg (by decide)]
noncomputable def encIB (r:Nat × Bool):V:=.tup [.int .i64 r.1,.bool r.2]
theorem pc19 (l:List Ru) (h:Int) (f:Pd.Fl) (hl:l.length≤1000000) (hs:∀r ∈ l,r.p.length≤4000000):PC Tryz.prog 19 [slR l,.int .i64 h,.agg (Pd.encF f)] (.tup [.int .i64 (selR h f l).1,.bool (selR h f l).2]):=by
 refine PC.walk tok mixed cfg0 Tryz.func19 rfl Tryz.call19 (by simp [Pd.bel_slN,Px.bel_slN,Pd.bel_Ns,Px.bel_Ns,belAll_append,Pd.belF]) (by first | rfl | simp [Pd.bel_slN,Px.bel_slN,Pd.bel_Ns,Px.bel_Ns,belAll_append,Pd.belF]) ?_;refine vms1 Tryz.ntmps19 ?_
 refine T.lp tok mixed cfg0 (fun (i:Nat)=>dd 1 (kp 1 (dd 3 (kp 1 (dd 4 (kp 2 (sv (.int .i64 i) (dd 16 (nl))))))))) (fun H0 (i:Nat)=>[.cells 0 (Pd.encF f)]) (fun (i:Nat)=>i≤l.length∧∀j,j<i→∀hj:j<l.length,hitR h f l[j]=false) (fun (i:Nat)=>l.length-i) (0) ?_ ?_ ?_
 ·exact ⟨Nat.zero_le _,fun j hj=>absurd hj (Nat.not_lt_zero j)⟩
 ·exact Gn.canon (J:=[]) (by first | rfl | (simp [List.append_nil];done) | (simp [List.append_nil];rfl)) (by simp [wk,slR,sum0,Pd.slN,Px.slN,putT,kp,dd,sv,nl]) (by simp [List.length_append]) (by simp [Pd.bel_slN,Px.bel_slN,Pd.bel_Ns,Px.bel_Ns,belAll_append,Pd.belF,kp,dd,sv,nl]) (by simp [Pd.bel_slN,Px.bel_slN,Pd.bel_Ns,Px.bel_Ns,belAll_append,Pd.belF])
 rintro i ⟨hi,hn⟩
 by_cases hlt:i<l.length
 case neg =>
  have e:=sel_none (h:=h) (f:=f) (l:=l) fun j hj=>hn j (by omega) hj
  refine vms1 hlt ?_
  refine endK.ret ?_ (by first | rfl | simp [Pd.bel_slN,Px.bel_slN,Pd.bel_Ns,Px.bel_Ns,belAll_append,Pd.belF]);simp [evRes,getT,retV,Tryz.f19,e]
 have hnext:hitR h f l[i]=false→∀j,j<i+1→∀hj:j<l.length,hitR h f l[j]=false:=fun h0 j hj hjl=>by
  by_cases e:j=i
  ·subst e;exact h0
  ·exact hn j (by omega) hjl
 by_cases hf:l[i].f=h
 ·refine vms2 hlt hf ?_
  refine callO.pc (Pd.pc60 f l[i].p (hs _ (List.getElem_mem hlt)) _ (evD_spec f l[i].p)) ?_
  cases hb:evD f l[i].p
  ·have h0:hitR h f l[i]=false:=by rw [hitR,hb,Bool.and_false]
   refine vms3 hlt hf hb ?_
   refine ⟨i+1,⟨by omega,hnext h0⟩,by (try simp only);omega,?_⟩;exact Gn.canon (by first | rfl | (simp [List.append_nil];rfl)) (by simp [wk,slR,sum0,Pd.slN,Px.slN]) (by simp [List.length_append]) (by simp [Pd.bel_slN,Px.bel_slN,Pd.bel_Ns,Px.bel_Ns,belAll_append,Pd.belF]) (by simp [Pd.bel_slN,Px.bel_slN,Pd.bel_Ns,Px.bel_Ns,belAll_append,Pd.belF])
  ·have h0:hitR h f l[i]=true:=by rw [hitR,hb,hf,decide_eq_true rfl];rfl
   have e:=sel_at hlt hn h0
   refine vms3 hlt hf hb ?_
   refine endK.ret ?_ (by first | rfl | simp [Pd.bel_slN,Px.bel_slN,Pd.bel_Ns,Px.bel_Ns,belAll_append,Pd.belF]);simp [evRes,getT,retV,Tryz.f19,e]
 ·have h0:hitR h f l[i]=false:=by rw [hitR,decide_eq_false hf,Bool.false_and]
  refine vms2 hlt hf ?_
  refine ⟨i+1,⟨by omega,hnext h0⟩,by (try simp only);omega,?_⟩;exact Gn.canon (by first | rfl | (simp [List.append_nil];rfl)) (by simp [wk,slR,sum0,Pd.slN,Px.slN]) (by simp [List.length_append]) (by simp [Pd.bel_slN,Px.bel_slN,Pd.bel_Ns,Px.bel_Ns,belAll_append,Pd.belF]) (by simp [Pd.bel_slN,Px.bel_slN,Pd.bel_Ns,Px.bel_Ns,belAll_append,Pd.belF])
end
end Go.Proofs.YtlbmbbaefncleaaGreatDoor

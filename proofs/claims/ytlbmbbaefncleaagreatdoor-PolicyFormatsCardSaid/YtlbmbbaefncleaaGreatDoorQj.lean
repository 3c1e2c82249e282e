/-
  Joined by a program from the texts Wds Rnp Fst R12 Fmg P13 Sel Law L3 Lift34.
-/
import Derived.Test.YtlbmbbaefncleaaGreatDoorQb
import Derived.Test.YtlbmbbaefncleaaGreatDoorQg
import Derived.Test.YtlbmbbaefncleaaGreatDoorQe
import Derived.Test.YtlbmbbaefncleaaGreatDoorQi
import Derived.Test.YtlbmbbaefncleaaGreatDoorQh
import Derived.Test.YtlbmbbaefncleaaGreatDoorQc
import Derived.Test.YtlbmbbaefncleaaGreatDoorRows
import Derived.Test.YtlbmbbaefncleaaGreatDoorNg
import Derived.Lib.LaidTab
import Derived.Lib.LaidU8
import Derived.LaidMore
import Derived.Stop.Joined
set_option maxRecDepth 100000
set_option maxHeartbeats 4000000
set_option linter.all false
namespace Go.Proofs.YtlbmbbaefncleaaGreatDoor
open Go.Vm
attribute [local push_cast] cfg0 Nat.mul_one List.length_map
end Go.Proofs.YtlbmbbaefncleaaGreatDoor
namespace Go.Proofs.YtlbmbbaefncleaaGreatDoor.Px
open Go.Vm
attribute [local push_cast] cfg0 take_rest ibeq_dec encDR
end Go.Proofs.YtlbmbbaefncleaaGreatDoor.Px
namespace Go.Proofs.YtlbmbbaefncleaaGreatDoor
open Go.Vm
section
attribute [local push_cast] cfg0 Px.take_rest ibeq_dec
theorem pc42 (n:Int):PC Tryz.prog 42 [.int .i64 n] (.bool (hostB n)):=by
 refine PC.walk tok mixed cfg0 Tryz.func42 rfl Tryz.call42 (by simp) (by first | rfl | simp) ?_;refine vms1 Tryz.ntmps42 ?_
 refine ⟨fun h1=>?_,fun h1=>?_⟩
 ·refine endK.retA ?_;simp [evRes,getT,retV,Tryz.f42,hostB,h1]
 ·refine endK.retA ?_;simp [evRes,getT,retV,Tryz.f42,hostB,h1]
end
section
theorem lenG (r:Rg):(encG r).length=4:=rfl
theorem gfp_lenG (xs:List (Rg)) (i:Nat) (h:i<xs.length) (m:Nat) (hm:m≤4):getV ((xs.flatMap encG).drop (i*4)) 0 m=getV (encG xs[i]) 0 m:=get_flat_part lenG xs i h m hm
theorem gfd_lenG (xs:List (Rg)) (i:Nat) (h:i<xs.length) (o m:Nat) (hm:o+m≤4):getV (((xs.flatMap encG).drop (i*4)).drop o) 0 m=getV (encG xs[i]) o m:=get_flat_drop lenG xs i h o m hm
theorem lfl_lenG (xs:List (Rg)):(xs.flatMap encG).length=xs.length*4:=len_flat lenG xs
theorem decH_dgs {n:Int} (h:hostB n=true):decH n=Px.dgs 9 n.toNat:=by
 obtain ⟨m,rfl,hm⟩:=host_cases h
 have hall:∀v:Fin 16,decH ((v.1:Nat):Int)=Px.dgs 9 ((v.1:Nat):Int).toNat:=by decide +kernel
 exact hall ⟨m,hm⟩
theorem pc45h {n:Int} (h:hostB n=true):PC Tryz.prog 45 [.int .i64 n] (.str (decH n)):=by
 rw [decH_dgs h]
 obtain ⟨m,rfl,hm⟩:=host_cases h
 rw [Int.toNat_natCast]
 exact Px.pc50g m (by omega)
theorem st_isl {x:V} (h:isSl x=true):x.st=x:=by
 cases x<;>first | rfl | cases h
theorem os_isl {x:V} (h:isSl x=true) {g:Bool} {xs:List V} {p:Prop}:optSide g (x::xs) p=optSide g xs p:=by
 cases x<;>first | rfl | cases h
attribute [local push_cast] encG slG cfg0 ibeq_dec gfp_lenG gfd_lenG lfl_lenG Nat.mul_one
theorem pc12 (G:List Rg) (hl:G.length≤32) (hsm:∀r ∈ G,r.ps.length≤100000000∧r.qs.length≤100000000) (hbl:∀n,belAll n (G.flatMap encG)=true) (hs:∀r ∈ G,isSl r.p=true∧isSl r.q=true)
  (h43:∀r ∈ G,PC Tryz.prog 43 [r.p] (.tup [.str r.ps,.int .i64 r.pe])) (h44:∀r ∈ G,PC Tryz.prog 44 [r.q] (.tup [.str r.qs,.int .i64 r.qe])) :
  PC Tryz.prog 12 [slG G] (.tup [.str (fmtG G).1,.int .i64 (fmtG G).2]):=by
 have htl:=txt_len G hsm
 have h32:¬(32:Int)<(G.length:Int):=by omega
 refine PC.walk tok mixed cfg0 Tryz.func12 rfl Tryz.call12 (by simp [hbl,slG]) (by first | rfl | simp [hbl,slG]) ?_;refine vms1 Tryz.ntmps12 ?_
 refine T.lp tok mixed cfg0 (fun (j:Nat)=>kp 1 (dd 1 (sv (.str []) (sv (.int .i64 0) (sv (.str (txtG (G.take j))) (sv (.int .i64 j) (dd 80 (nl)))))))) (fun H0 (j:Nat)=>H0) (fun (j:Nat)=>j≤G.length∧badG (G.take j)=0) (fun (j:Nat)=>G.length-j) (0) ?_ ?_ ?_
 ·exact ⟨Nat.zero_le _,rfl⟩
 ·have e0:txtG []=[]:=rfl
  rw [List.take_zero,e0]
  exact Gn.canon (J:=_) (by first | rfl | (simp [List.append_nil];done) | (simp [List.append_nil];rfl)) (by simp [wk,slG,putT,kp,dd,sv,nl]) (by simp [List.length_append]) (by simp [hbl,slG,kp,dd,sv,nl]) (by simp [hbl,slG])
 intro j ⟨hj,hn⟩
 by_cases hlt:j<G.length
 case neg =>
  have hje:j=G.length:=by omega
  subst hje
  rw [List.take_length] at hn
  by_cases h4:16384<(txtG G).length
  ·have hf:fmtG G=([],4):=by rw [fmtG,if_neg (by omega),if_pos h4]
   have h4b:(16384:Int)<((txtG G).length:Int):=by omega
   rw [hf]
   simp (maxSteps:=2000000) -implicitDefEqProofs +contextual (disch:=first | assumption | omega | decide +kernel) only [push_cast,↓capI,seval,Nat.reduceLeDiff,Nat.reduceEqDiff,reduceCtorEq,↓reduceIte,List.take_length,h4b]
   refine endK.ret ?_ (by first | rfl | simp [hbl,slG]);simp [evRes,getT,retV,Tryz.f12]
  ·have hf:fmtG G=(txtG G,0):=by rw [fmtG,if_neg (by omega),if_neg h4]
   have h4b:¬(16384:Int)<((txtG G).length:Int):=by omega
   rw [hf]
   simp (maxSteps:=2000000) -implicitDefEqProofs +contextual (disch:=first | assumption | omega | decide +kernel) only [push_cast,↓capI,seval,Nat.reduceLeDiff,Nat.reduceEqDiff,reduceCtorEq,↓reduceIte,List.take_length,h4b]
   refine endK.ret ?_ (by first | rfl | simp [hbl,slG]);simp [evRes,getT,retV,Tryz.f12]
 have hmem:=List.getElem_mem hlt
 have hg:G[j]? = some G[j]:=List.getElem?_eq_getElem hlt
 have h43:=h43 _ hmem
 have h44:=h44 _ hmem
 obtain ⟨hs1,hs2⟩:=hs _ hmem
 have hp1:=st_isl hs1
 have hq1:=st_isl hs2
 have hp2:=fun (xs:List V) (P:Prop)=>os_isl hs1 (g:=true) (xs:=xs) (p:=P)
 have hq2:=fun (xs:List V) (P:Prop)=>os_isl hs2 (g:=true) (xs:=xs) (p:=P)
 have htj:=txt_len (G.take j) fun r hr=>hsm r (List.mem_of_mem_take hr)
 rw [List.length_take] at htj
 obtain ⟨s1,s2⟩:=hsm _ hmem
 have hll:=line_len s1 s2
 cases hf:hostB G[j].f
 ·have hc:chkG G[j]=9:=by rw [chkG,hf];rfl
  rw [fmtG_bad hg hn hc (by decide)]
  refine vms0 ?_
  refine callO.pc (pc42 G[j].f) ?_
  refine vms1 hf ?_
  refine endK.ret ?_ (by first | rfl | simp [hbl,slG]);simp [evRes,getT,retV,Tryz.f12]
 cases ht:hostB G[j].t
 ·have hc:chkG G[j]=9:=by rw [chkG,hf,ht];rfl
  rw [fmtG_bad hg hn hc (by decide)]
  refine vms0 ?_
  refine callO.pc (pc42 G[j].f) ?_
  refine vms1 hf ?_
  refine callO.pc (pc42 G[j].t) ?_
  refine vms1 ht ?_
  refine endK.ret ?_ (by first | rfl | simp [hbl,slG]);simp [evRes,getT,retV,Tryz.f12]
 have hh:(hostB G[j].f&&hostB G[j].t)=true:=by rw [hf,ht];rfl
 by_cases hp:G[j].pe=0
 case neg =>
  have hc:chkG G[j]=G[j].pe:=by rw [chkG,if_pos hh,if_neg hp]
  rw [fmtG_bad hg hn hc hp]
  refine vms0 ?_
  refine callO.pc (pc42 G[j].f) ?_
  refine vms1 hf ?_
  refine callO.pc (pc42 G[j].t) ?_
  refine vms3 ht hp1 hp2 ?_
  refine callO.pc h43 ?_
  refine vms1 hp ?_
  refine endK.ret ?_ (by first | rfl | simp [hbl,slG]);simp [evRes,getT,retV,Tryz.f12]
 by_cases hq:G[j].qe=0
 case neg =>
  have hc:chkG G[j]=G[j].qe:=by rw [chkG,if_pos hh,if_pos hp]
  rw [fmtG_bad hg hn hc hq]
  rw [hp] at h43
  refine vms0 ?_
  refine callO.pc (pc42 G[j].f) ?_
  refine vms1 hf ?_
  refine callO.pc (pc42 G[j].t) ?_
  refine vms3 ht hp1 hp2 ?_
  refine callO.pc h43 ?_
  refine vms2 hq1 hq2 ?_
  refine callO.pc h44 ?_
  refine vms1 hq ?_
  refine endK.ret ?_ (by first | rfl | simp [hbl,slG]);simp [evRes,getT,retV,Tryz.f12]
 have hc:chkG G[j]=0:=by rw [chkG,if_pos hh,if_pos hp,hq]
 have hb2:=badG_step hg hn hc
 have hts:=txtG_step hg
 rw [hp] at h43
 rw [hq] at h44
 have d1:=decH_len G[j].f
 have d2:=decH_len G[j].t
 refine vms0 ?_
 refine callO.pc (pc42 G[j].f) ?_
 refine vms1 hf ?_
 refine callO.pc (pc42 G[j].t) ?_
 refine vms3 ht hp1 hp2 ?_
 refine callO.pc h43 ?_
 refine vms2 hq1 hq2 ?_
 refine callO.pc h44 ?_
 refine vms0 ?_
 refine callG.pc1 (pc45h hf) ?_
 refine vms0 ?_
 refine callG.pc1 (pc45h ht) ?_
 refine vms0 ?_
 refine ⟨j+1,⟨hlt,hb2⟩,by (try simp only);omega,?_⟩;exact Gn.canon (by first | rfl | (simp [List.append_nil,hts,lineG,headG];rfl)) (by simp [wk,slG,hts,lineG,headG]) (by simp [List.length_append]) (by simp [hbl,slG]) (by simp [hbl,slG])
end
section
def GoodG (g:Rg):Prop:=∃(p:List Pd.Nd) (q:List Px.Nd),(p.length≤4000000∧q.length≤4000000)∧(g.p=Pd.slN p∧g.q=Px.slN q)∧Pd.fmtL p g.ps g.pe∧Px.fmtL q g.qs g.qe
theorem rg_ex:∀(l:List Ru),(∀r ∈ l,r.p.length≤60∧r.q.length≤60)→∃G:List Rg,G.length=l.length∧G.flatMap encG=l.flatMap encR∧∀g ∈ G,GoodG g
 | [],_=>⟨[],rfl,rfl,fun g hg=>by cases hg⟩
 | r::l,h=>by
  obtain ⟨G,h1,h2,h3⟩:=rg_ex l fun r hr=>h r (List.mem_cons_of_mem _ hr)
  obtain ⟨s1,s2⟩:=h r (List.mem_cons_self ..)
  obtain ⟨ps,pe,hp⟩:∃s e,Pd.fmtL r.p s e:=by
   by_cases h0:Pd.checkP r.p=0
   ·obtain ⟨_,p,hp,e⟩:=Pd.checkP_tree h0
    exact ⟨Pd.tx p,_,rfl,.inl ⟨h0,p,hp,e,rfl⟩⟩
   ·exact ⟨[],_,rfl,.inr ⟨h0,rfl⟩⟩
  obtain ⟨qs,qe,hq⟩:=Px.fmtL_ex r.q
  refine ⟨⟨r.f,r.t,Pd.slN r.p,Px.slN r.q,ps,qs,pe,qe⟩::G,by simp [h1],?_,?_⟩
  ·rw [List.flatMap_cons,List.flatMap_cons,h2]
   rfl
  ·intro g hg
   rcases List.mem_cons.1 hg with rfl | hg
   ·exact ⟨r.p,r.q,⟨by omega,by omega⟩,⟨rfl,rfl⟩,hp,hq⟩
   ·exact h3 g hg
theorem good_len {g:Rg} (h:GoodG g):g.ps.length≤100000000∧g.qs.length≤100000000:=by
 obtain ⟨p,q,⟨l1,l2⟩,_,h1,h2⟩:=h
 constructor
 ·rcases h1.2 with ⟨_,x,_,e,hs⟩ | ⟨_,hs⟩
  ·rw [hs]
   have:=Pd.tx_len x
   rw [←e] at this
   omega
  ·rw [hs];exact Nat.zero_le _
 ·rcases h2.2 with ⟨_,x,_,e,_,hs⟩ | ⟨_,hs⟩
  ·rw [hs]
   have:=Px.tx_len x
   rw [←e] at this
   omega
  ·rw [hs];exact Nat.zero_le _
theorem good_bel:∀ {G:List Rg},(∀g ∈ G,GoodG g)→∀n,belAll n (G.flatMap encG)=true
 | [],_,_=>rfl
 | g::G,h,n=>by
  obtain ⟨p,q,_,⟨e1,e2⟩,_,_⟩:=h g (List.mem_cons_self ..)
  rw [List.flatMap_cons,belAll_append,good_bel (fun g hg=>h g (List.mem_cons_of_mem _ hg)) n,encG,e1,e2]
  simp [belAll_cons,belAll_nil,Pd.bel_slN,Px.bel_slN,bel_int]
theorem fmt11 {G:List Rg} (hl:G.length≤32) (h:∀g ∈ G,GoodG g):PC Tryz.prog 11 [slG G] (.tup [.str (fmtG G).1,.int .i64 (fmtG G).2]):=by
 refine pc11 G hl (fun g hg=>good_len (h g hg)) (good_bel h 0) (fun g hg=>?_) pc34 (fun g hg _=>?_) (fun g hg _ _=>?_)
 ·obtain ⟨p,q,_,⟨e1,e2⟩,_,_⟩:=h g hg
  rw [e1,e2]
  exact ⟨rfl,rfl⟩
 ·obtain ⟨p,q,⟨l1,_⟩,⟨e1,_⟩,h1,_⟩:=h g hg
  rw [e1]
  exact Pd.pc35 p l1 _ _ h1
 ·obtain ⟨p,q,⟨_,l2⟩,⟨_,e2⟩,_,h2⟩:=h g hg
  rw [e2]
  exact Px.pc36 q l2 _ _ h2
theorem fmt12 {G:List Rg} (hl:G.length≤32) (h:∀g ∈ G,GoodG g):PC Tryz.prog 12 [slG G] (.tup [.str (fmtG G).1,.int .i64 (fmtG G).2]):=by
 refine pc12 G hl (fun g hg=>good_len (h g hg)) (good_bel h) (fun g hg=>?_) (fun g hg=>?_) (fun g hg=>?_)
 ·obtain ⟨p,q,_,⟨e1,e2⟩,_,_⟩:=h g hg
  rw [e1,e2]
  exact ⟨rfl,rfl⟩
 ·obtain ⟨p,q,⟨l1,_⟩,⟨e1,_⟩,h1,_⟩:=h g hg
  rw [e1]
  exact Pd.pc43 p l1 _ _ h1
 ·obtain ⟨p,q,⟨_,l2⟩,⟨_,e2⟩,_,h2⟩:=h g hg
  rw [e2]
  exact Px.pc44 q l2 _ _ h2
attribute [local push_cast] encR slR cfg0 ibeq_dec lfl_lenR Nat.mul_one
theorem big11 (l:List Ru) (h:32<l.length):PC Tryz.prog 11 [slR l] (.tup [.str [],.int .i64 12]):=by
 refine PC.walk tok mixed cfg0 Tryz.func11 rfl Tryz.call11 (by simp) (by first | rfl | simp) ?_;refine vms1 Tryz.ntmps11 ?_
 refine endK.retA ?_;simp [evRes,getT,retV,Tryz.f11]
theorem big12 (l:List Ru) (h:32<l.length):PC Tryz.prog 12 [slR l] (.tup [.str [],.int .i64 12]):=by
 refine PC.walk tok mixed cfg0 Tryz.func12 rfl Tryz.call12 (by simp) (by first | rfl | simp) ?_;refine vms1 Tryz.ntmps12 ?_
 refine endK.retA ?_;simp [evRes,getT,retV,Tryz.f12]
theorem good_T {r:Tr} (h:okT r):GoodG (gT r):=by
 obtain ⟨_,⟨h2,h3⟩,h4,h5⟩:=h
 have c1:=Pd.tree_checkP h2 h3
 have c2:=Px.tree_checkP h4 h5
 exact ⟨Pd.flat r.p,Px.flat r.q,⟨by omega,by omega⟩,⟨rfl,rfl⟩,⟨c1.symm,.inl ⟨c1,r.p,h2,rfl,rfl⟩⟩,c2.symm,.inl ⟨c2,r.q,h4,rfl,h5,rfl⟩⟩
theorem bad_T:∀ {T:List Tr},(∀r ∈ T,okT r)→badG (T.map gT)=0
 | [],_=>rfl
 | r::T,h=>by
  obtain ⟨⟨h1,h2⟩,_⟩:=h r (List.mem_cons_self ..)
  have hc:chkG (gT r)=0:=by
   have hh:(hostB (gT r).f&&hostB (gT r).t)=true:=by
    show (hostB r.f&&hostB r.t)=true
    rw [h1,h2];rfl
   rw [chkG,if_pos hh]
   rfl
  rw [List.map_cons,badG,if_pos hc]
  exact bad_T fun r hr=>h r (List.mem_cons_of_mem _ hr)
theorem fmt_T {T:List Tr} (h:∀r ∈ T,okT r) (hl:(txT T).length≤16384):fmtG (T.map gT)=(txT T,0):=by
 rw [fmtG,bad_T h,if_neg (by simp),if_neg (by rw [txT] at hl;omega)]
 rfl
theorem T_of_good:∀ {G:List Rg},(∀g ∈ G,GoodG g)→badG G=0→∃T:List Tr,(∀r ∈ T,okT r)∧G=T.map gT
 | [],_,_=>⟨[],(fun r hr=>by cases hr),rfl⟩
 | g::G,h,hb=>by
  rw [badG] at hb
  split at hb
  case isFalse=>rename_i h0;exact absurd hb h0
  rename_i h0
  obtain ⟨T,hT,e⟩:=T_of_good (fun g hg=>h g (List.mem_cons_of_mem _ hg)) hb
  obtain ⟨p,q,_,⟨e1,e2⟩,f1,f2⟩:=h g (List.mem_cons_self ..)
  obtain ⟨f,t,gp,gq,ps,qs,pe,qe⟩:=g
  simp only at e1 e2 f1 f2
  rw [chkG] at h0
  simp only at h0
  split at h0
  case isFalse=>exact absurd h0 (by decide)
  rename_i hh
  split at h0
  case isFalse=>rename_i hp;exact absurd h0 hp
  rename_i hp
  subst hp h0 e1 e2
  rcases f1.2 with ⟨c1,x,hx,ex,sx⟩ | ⟨c1,_⟩
  case inr=>exact absurd f1.1.symm c1
  rcases f2.2 with ⟨c2,y,hy,ey,l2,sy⟩ | ⟨c2,_⟩
  case inr=>exact absurd f2.1.symm c2
  have l1:=(Pd.checkP_tree c1).1
  subst ex ey sx sy
  refine ⟨⟨f,t,x,y⟩::T,?_,by rw [e];rfl⟩
  intro r hr
  rcases List.mem_cons.1 hr with rfl | hr
  ·exact ⟨by simpa using hh,⟨hx,l1⟩,hy,l2⟩
  ·exact hT r hr
theorem slG_slR {G:List Rg} {l:List Ru} (h1:G.length=l.length) (h2:G.flatMap encG=l.flatMap encR):slG G=slR l:=by
 rw [slG,slR,h1,h2]
theorem slG_T (T:List Tr):slG (T.map gT)=slR (T.map ruT):=by
 refine slG_slR (by simp) ?_
 induction T with
 | nil=>rfl
 | cons r T ih =>
  rw [List.map_cons,List.map_cons,List.flatMap_cons,List.flatMap_cons,ih]
  rfl
end
section
def encPol (r:List Ru × Int × Int):V:=.tup [if r.2.2=0 then slR r.1 else .sl true [] 0,.int .i64 r.2.1,.int .i64 r.2.2]
@[simp] theorem bel_pol {n:Nat} (r:List Ru × Int × Int):(encPol r).bel n=true:=by
 unfold encPol
 split<;>simp [bel_slR]
def parV:Ph→List V
 | .a=>[]
 | .b f t=>[.int .i64 f,.int .i64 t,.sl true [] 0,.sl true [] 0]
 | .c f t p=>[.int .i64 f,.int .i64 t,Pd.slN p,.sl true [] 0]
def parN:Ph→Nat
 | .a=>0
 | .b _ _=>1
 | .c _ _ _=>1
@[simp] theorem bel_par {n:Nat} (ph:Ph):belAll n (parV ph)=true:=by
 cases ph with
 | a=>rfl
 | b f t=>rfl
 | c f t p=>simp [parV,belAll_cons,belAll_nil,Pd.bel_slN,bel_int,bel_sl]
theorem cut_len {c:UInt8}:∀ {s:List UInt8},(cutC c s).1.length≤s.length∧((cutC c s).2.2=true→(cutC c s).2.1.length<s.length)
 | []=>⟨by simp [cutC],by simp [cutC]⟩
 | x::s=>by
  obtain ⟨a,b⟩:=@cut_len c s
  rw [cutC]
  split
  ·exact ⟨by simp,fun _=>by simp⟩
  ·refine ⟨by simpa using a,fun h=>?_⟩
   have:=b h
   simp only [List.length_cons];omega
theorem put_at {y:V}:∀ {a b:List V} {i:Nat},putV (a++b) (a.length+i) [y]=a++putV b i [y]
 | [],b,i=>by rw [List.nil_append,List.nil_append,List.length_nil,Nat.zero_add]
 | x::a,b,i=>by
  rw [List.cons_append,List.length_cons,show a.length+1+i=(a.length+i)+1 by omega]
  show x::putV (a++b) (a.length+i) [y]=_
  rw [put_at]
  rfl
theorem put2 {d:List Ru} {x0 x1 x2 x3 y:V}:putV (d.flatMap encR++[x0,x1,x2,x3]) (d.length*4+2) [y]=d.flatMap encR++[x0,x1,y,x3]:=by
 rw [←len_flat lenR d,put_at]
 rfl
theorem put3 {d:List Ru} {x0 x1 x2 x3 y:V}:putV (d.flatMap encR++[x0,x1,x2,x3]) (d.length*4+3) [y]=d.flatMap encR++[x0,x1,x2,y]:=by
 rw [←len_flat lenR d,put_at]
 rfl
theorem m3_0 (n:Nat):((3*n:Nat):Int).tmod 3=0:=by rw [Int.tmod_eq_emod_of_nonneg (by omega)];omega
theorem m3_1 (n:Nat):((3*n+1:Nat):Int).tmod 3=1:=by rw [Int.tmod_eq_emod_of_nonneg (by omega)];omega
theorem m3_2 (n:Nat):((3*n+2:Nat):Int).tmod 3=2:=by rw [Int.tmod_eq_emod_of_nonneg (by omega)];omega
attribute [local push_cast] encR cfg0 ibeq_dec lfl_lenR Nat.mul_one Pd.slM_nil Px.slM_nil
theorem pc13 (s:List UInt8) (hs:s.length≤4000000000):PC Tryz.prog 13 [.str s] (encPol (polP s)):=by
 refine PC.walk tok mixed cfg0 Tryz.func13 rfl Tryz.call13 (by simp [Pd.bel_slN,Px.bel_slN,Pd.bel_slM,Px.bel_slM,Pd.bel_MI,Px.bel_MI,belAll_append]) (bel_pol _) ?_;refine vms1 Tryz.ntmps13 ?_
 by_cases hl:16384<s.length
 ·have hl2:(16384:Int)<(s.length:Int):=by omega
  rw [polP,if_pos hl]
  refine vms1 hl2 ?_
  refine endK.ret ?_ (by first | rfl | simp [Pd.bel_slN,Px.bel_slN,Pd.bel_slM,Px.bel_slM,Pd.bel_MI,Px.bel_MI,belAll_append]);simp [evRes,getT,retV,Tryz.f13,encPol]
 rw [polP,if_neg hl]
 have hl2:¬(16384:Int)<(s.length:Int):=by omega
 refine vms1 hl2 ?_
 refine T.lp tok mixed cfg0 (fun ((k,n,d,ph,q,ver):Nat × Nat × List Ru × Ph × List UInt8 × Nat)=>sv (.str q) (dd 1 (kp 3 (sv (.buf 0 ver 0 (d.length+parN ph) 4) (sv (.int .i64 n) (dd 78 (nl))))))) (fun H0 ((k,n,d,ph,q,ver):Nat × Nat × List Ru × Ph × List UInt8 × Nat)=>[.cells ver (d.flatMap encR++parV ph)]) (fun ((k,n,d,ph,q,ver):Nat × Nat × List Ru × Ph × List UInt8 × Nat)=>(q.length<k∧n+q.length≤s.length∧n=3*d.length+phN ph∧d.length≤40000)∧polF k n d ph q=polF (s.length+1) 0 [] .a s) (fun ((k,n,d,ph,q,ver):Nat × Nat × List Ru × Ph × List UInt8 × Nat)=>q.length) ((s.length+1,0,[],.a,s,0)) ?_ ?_ ?_
 ·exact ⟨⟨Nat.lt_succ_self _,by simp,rfl,by simp⟩,rfl⟩
 ·refine (Gn.ownNil (t:=5) (sz:=4) rfl).trans ?_
  exact Gn.canon (J:=[]) (by first | rfl | (simp [List.append_nil,parV,Pd.slN,Px.slN];done) | (simp [List.append_nil,parV,Pd.slN,Px.slN];rfl)) (by simp [wk,parN,parV,Pd.slN,Px.slN,putT,kp,dd,sv,nl]) (by simp [List.length_append,parN,parV]) (by simp [Pd.bel_slN,Px.bel_slN,Pd.bel_slM,Px.bel_slM,Pd.bel_MI,Px.bel_MI,belAll_append,kp,dd,sv,nl]) (by simp [Pd.bel_slN,Px.bel_slN,Pd.bel_slM,Px.bel_slM,Pd.bel_MI,Px.bel_MI,belAll_append])
 rintro ⟨k,n,d,ph,q,ver⟩ ⟨⟨hk,hn,hph,hd⟩,hp⟩
 (try simp only at hk hn hph hd hp)
 obtain ⟨k,rfl⟩:∃g,k=g+1:=⟨k-1,by omega⟩
 rw [polF] at hp
 by_cases hq:q=[]
 ·rw [if_pos hq] at hp
  subst hq
  rw [←hp]
  cases ph with
  | a =>
   have h3:=m3_0 d.length
   rw [phN,Nat.add_zero] at hph
   rw [←hph] at h3
   refine vms1 h3 ?_
   refine endK.gn (Gn.freeze (id:=0) rfl) ?_;refine endK.ret ?_ (by first | rfl | simp [Pd.bel_slN,Px.bel_slN,Pd.bel_slM,Px.bel_slM,Pd.bel_MI,Px.bel_MI,belAll_append]);simp [Pd.bel_slN,Px.bel_slN,Pd.bel_slM,Px.bel_slM,Pd.bel_MI,Px.bel_MI,belAll_append,fzs_ok,imp,lenOK_iff,List.take_of_length_le,evRes,getT,getO,setO,fzs,fz,fzH,Nat.beq,retV,Res.then,ldT,ldR,mkV,getV,tt_3,tt_4,tt_5,tt_9,tt_22,tt_25,tt_54,tt_58,tt_60,encR,cfg0,ibeq_dec,len_flat lenR,Nat.mul_one,Pd.slM_nil,Px.slM_nil,Tryz.f13,encPol,endP,slR,parV,parN]
  | b f t =>
   have h3:=m3_1 d.length
   rw [phN] at hph
   rw [←hph] at h3
   refine vms1 h3 ?_
   refine endK.ret ?_ (by first | rfl | simp [Pd.bel_slN,Px.bel_slN,Pd.bel_slM,Px.bel_slM,Pd.bel_MI,Px.bel_MI,belAll_append]);simp [Pd.bel_slN,Px.bel_slN,Pd.bel_slM,Px.bel_slM,Pd.bel_MI,Px.bel_MI,belAll_append,fzs_ok,imp,lenOK_iff,List.take_of_length_le,evRes,getT,getO,setO,fzs,fz,fzH,Nat.beq,retV,Res.then,ldT,ldR,mkV,getV,tt_3,tt_4,tt_5,tt_9,tt_22,tt_25,tt_54,tt_58,tt_60,encR,cfg0,ibeq_dec,len_flat lenR,Nat.mul_one,Pd.slM_nil,Px.slM_nil,Tryz.f13,encPol,endP]
  | c f t p =>
   have h3:=m3_2 d.length
   rw [phN] at hph
   rw [←hph] at h3
   refine vms1 h3 ?_
   refine endK.ret ?_ (by first | rfl | simp [Pd.bel_slN,Px.bel_slN,Pd.bel_slM,Px.bel_slM,Pd.bel_MI,Px.bel_MI,belAll_append]);simp [Pd.bel_slN,Px.bel_slN,Pd.bel_slM,Px.bel_slM,Pd.bel_MI,Px.bel_MI,belAll_append,fzs_ok,imp,lenOK_iff,List.take_of_length_le,evRes,getT,getO,setO,fzs,fz,fzH,Nat.beq,retV,Res.then,ldT,ldR,mkV,getV,tt_3,tt_4,tt_5,tt_9,tt_22,tt_25,tt_54,tt_58,tt_60,encR,cfg0,ibeq_dec,len_flat lenR,Nat.mul_one,Pd.slM_nil,Px.slM_nil,Tryz.f13,encPol,endP]
 rw [if_neg hq] at hp
 have h46:=pc46 q 10 (by omega)
 obtain ⟨c1,c2⟩:=@cut_len 10 q
 generalize cutC 10 q=r at hp h46 c1 c2
 obtain ⟨tx,rs,ok⟩:=r
 simp only at hp c1 c2
 cases ok with
 | false =>
  rw [if_neg (by decide)] at hp
  rw [←hp]
  refine vms1 hq ?_
  refine callO.pc h46 ?_
  simp (maxSteps:=2000000) -implicitDefEqProofs +contextual (disch:=first | assumption | omega | decide +kernel) only [push_cast,↓capI,seval,Nat.reduceLeDiff,Nat.reduceEqDiff,reduceCtorEq,↓reduceIte,encCut]
  refine endK.ret ?_ (by first | rfl | simp [Pd.bel_slN,Px.bel_slN,Pd.bel_slM,Px.bel_slM,Pd.bel_MI,Px.bel_MI,belAll_append]);simp [Pd.bel_slN,Px.bel_slN,Pd.bel_slM,Px.bel_slM,Pd.bel_MI,Px.bel_MI,belAll_append,fzs_ok,imp,lenOK_iff,List.take_of_length_le,evRes,getT,getO,setO,fzs,fz,fzH,Nat.beq,retV,Res.then,ldT,ldR,mkV,getV,tt_3,tt_4,tt_5,tt_9,tt_22,tt_25,tt_54,tt_58,tt_60,encR,cfg0,ibeq_dec,len_flat lenR,Nat.mul_one,Pd.slM_nil,Px.slM_nil,Tryz.f13,encPol]
 | true =>
 rw [if_pos rfl] at hp
 have c3:=c2 rfl
 cases ph with
 | a =>
  have h3:=m3_0 d.length
  rw [phN,Nat.add_zero] at hph
  rw [←hph] at h3
  rw [stepP] at hp
  by_cases h32:32≤d.length
  ·rw [if_pos h32] at hp
   rw [if_neg (by simp)] at hp
   rw [←hp]
   refine vms1 hq ?_
   refine callO.pc h46 ?_
   simp (maxSteps:=2000000) -implicitDefEqProofs +contextual (disch:=first | assumption | omega | decide +kernel) only [push_cast,↓capI,seval,Nat.reduceLeDiff,Nat.reduceEqDiff,reduceCtorEq,↓reduceIte,encCut,h3,h32,parN]
   refine endK.ret ?_ (by first | rfl | simp [Pd.bel_slN,Px.bel_slN,Pd.bel_slM,Px.bel_slM,Pd.bel_MI,Px.bel_MI,belAll_append]);simp [Pd.bel_slN,Px.bel_slN,Pd.bel_slM,Px.bel_slM,Pd.bel_MI,Px.bel_MI,belAll_append,fzs_ok,imp,lenOK_iff,List.take_of_length_le,evRes,getT,getO,setO,fzs,fz,fzH,Nat.beq,retV,Res.then,ldT,ldR,mkV,getV,tt_3,tt_4,tt_5,tt_9,tt_22,tt_25,tt_54,tt_58,tt_60,encR,cfg0,ibeq_dec,len_flat lenR,Nat.mul_one,Pd.slM_nil,Px.slM_nil,Tryz.f13,encPol]
  rw [if_neg h32] at hp
  have h47:=pc47 tx (by omega)
  rw [encTit] at h47
  generalize titE tx=e at h47 hp
  obtain ⟨f,t,e⟩:=e
  simp only at h47 hp
  refine vms1 hq ?_
  refine callO.pc h46 ?_
  simp (maxSteps:=2000000) -implicitDefEqProofs +contextual (disch:=first | assumption | omega | decide +kernel) only [push_cast,↓capI,seval,Nat.reduceLeDiff,Nat.reduceEqDiff,reduceCtorEq,↓reduceIte,encCut,h3,h32,parN,parV]
  refine callO.pc h47 ?_
  by_cases he:e=0
  ·subst he
   rw [if_pos rfl] at hp
   refine vms0 ?_
   refine ⟨(k,n+1,d,.b f t,rs,ver+1),⟨⟨by simp only;omega,by simp only;omega,by simp only [phN];omega,hd⟩,hp⟩,by simp only;omega,?_⟩
   exact Gn.canon (by first | rfl | (simp [List.append_nil,parV,Pd.slN,Px.slN,parV];done) | (simp [List.append_nil,parV,Pd.slN,Px.slN,parV];rfl)) (by simp [wk,parN,parV,Pd.slN,Px.slN,parN]) (by simp [List.length_append,parN,parV]) (by simp [Pd.bel_slN,Px.bel_slN,Pd.bel_slM,Px.bel_slM,Pd.bel_MI,Px.bel_MI,belAll_append]) (by simp [Pd.bel_slN,Px.bel_slN,Pd.bel_slM,Px.bel_slM,Pd.bel_MI,Px.bel_MI,belAll_append])
  ·rw [if_neg he] at hp
   rw [←hp]
   refine vms1 he ?_
   refine endK.ret ?_ (by first | rfl | simp [Pd.bel_slN,Px.bel_slN,Pd.bel_slM,Px.bel_slM,Pd.bel_MI,Px.bel_MI,belAll_append]);simp [Pd.bel_slN,Px.bel_slN,Pd.bel_slM,Px.bel_slM,Pd.bel_MI,Px.bel_MI,belAll_append,fzs_ok,imp,lenOK_iff,List.take_of_length_le,evRes,getT,getO,setO,fzs,fz,fzH,Nat.beq,retV,Res.then,ldT,ldR,mkV,getV,tt_3,tt_4,tt_5,tt_9,tt_22,tt_25,tt_54,tt_58,tt_60,encR,cfg0,ibeq_dec,len_flat lenR,Nat.mul_one,Pd.slM_nil,Px.slM_nil,Tryz.f13,encPol,he]
 | b f t =>
  have h3:=m3_1 d.length
  rw [phN] at hph
  rw [←hph] at h3
  rw [stepP] at hp
  have h48:=Pd.pc48 tx
  rw [Pd.encMI] at h48
  rcases Pd.parP_cases tx with ⟨p,hok,h24,htx,ep⟩ | ⟨e1,e2⟩
  ·rw [ep] at h48 hp
   simp only [if_true] at h48 hp
   rw [Pd.slM_cons (Pd.flat_ne p)] at h48
   refine vms1 hq ?_
   refine callO.pc h46 ?_
   simp (maxSteps:=2000000) -implicitDefEqProofs +contextual (disch:=first | assumption | omega | decide +kernel) only [push_cast,↓capI,seval,Nat.reduceLeDiff,Nat.reduceEqDiff,reduceCtorEq,↓reduceIte,encCut,h3,parN,parV]
   refine callO.pc h48 ?_
   simp (maxSteps:=2000000) -implicitDefEqProofs +contextual (disch:=first | assumption | omega | decide +kernel) only [push_cast,↓capI,seval,Nat.reduceLeDiff,Nat.reduceEqDiff,reduceCtorEq,↓reduceIte,Pd.slN,Int.add_sub_cancel,Int.toNat_natCast,put2]
   refine ⟨(k,n+1,d,.c f t (Pd.flat p),rs,ver),⟨⟨by simp only;omega,by simp only;omega,by simp only [phN];omega,hd⟩,hp⟩,by simp only;omega,?_⟩
   exact Gn.canon (by first | rfl | (simp [List.append_nil,parV,Pd.slN,Px.slN,parV];done) | (simp [List.append_nil,parV,Pd.slN,Px.slN,parV];rfl)) (by simp [wk,parN,parV,Pd.slN,Px.slN,parN]) (by simp [List.length_append,parN,parV]) (by simp [Pd.bel_slN,Px.bel_slN,Pd.bel_slM,Px.bel_slM,Pd.bel_MI,Px.bel_MI,belAll_append]) (by simp [Pd.bel_slN,Px.bel_slN,Pd.bel_slM,Px.bel_slM,Pd.bel_MI,Px.bel_MI,belAll_append])
  ·rw [e1] at h48
   rw [if_neg e2] at hp
   rw [←hp]
   refine vms1 hq ?_
   refine callO.pc h46 ?_
   simp (maxSteps:=2000000) -implicitDefEqProofs +contextual (disch:=first | assumption | omega | decide +kernel) only [push_cast,↓capI,seval,Nat.reduceLeDiff,Nat.reduceEqDiff,reduceCtorEq,↓reduceIte,encCut,h3,parN,parV]
   refine callO.pc h48 ?_
   simp (maxSteps:=2000000) -implicitDefEqProofs +contextual (disch:=first | assumption | omega | decide +kernel) only [push_cast,↓capI,seval,Nat.reduceLeDiff,Nat.reduceEqDiff,reduceCtorEq,↓reduceIte,e2]
   refine endK.ret ?_ (by first | rfl | simp [Pd.bel_slN,Px.bel_slN,Pd.bel_slM,Px.bel_slM,Pd.bel_MI,Px.bel_MI,belAll_append]);simp [Pd.bel_slN,Px.bel_slN,Pd.bel_slM,Px.bel_slM,Pd.bel_MI,Px.bel_MI,belAll_append,fzs_ok,imp,lenOK_iff,List.take_of_length_le,evRes,getT,getO,setO,fzs,fz,fzH,Nat.beq,retV,Res.then,ldT,ldR,mkV,getV,tt_3,tt_4,tt_5,tt_9,tt_22,tt_25,tt_54,tt_58,tt_60,encR,cfg0,ibeq_dec,len_flat lenR,Nat.mul_one,Pd.slM_nil,Px.slM_nil,Tryz.f13,encPol,e2]
 | c f t p =>
  have h3:=m3_2 d.length
  rw [phN] at hph
  rw [←hph] at h3
  rw [stepP] at hp
  have h49:=Px.pc49 tx
  rw [Px.encMI] at h49
  rcases Px.parP_cases tx with ⟨x,hok,h24,htx,ep⟩ | ⟨e1,e2⟩
  ·rw [ep] at h49 hp
   simp only [if_true] at h49 hp
   rw [Px.slM_cons (Px.flat_ne x)] at h49
   refine vms1 hq ?_
   refine callO.pc h46 ?_
   simp (maxSteps:=2000000) -implicitDefEqProofs +contextual (disch:=first | assumption | omega | decide +kernel) only [push_cast,↓capI,seval,Nat.reduceLeDiff,Nat.reduceEqDiff,reduceCtorEq,↓reduceIte,encCut,h3,parN,parV]
   refine callO.pc h49 ?_
   simp (maxSteps:=2000000) -implicitDefEqProofs +contextual (disch:=first | assumption | omega | decide +kernel) only [push_cast,↓capI,seval,Nat.reduceLeDiff,Nat.reduceEqDiff,reduceCtorEq,↓reduceIte,Px.slN,Pd.slN,Int.add_sub_cancel,Int.toNat_natCast,put3]
   refine ⟨(k,n+1,d++[⟨f,t,p,Px.flat x⟩],.a,rs,ver),⟨⟨by simp only;omega,by simp only;omega,by simp [phN];omega,by simp;omega⟩,hp⟩,by simp only;omega,?_⟩
   exact Gn.canon (by first | rfl | (simp [List.append_nil,parV,Pd.slN,Px.slN,parV,encR];done) | (simp [List.append_nil,parV,Pd.slN,Px.slN,parV,encR];rfl)) (by simp [wk,parN,parV,Pd.slN,Px.slN,parN]) (by simp [List.length_append,parN,parV]) (by simp [Pd.bel_slN,Px.bel_slN,Pd.bel_slM,Px.bel_slM,Pd.bel_MI,Px.bel_MI,belAll_append]) (by simp [Pd.bel_slN,Px.bel_slN,Pd.bel_slM,Px.bel_slM,Pd.bel_MI,Px.bel_MI,belAll_append])
  ·rw [e1] at h49
   rw [if_neg e2] at hp
   rw [←hp]
   refine vms1 hq ?_
   refine callO.pc h46 ?_
   simp (maxSteps:=2000000) -implicitDefEqProofs +contextual (disch:=first | assumption | omega | decide +kernel) only [push_cast,↓capI,seval,Nat.reduceLeDiff,Nat.reduceEqDiff,reduceCtorEq,↓reduceIte,encCut,h3,parN,parV]
   refine callO.pc h49 ?_
   simp (maxSteps:=2000000) -implicitDefEqProofs +contextual (disch:=first | assumption | omega | decide +kernel) only [push_cast,↓capI,seval,Nat.reduceLeDiff,Nat.reduceEqDiff,reduceCtorEq,↓reduceIte,e2]
   refine endK.ret ?_ (by first | rfl | simp [Pd.bel_slN,Px.bel_slN,Pd.bel_slM,Px.bel_slM,Pd.bel_MI,Px.bel_MI,belAll_append]);simp [Pd.bel_slN,Px.bel_slN,Pd.bel_slM,Px.bel_slM,Pd.bel_MI,Px.bel_MI,belAll_append,fzs_ok,imp,lenOK_iff,List.take_of_length_le,evRes,getT,getO,setO,fzs,fz,fzH,Nat.beq,retV,Res.then,ldT,ldR,mkV,getV,tt_3,tt_4,tt_5,tt_9,tt_22,tt_25,tt_54,tt_58,tt_60,encR,cfg0,ibeq_dec,len_flat lenR,Nat.mul_one,Pd.slM_nil,Px.slM_nil,Tryz.f13,encPol,e2]
end
section
def smallR (l:List Ru):Bool:=decide (l.length≤60)&&l.all fun r=>decide (r.p.length≤60)&&decide (r.q.length≤60)
theorem small_iff {l:List Ru}:smallR l=true↔l.length≤60∧∀r ∈ l,r.p.length≤60∧r.q.length≤60:=by
 unfold smallR
 simp only [Bool.and_eq_true,decide_eq_true_eq,List.all_eq_true]
attribute [local push_cast] encR slR cfg0 gfp_lenR gfd_lenR lfl_lenR Nat.mul_one Pd.slN Px.slN Pd.encF
theorem pc9 (l:List Ru):PC Tryz.prog 9 [slR l] (.bool (smallR l)):=by
 by_cases h60:60<l.length
 ·have hs:smallR l=false:=by
   rw [←Bool.not_eq_true,small_iff]
   omega
  refine PC.walk tok mixed cfg0 Tryz.func9 rfl Tryz.call9 (by simp [Pd.bel_slN,Px.bel_slN,Pd.bel_Ns,Px.bel_Ns,belAll_append,Pd.belF]) (by first | rfl | simp [Pd.bel_slN,Px.bel_slN,Pd.bel_Ns,Px.bel_Ns,belAll_append,Pd.belF]) ?_;refine vms1 Tryz.ntmps9 ?_
  refine endK.ret ?_ (by first | rfl | simp [Pd.bel_slN,Px.bel_slN,Pd.bel_Ns,Px.bel_Ns,belAll_append,Pd.belF]);simp [evRes,getT,retV,Tryz.f9,hs]
 have hl:l.length≤60:=by omega
 refine PC.walk tok mixed cfg0 Tryz.func9 rfl Tryz.call9 (by simp [Pd.bel_slN,Px.bel_slN,Pd.bel_Ns,Px.bel_Ns,belAll_append,Pd.belF]) (by first | rfl | simp [Pd.bel_slN,Px.bel_slN,Pd.bel_Ns,Px.bel_Ns,belAll_append,Pd.belF]) ?_;refine vms1 Tryz.ntmps9 ?_
 refine T.lp tok mixed cfg0 (fun (i:Nat)=>kp 1 (dd 2 (sv (.int .i64 i) (dd 25 (nl))))) (fun H0 (i:Nat)=>[]) (fun (i:Nat)=>i≤l.length∧∀j,j<i→∀h:j<l.length,l[j].p.length≤60∧l[j].q.length≤60) (fun (i:Nat)=>l.length-i) (0) ?_ ?_ ?_
 ·exact ⟨Nat.zero_le _,fun j hj=>absurd hj (Nat.not_lt_zero j)⟩
 ·exact Gn.canon (J:=[]) (by first | rfl | (simp [List.append_nil];done) | (simp [List.append_nil];rfl)) (by simp [wk,slR,sum0,Pd.slN,Px.slN,putT,kp,dd,sv,nl]) (by simp [List.length_append]) (by simp [Pd.bel_slN,Px.bel_slN,Pd.bel_Ns,Px.bel_Ns,belAll_append,Pd.belF,kp,dd,sv,nl]) (by simp [Pd.bel_slN,Px.bel_slN,Pd.bel_Ns,Px.bel_Ns,belAll_append,Pd.belF])
 rintro i ⟨hi,hall⟩
 by_cases hlt:i<l.length
 ·by_cases hp:l[i].p.length≤60
  ·have hp2:¬60<l[i].p.length:=by omega
   by_cases hq:l[i].q.length≤60
   ·have hq2:¬60<l[i].q.length:=by omega
    refine vms3 hlt hp2 hq2 ?_
    refine ⟨i+1,⟨by omega,fun j hj h=>by
     by_cases e:j=i
     ·subst e;exact ⟨hp,hq⟩
     ·exact hall j (by omega) h⟩,by (try simp only);omega,?_⟩;exact Gn.canon (by first | rfl | (simp [List.append_nil];rfl)) (by simp [wk,slR,sum0,Pd.slN,Px.slN]) (by simp [List.length_append]) (by simp [Pd.bel_slN,Px.bel_slN,Pd.bel_Ns,Px.bel_Ns,belAll_append,Pd.belF]) (by simp [Pd.bel_slN,Px.bel_slN,Pd.bel_Ns,Px.bel_Ns,belAll_append,Pd.belF])
   ·have hq2:60<l[i].q.length:=by omega
    have hs:smallR l=false:=by
     rw [←Bool.not_eq_true,small_iff]
     intro h
     exact hq (h.2 _ (List.getElem_mem hlt)).2
    refine vms3 hlt hp2 hq2 ?_
    refine endK.ret ?_ (by first | rfl | simp [Pd.bel_slN,Px.bel_slN,Pd.bel_Ns,Px.bel_Ns,belAll_append,Pd.belF]);simp [evRes,getT,retV,Tryz.f9,hs]
  ·have hp2:60<l[i].p.length:=by omega
   have hs:smallR l=false:=by
    rw [←Bool.not_eq_true,small_iff]
    intro h
    exact hp (h.2 _ (List.getElem_mem hlt)).1
   refine vms2 hlt hp2 ?_
   refine endK.ret ?_ (by first | rfl | simp [Pd.bel_slN,Px.bel_slN,Pd.bel_Ns,Px.bel_Ns,belAll_append,Pd.belF]);simp [evRes,getT,retV,Tryz.f9,hs]
 have hi':i=l.length:=by omega
 have hs:smallR l=true:=by
  rw [small_iff]
  refine ⟨by omega,fun r hr=>?_⟩
  obtain ⟨j,hj,rfl⟩:=List.getElem_of_mem hr
  exact hall j (by omega) hj
 refine vms1 hlt ?_
 refine endK.ret ?_ (by first | rfl | simp [Pd.bel_slN,Px.bel_slN,Pd.bel_Ns,Px.bel_Ns,belAll_append,Pd.belF]);simp [evRes,getT,retV,Tryz.f9,hs]
noncomputable def encIB (r:Nat × Bool):V:=.tup [.int .i64 r.1,.bool r.2]
end
end Go.Proofs.YtlbmbbaefncleaaGreatDoor
namespace Go.Proofs.YtlbmbbaefncleaaGreatDoor
open Go.Vm Go.ChangeShapes Go.WideShapes Go.ChangeAt Go.RowKit
theorem own:ownKnob Tryz.prog.godebug=none:=by kernel_rfl
theorem laidOut:laidOutB Tryz.prog=true:=by kernel_rfl
theorem u8_byte {i:Int} (h1:IntKind.u8.min≤i) (h2:i≤IntKind.u8.max):∃x:UInt8,i=(x.toNat:Int):=by
 have e1:(0:Int)≤i:=h1
 have e2:i≤255:=h2
 refine ⟨UInt8.ofNat i.toNat,?_⟩
 rw [UInt8.toNat_ofNat',Nat.mod_eq_of_lt (by omega)]
 omega
theorem typ_B {m:Nat} (c:List V) (h:Typ tt (m+1) 5 c):∃x:UInt8,laxs c=[.int .u8 x.toNat]∧True:=by
 obtain ⟨a,rfl,h1,h2⟩:=typ_int (by rw [tt_5]) h
 obtain ⟨x,rfl⟩:=u8_byte h1 h2
 exact ⟨x,rfl,trivial⟩
theorem typ_I {m:Nat} (c:List V) (h:Typ tt (m+1) 3 c):∃x:Int,laxs c=[.int .i64 x]∧True:=by
 obtain ⟨a,rfl,_⟩:=typ_int (by rw [tt_3]) h
 exact ⟨a,rfl,trivial⟩
theorem typ_N {m:Nat} (c:List V) (h:Typ tt (m+2) 104 c):∃x:Pd.Nd,laxs c=Pd.encN x∧True:=by
 have h:=typ_struct (by rw [tt_104]) h
 obtain ⟨c1,r1,rfl,h1,h⟩:=typF_cons h
 obtain ⟨c2,r2,rfl,h2,h⟩:=typF_cons h
 obtain ⟨c3,r3,rfl,h3,h⟩:=typF_cons h
 obtain ⟨c4,r4,rfl,h4,h⟩:=typF_cons h
 obtain rfl:=typF_nil h
 obtain ⟨a,ha,_⟩:=typ_I _ h1
 obtain ⟨b,hb,_⟩:=typ_I _ h2
 obtain ⟨v,hv,_⟩:=typ_B _ h3
 obtain ⟨w,hw,_⟩:=typ_B _ h4
 refine ⟨⟨a,b,v,w⟩,?_,trivial⟩
 rw [laxs_append,laxs_append,laxs_append,laxs_append,ha,hb,hv,hw]
 rfl
theorem typ_P {m:Nat} (c:List V) (h:Typ tt (m+2) 65 c):∃x:Px.Nd,laxs c=Px.encN x∧True:=by
 have h:=typ_struct (by rw [tt_65]) h
 obtain ⟨c1,r1,rfl,h1,h⟩:=typF_cons h
 obtain ⟨c2,r2,rfl,h2,h⟩:=typF_cons h
 obtain rfl:=typF_nil h
 obtain ⟨a,ha,_⟩:=typ_I _ h1
 obtain ⟨b,hb,_⟩:=typ_I _ h2
 refine ⟨⟨a,b⟩,?_,trivial⟩
 rw [laxs_append,laxs_append,ha,hb]
 rfl
theorem typ_sN {m:Nat} {c:List V} (h:Typ tt (m+3) 54 c):∃l:List Pd.Nd,laxs c=[Pd.slN l]:=by
 obtain ⟨l,hl,_,_⟩:=typ_slice (by rw [tt_54]) typ_N h
 exact ⟨l,hl⟩
theorem typ_sP {m:Nat} {c:List V} (h:Typ tt (m+3) 58 c):∃l:List Px.Nd,laxs c=[Px.slN l]:=by
 obtain ⟨l,hl,_,_⟩:=typ_slice (by rw [tt_58]) typ_P h
 exact ⟨l,hl⟩
theorem typ_R {m:Nat} (c:List V) (h:Typ tt (m+4) 60 c):∃x:Ru,laxs c=encR x∧True:=by
 have h:=typ_struct (by rw [tt_60]) h
 obtain ⟨c1,r1,rfl,h1,h⟩:=typF_cons h
 obtain ⟨c2,r2,rfl,h2,h⟩:=typF_cons h
 obtain ⟨c3,r3,rfl,h3,h⟩:=typF_cons h
 obtain ⟨c4,r4,rfl,h4,h⟩:=typF_cons h
 obtain rfl:=typF_nil h
 obtain ⟨a,ha,_⟩:=typ_I _ h1
 obtain ⟨b,hb,_⟩:=typ_I _ h2
 obtain ⟨p,hp⟩:=typ_sN h3
 obtain ⟨q,hq⟩:=typ_sP h4
 refine ⟨⟨a,b,p,q⟩,?_,trivial⟩
 rw [laxs_append,laxs_append,laxs_append,laxs_append,ha,hb,hp,hq]
 rfl
theorem laxs_one {cs:List V} {y:V} (h:laxs cs=[y]):∃x,cs=[x]∧lax x=y:=by
 match cs,h with
 | [],h=>cases h
 | [x],h=>simp only [laxs,List.cons.injEq,and_true] at h;exact ⟨x,rfl,h⟩
 | x::y::r,h=>simp [laxs] at h
theorem typ_slR {m:Nat} {c:List V} (h:Typ tt (m+5) 22 c):∃l:List Ru,lax (mkV (tt 22) c)=slR l:=by
 obtain ⟨l,hl,_,_⟩:=typ_slice (by rw [tt_22]) typ_R h
 obtain ⟨x,rfl,hx⟩:=laxs_one hl
 refine ⟨l,?_⟩
 rw [tt_22]
 exact hx
theorem spec_one {s:ChangeSpec} {H:Type} (h:s.fn H=fun | [d]=>{ results:=[.lit (.bool true)],args:=[d] } | _=>Rows.none) (ds:List (DataW H)) (hl:ds.length=1) :
  s.fn H ds = { results:=[.lit (.bool true)],args:=ds }:=by
 rw [h]
 match ds,hl with
 | [d],_=>rfl
end Go.Proofs.YtlbmbbaefncleaaGreatDoor
namespace Go.Proofs.YtlbmbbaefncleaaGreatDoor
open Go.Vm
attribute [local push_cast] cfg0 ibeq_dec lfl_lenR Nat.mul_one
theorem fm3 (l:List Ru):PC Tryz.prog 3 [slR l] (.bool true):=by
 refine PC.walk tok mixed cfg0 Tryz.func3 rfl Tryz.call3 (by simp) (by first | rfl | simp) ?_;refine vms1 Tryz.ntmps3 ?_
 refine callO.pc (pc9 l) ?_
 cases hsa:smallR l
 ·refine vms1 hsa ?_
  refine callO.pc pc10 ?_
  refine vms1 hsa ?_
  refine endK.retA ?_;simp [evRes,getT,retV,Tryz.f3]
 obtain ⟨ha1,ha2⟩:=small_iff.1 hsa
 refine vms1 hsa ?_
 by_cases h32:32<l.length
 ·refine callO.pc (big11 l h32) ?_
  refine vms0 ?_
  refine callO.pc (big12 l h32) ?_
  refine vms0 ?_
  refine callO.pc pc10 ?_
  refine vms0 ?_
  refine endK.retA ?_;simp [evRes,getT,retV,Tryz.f3]
 obtain ⟨G,g1,g2,g3⟩:=rg_ex l ha2
 have h11:=fmt11 (by omega) g3
 have h12:=fmt12 (by omega) g3
 rw [slG_slR g1 g2] at h11 h12
 by_cases h0:(fmtG G).2=0
 case neg =>
  refine callO.pc h11 ?_
  refine vms0 ?_
  refine callO.pc h12 ?_
  refine vms1 h0 ?_
  refine callO.pc pc10 ?_
  refine vms0 ?_
  refine endK.retA ?_;simp [evRes,getT,retV,Tryz.f3]
 have hb:badG G=0:=by
  apply Decidable.byContradiction
  intro hb
  rw [fmtG,if_pos hb] at h0
  exact hb h0
 obtain ⟨T,hT,e⟩:=T_of_good g3 hb
 have hlen:(txT T).length≤16384:=by
  apply Decidable.byContradiction
  intro hn
  rw [fmtG,if_neg (by omega),if_pos (by rw [e];exact Nat.lt_of_not_le hn)] at h0
  exact absurd h0 (by decide)
 have hTl:T.length=l.length:=by rw [←g1,e,List.length_map]
 rw [e,fmt_T hT hlen] at h11 h12
 have h13:=pc13 (txT T) (by omega)
 rw [polP_tx hT (by omega) hlen] at h13
 have hcl:∀r ∈ T.map clT,okT r:=by
  intro r hr
  obtain ⟨x,hx,rfl⟩:=List.mem_map.1 hr
  exact cl_okT (hT x hx)
 have h11b:=fmt11 (G:=(T.map clT).map gT) (by simp;omega) (fun g hg=>by
  obtain ⟨x,hx,rfl⟩:=List.mem_map.1 hg
  exact good_T (hcl x hx))
 rw [slG_T,fmt_T hcl (by rw [cl_txT hT];exact hlen),cl_txT hT] at h11b
 have hml:((T.map clT).map ruT).length=l.length:=by simp [hTl]
 rw [encPol] at h13
 simp only [if_true] at h13
 generalize (T.map clT).map ruT=m at h13 h11b hml
 generalize txT T=s at h11 h12 h13 h11b
 refine callO.pc h11 ?_
 refine vms0 ?_
 refine callO.pc h12 ?_
 refine vms0 ?_
 refine callO.pc h13 ?_
 refine vms0 ?_
 refine callO.pc h11b ?_
 simp (maxSteps:=2000000) -implicitDefEqProofs +contextual (disch:=first | assumption | omega | decide +kernel) only [push_cast,↓capI,seval,Nat.reduceLeDiff,Nat.reduceEqDiff,reduceCtorEq,↓reduceIte,hml,slR]
 refine callO.pc pc10 ?_
 refine vms0 ?_
 refine endK.retA ?_;simp [evRes,getT,retV,Tryz.f3]
theorem law3 (xs:List V) (h:TypA tt 8 [22] xs):PC Tryz.prog 3 xs (.bool true):=by
 obtain ⟨v1,vs,c1,rfl,rfl,h1,h⟩:=typA_cons h
 obtain rfl:=typA_nil h
 obtain ⟨a,ha⟩:=typ_slR h1
 refine PC.lax ?_
 rw [laxs,laxs,ha]
 exact fm3 a
end Go.Proofs.YtlbmbbaefncleaaGreatDoor
namespace Go.Proofs.YtlbmbbaefncleaaGreatDoor
open Go Go.Vm Go.ChangeShapes Go.WideShapes Go.ChangeAt Go.RowKit
abbrev LL:List (String × DataW Unit):=Rows.policyFormatsRow.laid
theorem gPow:Tryz.prog.globalNamed "internal/strconv.uint64pow10" = some 1:=by kernel_rfl
theorem tPow:(Tryz.prog.globals[1]?).map (·.type)=some 299:=by kernel_rfl
theorem gl1:(GlobTab.gl 1:Option (List (IntKind × Int)))=some [(.u64,1),(.u64,10),(.u64,100),(.u64,1000),(.u64,10000),(.u64,100000),(.u64,1000000),(.u64,10000000),(.u64,100000000),(.u64,1000000000),(.u64,10000000000),(.u64,100000000000),(.u64,1000000000000),(.u64,10000000000000),(.u64,100000000000000),(.u64,1000000000000000),(.u64,10000000000000000),(.u64,100000000000000000),(.u64,1000000000000000000),(.u64,10000000000000000000)]:=rfl
theorem gt_of_laid {W:World} (h:laidMetH Tryz.prog LL W):GT (fun _=>False) W:=by
 rw [MakeChecks.laidMetH_plain _ _ _ (by kernel_rfl)] at h
 obtain ⟨g',t',cs,fuel,p,hg',ht',hvar,hd⟩:=Lib.laidMet.reads h (n:= "internal/strconv.uint64pow10") (d:=Rows.laid_internal_strconv_uint64pow10) (by simp [LL,Rows.policyFormatsRow])
 obtain rfl:=Option.some.inj (gPow.symm.trans hg')
 obtain rfl:=Option.some.inj (tPow.symm.trans ht')
 have hc:=Lib.cells_of_tab (k:=.u64) (zs:=[1,10,100,1000,10000,100000,1000000,10000000,100000000,1000000000,10000000000,100000000000,1000000000000,10000000000000,100000000000000,1000000000000000,10000000000000000,100000000000000000,1000000000000000000,10000000000000000000])
  (show Tryz.prog.underlying 299=some (.array 20 128) by kernel_rfl) (show Tryz.prog.underlying 128=some (.int .u64) by kernel_rfl) (by kernel_rfl) (by kernel_rfl) hd
 have hcell:=World.var?_cell hg' hvar
 intro g l hgl
 have h0:g=1∧l=[(.u64,1),(.u64,10),(.u64,100),(.u64,1000),(.u64,10000),(.u64,100000),(.u64,1000000),(.u64,10000000),(.u64,100000000),(.u64,1000000000),(.u64,10000000000),(.u64,100000000000),(.u64,1000000000000),(.u64,10000000000000),(.u64,100000000000000),(.u64,1000000000000000),(.u64,10000000000000000),(.u64,100000000000000000),(.u64,1000000000000000000),(.u64,10000000000000000000)]:=by
  match g,hgl with
  | 0,hgl=>cases hgl
  | 1,hgl=>rw [gl1] at hgl;exact ⟨rfl,(Option.some.inj hgl).symm⟩
  | g+2,hgl=>cases hgl
 obtain ⟨rfl,rfl⟩:=h0
 have hcs:CellsAt W 1 0 cs.toList:=by
  intro i v hv
  rw [Nat.zero_add,hcell i,←hv,Array.getElem?_toList]
 refine ⟨?_,fun h=>h,?_⟩
 ·have h1:=hcell 0
  have h2:cs[0]? = some (.int .u64 1):=by rw [←Array.getElem?_toList,hc];rfl
  rw [h2] at h1
  apply Decidable.byContradiction
  intro hn
  unfold World.cell? at h1
  rw [Array.getElem?_eq_none (by simp only;omega)] at h1
  cases h1
 ·rw [hc] at hcs
  exact hcs
noncomputable def laidWorld (os:Os):World :=
 { World.doorLaid Tryz.prog 34 os with heap:=(World.doorLaid Tryz.prog 34 os).heap.modify 2 fun
   | .cells _ t frozen=>.cells (Pinned.utf8FirstZ.map fun (n:Nat)=>Value.int .u8 n).toArray t frozen
   | o=>o }
theorem door_met (os:Os) (args:Array Value):laidMetH Tryz.prog LL ((laidWorld os).forCall (fun _ _=>0) ⟨#[],args,[]⟩).memory :=
 laidMetH_of_parts3 (fuel:=8) (laidMet_of_run' 8 (by kernel_rfl) (by kernel_rfl)) (by kernel_rfl) (by kernel_rfl)
end Go.Proofs.YtlbmbbaefncleaaGreatDoor

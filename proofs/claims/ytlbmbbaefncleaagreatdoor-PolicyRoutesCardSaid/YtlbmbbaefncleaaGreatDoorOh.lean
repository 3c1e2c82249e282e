/-
  Joined by a program from the texts PxPrs PxRun PxCld PxBui.
-/
import Derived.Test.YtlbmbbaefncleaaGreatDoorOf
import Derived.Test.YtlbmbbaefncleaaGreatDoorOg
import Derived.Test.YtlbmbbaefncleaaGreatDoorOd
set_option maxRecDepth 100000
set_option maxHeartbeats 4000000
set_option linter.all false
namespace Go.Proofs.YtlbmbbaefncleaaGreatDoor.Px
open Go.Vm
section
def nxP:Pr→Nx
 | .leaf x=>if x.op=1 then .eps else if x.op=2 then .any else .one x.n
 | .un _ p=>.star (nxP p)
 | .bin x p q=>if x.op=4 then .cat (nxP p) (nxP q) else .alt (nxP p) (nxP q)
attribute [local push_cast] fmN fm0 take_N toN1 slN_nil encN slN cfg0 gfp_lenN gfd_lenN lfl_lenN encA st_encA os_encA
theorem pc173 (sw:Int):∀(p:Pr) (r:List Nd),okP sw p→(flat p++r).length≤4000000→PC Tryz.prog 173 [slN (flat p++r)] (.tup [encA (nxP p),slN r]):=by
 intro p
 induction p with
 | leaf x =>
  intro r hp hl
  obtain ⟨o,n⟩:=x
  simp only [flat,List.cons_append,List.nil_append,List.length_cons] at hl ⊢
  have h0:o=1∨o=2∨o=3:=hp.1
  rcases h0 with h | h | h<;>subst h
  ·rw [show nxP (.leaf ⟨1,n⟩)=.eps from rfl]
   refine PC.walk tok mixed cfg0 Tryz.func173 rfl Tryz.call173 (by simp [bel_clA]) (by first | rfl | simp [bel_clA]) ?_;refine vms1 Tryz.ntmps173 ?_
   refine endK.ret ?_ (by first | rfl | simp [bel_clA]);simp [evRes,getT,retV,Tryz.f173,encA,tgA,clA]
  ·rw [show nxP (.leaf ⟨2,n⟩)=.any from rfl]
   refine PC.walk tok mixed cfg0 Tryz.func173 rfl Tryz.call173 (by simp [bel_clA]) (by first | rfl | simp [bel_clA]) ?_;refine vms1 Tryz.ntmps173 ?_
   refine endK.ret ?_ (by first | rfl | simp [bel_clA]);simp [evRes,getT,retV,Tryz.f173,encA,tgA,clA]
  ·rw [show nxP (.leaf ⟨3,n⟩)=.one n from rfl]
   refine PC.walk tok mixed cfg0 Tryz.func173 rfl Tryz.call173 (by simp [bel_clA]) (by first | rfl | simp [bel_clA]) ?_;refine vms1 Tryz.ntmps173 ?_
   refine endK.ret ?_ (by first | rfl | simp [bel_clA]);simp [evRes,getT,retV,Tryz.f173,encA,tgA,clA]
 | un x p ih =>
  intro r hp hl
  obtain ⟨o,n⟩:=x
  have h:o=6:=hp.1
  subst h
  simp only [flat,List.cons_append,List.length_cons] at hl ⊢
  have i1:=ih r hp.2 (by simp only [List.length_append] at hl ⊢;omega)
  rw [show nxP (.un ⟨6,n⟩ p)=.star (nxP p) from rfl]
  generalize flat p++r=l at hl i1 ⊢
  refine PC.walk tok mixed cfg0 Tryz.func173 rfl Tryz.call173 (by simp [bel_clA]) (by first | rfl | simp [bel_clA]) ?_;refine vms1 Tryz.ntmps173 ?_
  refine callO.pc i1 ?_
  refine vms0 ?_
  refine endK.ret ?_ (by first | rfl | simp [bel_clA]);simp [evRes,getT,retV,Tryz.f173,encA,tgA,clA,slN]
 | bin x p q i1 i2 =>
  intro r hp hl
  obtain ⟨o,n⟩:=x
  have h:o=4∨o=5:=hp.1
  simp only [flat,List.cons_append,List.length_cons,List.append_assoc] at hl ⊢
  have j1:=i1 (flat q++r) hp.2.1 (by simp only [List.length_append] at hl ⊢;omega)
  have j2:=i2 r hp.2.2 (by simp only [List.length_append] at hl ⊢;omega)
  generalize flat p++(flat q++r)=l at hl j1 ⊢
  generalize flat q++r=l2 at j1 j2 ⊢
  rcases h with h | h<;>subst h
  ·rw [show nxP (.bin ⟨4,n⟩ p q)=.cat (nxP p) (nxP q) from rfl]
   refine PC.walk tok mixed cfg0 Tryz.func173 rfl Tryz.call173 (by simp [bel_clA]) (by first | rfl | simp [bel_clA]) ?_;refine vms1 Tryz.ntmps173 ?_
   refine callO.pc j1 ?_
   refine vms0 ?_
   refine callO.pc j2 ?_
   refine vms0 ?_
   refine endK.ret ?_ (by first | rfl | simp [bel_clA]);simp [evRes,getT,retV,Tryz.f173,encA,tgA,clA,slN]
  ·rw [show nxP (.bin ⟨5,n⟩ p q)=.alt (nxP p) (nxP q) from rfl]
   refine PC.walk tok mixed cfg0 Tryz.func173 rfl Tryz.call173 (by simp [bel_clA]) (by first | rfl | simp [bel_clA]) ?_;refine vms1 Tryz.ntmps173 ?_
   refine callO.pc j1 ?_
   refine vms0 ?_
   refine callO.pc j2 ?_
   refine vms0 ?_
   refine endK.ret ?_ (by first | rfl | simp [bel_clA]);simp [evRes,getT,retV,Tryz.f173,encA,tgA,clA,slN]
end
section
def zTb:V:=.agg [.sl true [] 0,.sl true [] 0]
@[simp] theorem bel_zTb {n:Nat}:zTb.bel n=true:=rfl
end
section
def siz:Nx→Nat
 | .star a=>siz a+1
 | .cat a b=>siz a+siz b+1
 | .alt a b=>siz a+siz b+1
 | _=>1
def lvs:Nx→Nat
 | .eps=>0
 | .any=>1
 | .one _=>1
 | .star a=>lvs a
 | .cat a b=>lvs a+lvs b
 | .alt a b=>lvs a+lvs b
def pdl:Nx→List Nx
 | .eps=>[]
 | .any=>[.eps]
 | .one _=>[.eps]
 | .star a=>(pdl a).map fun d=>seqA d (.star a)
 | .cat a b=>(pdl a).map (fun d=>seqA d b)++pdl b
 | .alt a b=>pdl a++pdl b
theorem lvs_siz:∀x,lvs x≤siz x
 | .eps=>by simp [lvs]
 | .any=>Nat.le_refl _
 | .one _=>Nat.le_refl _
 | .star a=>by have:=lvs_siz a;simp only [lvs,siz];omega
 | .cat a b=>by have:=lvs_siz a;have:=lvs_siz b;simp only [lvs,siz];omega
 | .alt a b=>by have:=lvs_siz a;have:=lvs_siz b;simp only [lvs,siz];omega
theorem pdl_len:∀x,(pdl x).length=lvs x
 | .eps=>rfl
 | .any=>rfl
 | .one _=>rfl
 | .star a=>by rw [pdl,List.length_map,pdl_len a];rfl
 | .cat a b=>by rw [pdl,List.length_append,List.length_map,pdl_len a,pdl_len b];rfl
 | .alt a b=>by rw [pdl,List.length_append,pdl_len a,pdl_len b];rfl
theorem drv_pdl (sw:Int):∀x,∀d ∈ drv sw x,d ∈ pdl x
 | .eps,d,h=>by simp [drv] at h
 | .any,d,h=>h
 | .one n,d,h=>by
  rw [drv] at h
  split at h
  ·exact h
  ·simp at h
 | .star a,d,h=>by
  rw [drv] at h
  obtain ⟨e,he,rfl⟩:=List.mem_map.1 h
  exact List.mem_map.2 ⟨e,drv_pdl sw a e he,rfl⟩
 | .cat a b,d,h=>by
  rw [drv] at h
  rcases List.mem_append.1 h with h | h
  ·obtain ⟨e,he,rfl⟩:=List.mem_map.1 h
   exact List.mem_append.2 (.inl (List.mem_map.2 ⟨e,drv_pdl sw a e he,rfl⟩))
  ·split at h
   ·exact List.mem_append.2 (.inr (drv_pdl sw b d h))
   ·simp at h
 | .alt a b,d,h=>by
  rw [drv] at h
  rcases List.mem_append.1 h with h | h
  ·exact List.mem_append.2 (.inl (drv_pdl sw a d h))
  ·exact List.mem_append.2 (.inr (drv_pdl sw b d h))
theorem drv_seq {sw:Int} {d b x:Nx} (h:x ∈ drv sw (seqA d b)):(∃e ∈ drv sw d,x=seqA e b)∨x ∈ drv sw b:=by
 unfold seqA at h
 split at h
 ·exact .inr h
 ·rw [drv] at h
  rcases List.mem_append.1 h with h | h
  ·obtain ⟨e,he,rfl⟩:=List.mem_map.1 h
   exact .inl ⟨e,he,rfl⟩
  ·split at h
   ·exact .inr h
   ·simp at h
theorem pdl_clos (sw:Int):∀x,∀y ∈ pdl x,∀d ∈ drv sw y,d ∈ pdl x
 | .eps,y,h,_,_=>by simp [pdl] at h
 | .any,y,h,d,hd=>by
  simp [pdl] at h
  subst h
  simp [drv] at hd
 | .one _,y,h,d,hd=>by
  simp [pdl] at h
  subst h
  simp [drv] at hd
 | .star a,y,h,d,hd=>by
  rw [pdl] at h
  obtain ⟨e,he,rfl⟩:=List.mem_map.1 h
  rcases drv_seq hd with ⟨f,hf,rfl⟩ | hd
  ·exact List.mem_map.2 ⟨f,pdl_clos sw a e he f hf,rfl⟩
  ·exact drv_pdl sw (.star a) d hd
 | .cat a b,y,h,d,hd=>by
  rw [pdl] at h
  rcases List.mem_append.1 h with h | h
  ·obtain ⟨e,he,rfl⟩:=List.mem_map.1 h
   rcases drv_seq hd with ⟨f,hf,rfl⟩ | hd
   ·exact List.mem_append.2 (.inl (List.mem_map.2 ⟨f,pdl_clos sw a e he f hf,rfl⟩))
   ·exact List.mem_append.2 (.inr (drv_pdl sw b d hd))
  ·exact List.mem_append.2 (.inr (pdl_clos sw b y h d hd))
 | .alt a b,y,h,d,hd=>by
  rw [pdl] at h
  rcases List.mem_append.1 h with h | h
  ·exact List.mem_append.2 (.inl (pdl_clos sw a y h d hd))
  ·exact List.mem_append.2 (.inr (pdl_clos sw b y h d hd))
theorem hgt_siz:∀x,hgt x≤siz x
 | .eps=>Nat.zero_le _
 | .any=>Nat.zero_le _
 | .one _=>Nat.zero_le _
 | .star a=>by have:=hgt_siz a;simp only [hgt,siz];omega
 | .cat a b=>by have:=hgt_siz a;have:=hgt_siz b;simp only [hgt,siz];omega
 | .alt a b=>by have:=hgt_siz a;have:=hgt_siz b;simp only [hgt,siz];omega
theorem hgt_seq (d b:Nx):hgt (seqA d b)≤max (hgt d) (hgt b)+1:=by
 unfold seqA
 split
 ·omega
 ·simp only [hgt];omega
theorem lvs_seq (d b:Nx):lvs (seqA d b)≤lvs d+lvs b:=by
 unfold seqA
 split
 ·omega
 ·simp only [lvs];omega
theorem pdl_hgt:∀x,∀y ∈ pdl x,hgt y≤2*siz x
 | .eps,y,h=>by simp [pdl] at h
 | .any,y,h=>by simp [pdl] at h;subst h;exact Nat.zero_le _
 | .one _,y,h=>by simp [pdl] at h;subst h;exact Nat.zero_le _
 | .star a,y,h=>by
  rw [pdl] at h
  obtain ⟨e,he,rfl⟩:=List.mem_map.1 h
  have h1:=pdl_hgt a e he
  have h2:=hgt_seq e (.star a)
  have h3:=hgt_siz a
  simp only [hgt] at h2
  simp only [siz];omega
 | .cat a b,y,h=>by
  rw [pdl] at h
  rcases List.mem_append.1 h with h | h
  ·obtain ⟨e,he,rfl⟩:=List.mem_map.1 h
   have h1:=pdl_hgt a e he
   have h2:=hgt_seq e b
   have h3:=hgt_siz b
   simp only [siz];omega
  ·have:=pdl_hgt b y h
   simp only [siz];omega
 | .alt a b,y,h=>by
  rw [pdl] at h
  rcases List.mem_append.1 h with h | h
  ·have:=pdl_hgt a y h
   simp only [siz];omega
  ·have:=pdl_hgt b y h
   simp only [siz];omega
theorem sq_le {a b s:Nat} (ha:a≤b*b) (h:b+1≤s) {c:Nat} (hc:c+b≤s):a+c≤s*s:=by
 obtain ⟨d,rfl⟩:∃d,s=b+1+d:=⟨s-(b+1),by omega⟩
 have e:(b+1+d)*(b+1+d)=b*b+2*(b*(1+d))+(1+d)*(1+d):=by
  have:=Nat.mul_comm d b
  simp only [Nat.add_mul,Nat.mul_add,Nat.one_mul,Nat.mul_one];omega
 have h1:1+d≤(1+d)*(1+d):=Nat.le_mul_self _
 omega
theorem pdl_lvs:∀x,∀y ∈ pdl x,lvs y≤siz x*siz x
 | .eps,y,h=>by simp [pdl] at h
 | .any,y,h=>by simp [pdl] at h;subst h;exact Nat.zero_le _
 | .one _,y,h=>by simp [pdl] at h;subst h;exact Nat.zero_le _
 | .star a,y,h=>by
  rw [pdl] at h
  obtain ⟨e,he,rfl⟩:=List.mem_map.1 h
  have h1:=pdl_lvs a e he
  have h2:=lvs_seq e (.star a)
  have h3:=lvs_siz a
  simp only [lvs] at h2
  have e2:(siz a+1)*(siz a+1)=siz a*siz a+2*siz a+1:=by
   simp only [Nat.add_mul,Nat.mul_add,Nat.one_mul,Nat.mul_one];omega
  simp only [siz];omega
 | .cat a b,y,h=>by
  rw [pdl] at h
  rcases List.mem_append.1 h with h | h
  ·obtain ⟨e,he,rfl⟩:=List.mem_map.1 h
   have h1:=pdl_lvs a e he
   have h2:=lvs_seq e b
   have h3:=lvs_siz b
   have h4:=sq_le h1 (s:=siz a+siz b+1) (by omega) (c:=siz b) (by omega)
   simp only [siz];omega
  ·have h1:=pdl_lvs b y h
   have h4:=sq_le h1 (s:=siz a+siz b+1) (by omega) (c:=0) (by omega)
   simp only [siz];omega
 | .alt a b,y,h=>by
  rw [pdl] at h
  rcases List.mem_append.1 h with h | h
  ·have h1:=pdl_lvs a y h
   have h4:=sq_le h1 (s:=siz a+siz b+1) (by omega) (c:=0) (by omega)
   simp only [siz];omega
  ·have h1:=pdl_lvs b y h
   have h4:=sq_le h1 (s:=siz a+siz b+1) (by omega) (c:=0) (by omega)
   simp only [siz];omega
theorem drv_len (sw:Int):∀x,(drv sw x).length≤lvs x
 | .eps=>Nat.le_refl _
 | .any=>Nat.le_refl _
 | .one n=>by rw [drv];split<;>simp [lvs]
 | .star a=>by rw [drv,List.length_map];exact drv_len sw a
 | .cat a b=>by
  have h1:=drv_len sw a
  have h2:=drv_len sw b
  rw [drv,List.length_append,List.length_map]
  simp only [lvs]
  split
  ·omega
  ·simp;omega
 | .alt a b=>by
  have h1:=drv_len sw a
  have h2:=drv_len sw b
  rw [drv,List.length_append]
  simp only [lvs];omega
theorem cls_of {x:Nx} (h:siz x≤24):Cls (x::pdl x):=by
 have hq:siz x*siz x≤24*24:=Nat.mul_le_mul h h
 refine ⟨fun y hy=>?_,fun y hy sw d hd=>?_,fun y hy sw=>?_,?_⟩
 ·rcases List.mem_cons.1 hy with rfl | hy
  ·have:=hgt_siz y;omega
  ·have:=pdl_hgt x y hy;omega
 ·rcases List.mem_cons.1 hy with rfl | hy
  ·exact List.mem_cons_of_mem _ (drv_pdl sw y d hd)
  ·exact List.mem_cons_of_mem _ (pdl_clos sw x y hy d hd)
 ·have h1:=drv_len sw y
  rcases List.mem_cons.1 hy with rfl | hy
  ·have:=lvs_siz y;omega
  ·have:=pdl_lvs x y hy;omega
 ·have:=pdl_len x
  have:=lvs_siz x
  rw [List.length_cons];omega
end
section
theorem siz_nx (sw:Int):∀p,okP sw p→siz (nxP p)≤(flat p).length
 | .leaf x,_=>by
  simp only [nxP,flat,List.length_singleton]
  split
  ·exact Nat.le_refl _
  ·split<;>exact Nat.le_refl _
 | .un x p,h=>by
  have:=siz_nx sw p h.2
  simp only [nxP,flat,siz,List.length_cons];omega
 | .bin x p q,h=>by
  have h1:=siz_nx sw p h.2.1
  have h2:=siz_nx sw q h.2.2
  simp only [nxP,flat,List.length_cons,List.length_append]
  split<;>simp only [siz]<;>omega
def detT (x:Nx) (m:Nat):Tb:=⟨(detN m x bigN).rows,(detN m x bigN).accs⟩
theorem row_rng {D:List Nx} (hD:Cls D) {set:W64} {L:List Nx} {sets:List W64} (h:Rok D ⟨L,sets,[]⟩):∀n,∀x ∈ (rowN set L sets n).row,-1≤x∧x<((rowN set L sets n).sets.length:Int)
 | 0,x,hx=>by simp [rowN] at hx
 | n+1,x,hx=>by
  have ih:=row_rng hD (set:=set) h n
  have hst:=rowN_sets set L sets n
  rw [rowN,rowI] at hx ⊢
  split at hx
  ·rename_i h0
   rw [if_pos h0]
   rcases List.mem_append.1 hx with hx | hx
   ·exact ih x hx
   ·rw [List.mem_singleton] at hx;subst hx;simp only;omega
  ·rename_i h0
   rw [if_neg h0]
   split at hx
   ·rename_i k hk
    simp only [hk] at hx ⊢
    rcases List.mem_append.1 hx with hx | hx
    ·exact ih x hx
    ·rw [List.mem_singleton] at hx
     subst hx
     have aux:∀(l:List W64) (y:W64) (k:Nat),idxW y l=some k→k<l.length:=by
      intro l
      induction l with
      | nil=>intro y k h;simp [idxW] at h
      | cons z r ih =>
       intro y k h
       simp only [idxW] at h
       split at h
       ·simp at h;subst h;simp
       ·rw [Option.map_eq_some_iff] at h
        obtain ⟨j,hj,rfl⟩:=h
        have:=ih y j hj
        simp;omega
     have:=aux _ _ _ hk
     omega
   ·rename_i hk
    simp only [hk] at hx ⊢
    simp only [List.length_append,List.length_singleton]
    rcases List.mem_append.1 hx with hx | hx
    ·have:=ih x hx;omega
    ·rw [List.mem_singleton] at hx;subst hx;omega
structure Dinv (m i:Nat) (s:Ds2):Prop where
 rows:s.rows.length=min i s.sets.length
 accs:s.accs.length=min i s.sets.length
 row:∀r ∈ s.rows,r.length=m∧∀x ∈ r,-1≤x∧x<(s.sets.length:Int)
 pos:0<s.sets.length
theorem detN_inv {D:List Nx} (hD:Cls D) {x:Nx} (hx:x ∈ D) {m:Nat}:∀i,Dinv m i (detN m x i)
 | 0=>⟨by simp [detN],by simp [detN],fun r hr=>by simp [detN] at hr,by simp [detN]⟩
 | i+1=>by
  have ih:=detN_inv hD hx (m:=m) i
  have hok:=detN_ok hD hx (m:=m) i
  rw [detN,detI]
  split
  ·rename_i set hs
   have hlt:=(List.getElem?_eq_some_iff.1 hs).1
   obtain ⟨r,hr⟩:=rowN_sets set (detN m x i).L (detN m x i).sets m
   have hle:(detN m x i).sets.length≤(rowN set (detN m x i).L (detN m x i).sets m).sets.length:=by rw [hr,List.length_append];omega
   have h1:=ih.rows
   have h2:=ih.accs
   refine ⟨?_,?_,fun q hq=>?_,by simp only;omega⟩
   ·simp only [List.length_append,List.length_singleton];omega
   ·simp only [List.length_append,List.length_singleton];omega
   ·simp only at hq ⊢
    rcases List.mem_append.1 hq with hq | hq
    ·have h3:=ih.row q hq
     exact ⟨h3.1,fun y hy=>⟨(h3.2 y hy).1,by have:=(h3.2 y hy).2;omega⟩⟩
    ·rw [List.mem_singleton] at hq
     subst hq
     exact ⟨rowN_len _ _ _ _,row_rng hD hok m⟩
  ·rename_i hs
   have hge:=List.getElem?_eq_none_iff.1 hs
   have h1:=ih.rows
   have h2:=ih.accs
   exact ⟨by omega,by omega,ih.row,ih.pos⟩
theorem detT_okN {D:List Nx} (hD:Cls D) {x:Nx} (hx:x ∈ D) {m N:Nat} (hN:2^30≤N) (hm:m≤16) (hm1:0<m):okT (detN m x N).sets.length m ⟨(detN m x N).rows,(detN m x N).accs⟩∧(detN m x N).sets.length≤N:=by
 have hi:=detN_inv hD hx (m:=m) N
 have hl:=(detN_ok hD hx (m:=m) N).len hD
 simp only at hl
 have h1:=hi.rows
 have h2:=hi.accs
 exact ⟨⟨by simp only;omega,by simp only;omega,fun r hr=>(hi.row r hr).1,fun r hr=>(hi.row r hr).2,hi.pos,by omega,hm,hm1⟩,by omega⟩
theorem detT_ok {D:List Nx} (hD:Cls D) {x:Nx} (hx:x ∈ D) {m:Nat} (hm:m≤16) (hm1:0<m):okT (detN m x bigN).sets.length m (detT x m)∧(detN m x bigN).sets.length≤bigN :=
 detT_okN hD hx (Nat.le_refl _) hm hm1
def bldV (t:Tb):V:=if 64<t.next.length then .tup [zTb,.int .i64 12] else .tup [.agg (encT t),.int .i64 0]
def BldR (f:Nat) (r:List Nd) (sw:Int):Prop :=
 ((sw<1∨16<sw)∧PC Tryz.prog f [slN r,.int .i64 sw] (.tup [zTb,.int .i64 9])) ∨
 (¬(sw<1∨16<sw)∧checkP sw r≠0∧PC Tryz.prog f [slN r,.int .i64 sw] (.tup [zTb,.int .i64 (checkP sw r)])) ∨
 (¬(sw<1∨16<sw)∧checkP sw r=0∧∃p,okP sw p∧r=flat p∧r.length≤24∧PC Tryz.prog f [slN r,.int .i64 sw] (bldV (minS (detT (nxP p) sw.toNat))))
attribute [local push_cast] cfg0 fmN fm0 take_N toN1 slN_nil encN slN gfp_lenN gfd_lenN lfl_lenN getV_map getV_mapO List.length_map Nat.mul_one slI slR slB encT zTb encA
theorem bld9 {r:List Nd} {sw:Int} (hr:r.length≤4000000):BldR 146 r sw:=by
 by_cases hs:sw<1∨16<sw
 ·refine .inl ⟨hs,?_⟩
  rcases hs with h | h
  ·refine PC.walk tok mixed cfg0 Tryz.func146 rfl Tryz.call146 (by simp [bel_clA]) (by first | rfl | simp [bel_clA]) ?_;refine vms1 Tryz.ntmps146 ?_
   refine endK.ret ?_ (by first | rfl | simp [bel_clA]);simp [evRes,getT,retV,Tryz.f146,zTb,tt_160,Res.then,ldT,ldR,getO,mkV,getV,imp,lenOK_iff]
  ·refine PC.walk tok mixed cfg0 Tryz.func146 rfl Tryz.call146 (by simp [bel_clA]) (by first | rfl | simp [bel_clA]) ?_;refine vms1 Tryz.ntmps146 ?_
   (try refine vms1 h ?_)
   refine endK.ret ?_ (by first | rfl | simp [bel_clA]);simp [evRes,getT,retV,Tryz.f146,zTb,tt_160,Res.then,ldT,ldR,getO,mkV,getV,imp,lenOK_iff]
 have hs1:¬sw<1:=fun h=>hs (.inl h)
 have hs2:¬16<sw:=fun h=>hs (.inr h)
 have h23:=pc56 sw r hr
 by_cases hc:checkP sw r=0
 ·rcases tree26 sw r hr with ⟨_,p,hp,hf,h24,_⟩ | ⟨h,_⟩
  case inr=>exact absurd hc h
  refine .inr (.inr ⟨hs,hc,p,hp,hf,h24,?_⟩)
  have hsz:=siz_nx sw p hp
  rw [←hf] at hsz
  have hD:=cls_of (x:=nxP p) (by omega)
  have h24':=pc173 sw p [] hp (by rw [List.append_nil,←hf];exact hr)
  rw [List.append_nil,←hf] at h24'
  obtain ⟨m,rfl⟩:∃m:Nat,sw=(m:Int):=⟨sw.toNat,by omega⟩
  have h25:=pc174 hD (x:=nxP p) (by simp) (m:=m) (by omega) (by omega)
  have hT:=(detT_ok hD (x:=nxP p) (by simp) (m:=m) (by omega) (by omega)).1
  have h26:=pc175 hT
  rw [show (⟨(detN m (nxP p) bigN).rows,(detN m (nxP p) bigN).accs⟩:Tb)=detT (nxP p) m from rfl] at h25
  rw [Int.toNat_natCast,bldV]
  clear hT
  generalize detT (nxP p) m=u at h25 h26 ⊢
  generalize minS u=w at h26 ⊢
  obtain ⟨n1,a1⟩:=u
  obtain ⟨n2,a2⟩:=w
  by_cases h64:64<n2.length
  ·rw [if_pos h64]
   refine PC.walk tok mixed cfg0 Tryz.func146 rfl Tryz.call146 (by simp [bel_clA]) (by first | rfl | simp [bel_clA]) ?_;refine vms1 Tryz.ntmps146 ?_
   (try refine vms2 hs1 hs2 ?_)
   refine callO.pc h23 ?_
   refine vms1 hc ?_
   refine callO.pc h24' ?_
   refine vms0 ?_
   refine callO.pc h25 ?_
   refine vms0 ?_
   refine callO.pc h26 ?_
   refine vms1 h64 ?_
   refine endK.ret ?_ (by first | rfl | simp [bel_clA]);simp [evRes,getT,retV,Tryz.f146,zTb,tt_160,Res.then,ldT,ldR,getO,mkV,getV,imp,lenOK_iff]
  ·rw [if_neg h64]
   refine PC.walk tok mixed cfg0 Tryz.func146 rfl Tryz.call146 (by simp [bel_clA]) (by first | rfl | simp [bel_clA]) ?_;refine vms1 Tryz.ntmps146 ?_
   (try refine vms2 hs1 hs2 ?_)
   refine callO.pc h23 ?_
   refine vms1 hc ?_
   refine callO.pc h24' ?_
   refine vms0 ?_
   refine callO.pc h25 ?_
   refine vms0 ?_
   refine callO.pc h26 ?_
   refine vms1 h64 ?_
   refine endK.ret ?_ (by first | rfl | simp [bel_clA]);simp [evRes,getT,retV,Tryz.f146,zTb,tt_160,Res.then,ldT,ldR,getO,mkV,getV,imp,lenOK_iff,encT,slR,slB]
 ·refine .inr (.inl ⟨hs,hc,?_⟩)
  refine PC.walk tok mixed cfg0 Tryz.func146 rfl Tryz.call146 (by simp [bel_clA]) (by first | rfl | simp [bel_clA]) ?_;refine vms1 Tryz.ntmps146 ?_
  (try refine vms2 hs1 hs2 ?_)
  refine callO.pc h23 ?_
  refine vms1 hc ?_
  refine endK.ret ?_ (by first | rfl | simp [bel_clA]);simp [evRes,getT,retV,Tryz.f146,zTb,tt_160,Res.then,ldT,ldR,getO,mkV,getV,imp,lenOK_iff]
end
end Go.Proofs.YtlbmbbaefncleaaGreatDoor.Px

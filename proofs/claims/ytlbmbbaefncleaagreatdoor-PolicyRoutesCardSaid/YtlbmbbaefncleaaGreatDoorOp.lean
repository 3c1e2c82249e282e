/-
  Joined by a program from the texts Rte L6 Lift.
-/
import Derived.Test.YtlbmbbaefncleaaGreatDoorOe
import Derived.Test.YtlbmbbaefncleaaGreatDoorOj
import Derived.Test.YtlbmbbaefncleaaGreatDoorOm
import Derived.Test.YtlbmbbaefncleaaGreatDoorOo
import Derived.Lib.LaidTab
import Derived.Lib.LaidU8
import Derived.LaidMore
import Derived.Stop.Joined
set_option maxRecDepth 100000
set_option maxHeartbeats 4000000
set_option linter.all false
namespace Go.Proofs.YtlbmbbaefncleaaGreatDoor
open Go.Vm
namespace Px
theorem walk_out {t:Top.Tp} {a:Tb} {dst:Int} (h:Fit t a):∀(n:Nat) (w:Wr),((gR t a dst h).walk n w).out.length≤w.out.length+n
 | 0,w=>Nat.le_refl _
 | n+1,w=>by
  rw [Gph.walk]
  split
  ·omega
  ·split
   ·omega
   ·rename_i w' e
    have:=walk_out (dst:=dst) h n w'
    have:=stp_out (show stpR t a w _=some w' from e)
    omega
theorem find_len {t:Top.Tp} {a:Tb} {h:Fit t a} {s d:Int × Int} {l:List Hop} (hl:findR t a h s d=some l):l.length≤1025:=by
 rw [findR] at hl
 split at hl
 ·cases hl
 ·rw [Option.map_eq_some_iff] at hl
  obtain ⟨w,hw,rfl⟩:=hl
  rw [Gph.found] at hw
  split at hw
  ·cases hw
  ·cases hw
   have h1:=walk_out (dst:=d.1) h ((gR t a d.1 h).D ((gR t a d.1 h).key ⟨s.1,nxA a 0 s.1,s.2,[]⟩)).toNat ⟨s.1,nxA a 0 s.1,s.2,[]⟩
   have h2:=((gR t a d.1 h).dN_rng (gR t a d.1 h).states.length ((gR t a d.1 h).key ⟨s.1,nxA a 0 s.1,s.2,[]⟩)).2
   have h3:(gR t a d.1 h).states.length≤1024:=by
    rw [show (gR t a d.1 h).states=statesR t a from rfl,len_states]
    exact Nat.le_trans (Nat.mul_le_mul (Top.chk_valid h.top).small h.few) (by decide)
   have h4:(gR t a d.1 h).D ((gR t a d.1 h).key ⟨s.1,nxA a 0 s.1,s.2,[]⟩)=(gR t a d.1 h).dN (gR t a d.1 h).states.length ((gR t a d.1 h).key ⟨s.1,nxA a 0 s.1,s.2,[]⟩):=rfl
   rw [finW,List.length_append]
   simp only [List.length_singleton,List.length_nil] at h1 ⊢
   omega
end Px
theorem sel_len {h:Int} {f:Pd.Fl}:∀ {l:List Ru},(selR h f l).2=true→(selR h f l).1<l.length
 | [],hh=>by simp [selR] at hh
 | r::l,hh=>by
  rw [selR] at hh ⊢
  split
  ·simp
  ·rename_i h1
   rw [if_neg h1] at hh
   split at hh
   ·rename_i h2
    rw [if_pos h2]
    have:=sel_len h2
    simp;omega
   ·cases hh
attribute [local push_cast] encR slR cfg0 gfp_lenR gfd_lenR lfl_lenR Nat.mul_one Pd.slN Px.slN Pd.encF Top.encT Top.slI Top.slP Top.slL
theorem pc20 (l:List Ru) (h:Int) (f:Pd.Fl) (hl:l.length≤1000000) (hs:∀r ∈ l,r.p.length≤4000000):PC Tryz.prog 20 [slR l,.int .i64 h,.agg (Pd.encF f)] (.tup [.int .i64 (selR h f l).1,.bool (selR h f l).2]):=by
 refine PC.walk tok mixed cfg0 Tryz.func20 rfl Tryz.call20 (by simp [Pd.bel_slN,Px.bel_slN,Pd.bel_Ns,Px.bel_Ns,belAll_append,Pd.belF]) (by first | rfl | simp [Pd.bel_slN,Px.bel_slN,Pd.bel_Ns,Px.bel_Ns,belAll_append,Pd.belF]) ?_;refine vms1 Tryz.ntmps20 ?_
 refine T.lp tok mixed cfg0 (fun (i:Nat)=>kp 2 (dd 3 (kp 1 (dd 2 (sv (.int .i64 i) (dd 23 (nl))))))) (fun H0 (i:Nat)=>[.cells 0 (Pd.encF f)]) (fun (i:Nat)=>i≤l.length∧∀j,j<i→∀hj:j<l.length,hitR h f l[j]=false) (fun (i:Nat)=>l.length-i) (0) ?_ ?_ ?_
 ·exact ⟨Nat.zero_le _,fun j hj=>absurd hj (Nat.not_lt_zero j)⟩
 ·exact Gn.canon (J:=[]) (by first | rfl | (simp [List.append_nil];done) | (simp [List.append_nil];rfl)) (by simp [wk,slR,Pd.slN,Px.slN,Top.encT,Top.slI,Top.slP,Top.slL,putT,kp,dd,sv,nl]) (by simp [List.length_append]) (by simp [Pd.bel_slN,Px.bel_slN,Pd.bel_Ns,Px.bel_Ns,belAll_append,Pd.belF,kp,dd,sv,nl]) (by simp [Pd.bel_slN,Px.bel_slN,Pd.bel_Ns,Px.bel_Ns,belAll_append,Pd.belF])
 rintro i ⟨hi,hn⟩
 by_cases hlt:i<l.length
 case neg =>
  have e:=sel_none (h:=h) (f:=f) (l:=l) fun j hj=>hn j (by omega) hj
  refine vms1 hlt ?_
  refine endK.ret ?_ (by first | rfl | simp [Pd.bel_slN,Px.bel_slN,Pd.bel_Ns,Px.bel_Ns,belAll_append,Pd.belF]);simp [evRes,getT,retV,Tryz.f20,e]
 have hnext:hitR h f l[i]=false→∀j,j<i+1→∀hj:j<l.length,hitR h f l[j]=false:=fun h0 j hj hjl=>by
  by_cases e:j=i
  ·subst e;exact h0
  ·exact hn j (by omega) hjl
 by_cases hf:l[i].f=h
 ·refine vms2 hlt hf ?_
  refine callG.pc1 (Pd.pc28 f l[i].p (hs _ (List.getElem_mem hlt)) _ (evD_spec f l[i].p)) ?_
  cases hb:evD f l[i].p
  ·have h0:hitR h f l[i]=false:=by rw [hitR,hb,Bool.and_false]
   refine vms3 hlt hf hb ?_
   refine ⟨i+1,⟨by omega,hnext h0⟩,by (try simp only);omega,?_⟩;exact Gn.canon (by first | rfl | (simp [List.append_nil];rfl)) (by simp [wk,slR,Pd.slN,Px.slN,Top.encT,Top.slI,Top.slP,Top.slL]) (by simp [List.length_append]) (by simp [Pd.bel_slN,Px.bel_slN,Pd.bel_Ns,Px.bel_Ns,belAll_append,Pd.belF]) (by simp [Pd.bel_slN,Px.bel_slN,Pd.bel_Ns,Px.bel_Ns,belAll_append,Pd.belF])
  ·have h0:hitR h f l[i]=true:=by rw [hitR,hb,hf,decide_eq_true rfl];rfl
   have e:=sel_at hlt hn h0
   refine vms3 hlt hf hb ?_
   refine endK.ret ?_ (by first | rfl | simp [Pd.bel_slN,Px.bel_slN,Pd.bel_Ns,Px.bel_Ns,belAll_append,Pd.belF]);simp [evRes,getT,retV,Tryz.f20,e]
 ·have h0:hitR h f l[i]=false:=by rw [hitR,decide_eq_false hf,Bool.false_and]
  refine vms2 hlt hf ?_
  refine ⟨i+1,⟨by omega,hnext h0⟩,by (try simp only);omega,?_⟩;exact Gn.canon (by first | rfl | (simp [List.append_nil];rfl)) (by simp [wk,slR,Pd.slN,Px.slN,Top.encT,Top.slI,Top.slP,Top.slL]) (by simp [List.length_append]) (by simp [Pd.bel_slN,Px.bel_slN,Pd.bel_Ns,Px.bel_Ns,belAll_append,Pd.belF]) (by simp [Pd.bel_slN,Px.bel_slN,Pd.bel_Ns,Px.bel_Ns,belAll_append,Pd.belF])
def hpV:Option (List Px.Hop)→V
 | none=>.sl true [] 0
 | some y=>Px.slH y
@[simp] theorem bel_hpV {n:Nat} (o:Option (List Px.Hop)):(hpV o).bel n=true:=by
 cases o with
 | none=>simp [hpV]
 | some y=>exact Px.bel_slH y
def hopX (o:Option (List Px.Hop)):Prop:=∀y,o=some y→y.length≤1025
@[simp] theorem bel_res {n:Nat} (o:Option (List Px.Hop)) (b:Bool):(V.tup [hpV o,.bool b]).bel n=true:=by simp [bel_hpV]
theorem hop_none:hopX none:=fun _ h=>nomatch h
theorem fnd_both {t:Top.Tp} {x y:Int} {r:List Px.Nd} (h:Px.FndR 61 t x y r) (h':Px.FndR 62 t x y r):∃(o:Option (List Px.Hop)) (e:Int),hopX o∧(e≠0→o=none)∧PC Tryz.prog 61 (Px.argV t x y r) (.tup [hpV o,.int .i64 e])∧PC Tryz.prog 62 (Px.argV t x y r) (.tup [hpV o,.int .i64 e]):=by
 rcases h with ⟨e,he,h0,h⟩ | ⟨p,ho,h⟩
 ·rcases h' with ⟨e',he',_,h'⟩ | ⟨p',ho',_⟩
  ·obtain rfl:=Px.errR_one he he'
   exact ⟨none,e,hop_none,fun _=>rfl,h,h'⟩
  ·exact (Px.okR_no he ho').elim
 ·rcases h' with ⟨e',he',_,_⟩ | ⟨p',ho',h'⟩
  ·exact (Px.okR_no he' ho).elim
  ·have:=Px.okR_one ho ho'
   subst this
   cases hr:Px.findR t (Px.autR p t.ports.length) (Px.fit_of ho) (Px.hostP t x) (Px.hostP t y) with
   | none =>
    rw [hr] at h
    rw [hr] at h'
    exact ⟨none,21,hop_none,fun _=>rfl,h,h'⟩
   | some l =>
    rw [hr] at h
    rw [hr] at h'
    exact ⟨some l,0,fun y h=>Option.some.inj h ▸ Px.find_len hr,fun h=>absurd rfl h,h,h'⟩
theorem hops_eq {o:Option (List Px.Hop)} (h:hopX o):PC Tryz.prog 23 [hpV o,hpV o] (.bool true):=by
 cases o with
 | none=>exact PC.lax (args:=[.sl true [] 0,.sl true [] 0]) (show PC Tryz.prog 23 [Px.slH [],Px.slH []] (.bool true) from Px.pc23 [] [] (by decide))
 | some l =>
  have hl:=h l rfl
  have:=Px.pc23 l l (by omega)
  rwa [decide_eq_true rfl] at this
theorem route_both (t:Top.Tp) (l:List Ru) (h:Int) (f:Pd.Fl) (hf:t.fit) (hl:l.length≤1000000) (hs:∀r ∈ l,r.p.length≤4000000∧r.q.length≤4000000) :
  ∃(o:Option (List Px.Hop)) (b:Bool),hopX o∧PC Tryz.prog 21 [.agg (Top.encT t),slR l,.int .i64 h,.agg (Pd.encF f)] (.tup [hpV o,.bool b])∧PC Tryz.prog 22 [.agg (Top.encT t),slR l,.int .i64 h,.agg (Pd.encF f)] (.tup [hpV o,.bool b]):=by
 have hfp:=hf.ports
 have hfh:=hf.hosts
 have h17:=pc17 t l hf hs
 have h18:=pc18 t l hf hs
 have h19:=pc19 l h f hl fun r hr=>(hs r hr).1
 have h20:=pc20 l h f hl fun r hr=>(hs r hr).1
 have hb0:=sel_len (h:=h) (f:=f) (l:=l)
 generalize checkL t l=c at h17 h18
 generalize selR h f l=s at h19 h20 hb0
 obtain ⟨ci,ce⟩:=c
 obtain ⟨j,b⟩:=s
 simp only [encII2] at h17 h18 h19 h20 hb0
 by_cases he:ce=0
 case neg =>
  refine ⟨none,false,hop_none,?_,?_⟩
  ·refine PC.walk tok mixed cfg0 Tryz.func21 rfl Tryz.call21 (by simp [Pd.bel_slN,Px.bel_slN,Pd.bel_Ns,Px.bel_Ns,belAll_append,Pd.belF]) (by first | rfl | simp [Pd.bel_slN,Px.bel_slN,Pd.bel_Ns,Px.bel_Ns,belAll_append,Pd.belF]) ?_;refine vms1 Tryz.ntmps21 ?_
   refine callO.pc h17 ?_
   refine vms1 he ?_
   refine endK.ret ?_ (by first | rfl | simp [Pd.bel_slN,Px.bel_slN,Pd.bel_Ns,Px.bel_Ns,belAll_append,Pd.belF]);simp [evRes,getT,retV,Tryz.f21,he,hpV]
  ·refine PC.walk tok mixed cfg0 Tryz.func22 rfl Tryz.call22 (by simp [Pd.bel_slN,Px.bel_slN,Pd.bel_Ns,Px.bel_Ns,belAll_append,Pd.belF]) (by first | rfl | simp [Pd.bel_slN,Px.bel_slN,Pd.bel_Ns,Px.bel_Ns,belAll_append,Pd.belF]) ?_;refine vms1 Tryz.ntmps22 ?_
   refine callO.pc h18 ?_
   refine vms1 he ?_
   refine callO.pc h20 ?_
   refine vms1 he ?_
   refine endK.ret ?_ (by first | rfl | simp [Pd.bel_slN,Px.bel_slN,Pd.bel_Ns,Px.bel_Ns,belAll_append,Pd.belF]);simp [evRes,getT,retV,Tryz.f22,he,hpV]
 cases b
 ·refine ⟨none,false,hop_none,?_,?_⟩
  ·refine PC.walk tok mixed cfg0 Tryz.func21 rfl Tryz.call21 (by simp [Pd.bel_slN,Px.bel_slN,Pd.bel_Ns,Px.bel_Ns,belAll_append,Pd.belF]) (by first | rfl | simp [Pd.bel_slN,Px.bel_slN,Pd.bel_Ns,Px.bel_Ns,belAll_append,Pd.belF]) ?_;refine vms1 Tryz.ntmps21 ?_
   refine callO.pc h17 ?_
   refine vms1 he ?_
   refine callO.pc h19 ?_
   refine vms1 he ?_
   refine endK.ret ?_ (by first | rfl | simp [Pd.bel_slN,Px.bel_slN,Pd.bel_Ns,Px.bel_Ns,belAll_append,Pd.belF]);simp [evRes,getT,retV,Tryz.f21,he,hpV]
  ·refine PC.walk tok mixed cfg0 Tryz.func22 rfl Tryz.call22 (by simp [Pd.bel_slN,Px.bel_slN,Pd.bel_Ns,Px.bel_Ns,belAll_append,Pd.belF]) (by first | rfl | simp [Pd.bel_slN,Px.bel_slN,Pd.bel_Ns,Px.bel_Ns,belAll_append,Pd.belF]) ?_;refine vms1 Tryz.ntmps22 ?_
   refine callO.pc h18 ?_
   refine vms1 he ?_
   refine callO.pc h20 ?_
   refine vms1 he ?_
   refine endK.ret ?_ (by first | rfl | simp [Pd.bel_slN,Px.bel_slN,Pd.bel_Ns,Px.bel_Ns,belAll_append,Pd.belF]);simp [evRes,getT,retV,Tryz.f22,he,hpV]
 have hj:=hb0 rfl
 have hq:=(hs _ (List.getElem_mem hj)).2
 obtain ⟨o,e,hv,hn,h61,h62⟩:=fnd_both (Px.pc61 t h l[j].t l[j].q hf hq) (Px.pc62 t h l[j].t l[j].q hf hq)
 rw [Px.argV] at h61 h62
 refine ⟨o,e==0,hv,?_,?_⟩
 ·cases o
  all_goals
   rw [hpV] at h61 ⊢
   (try rw [Px.slH] at h61 ⊢)
   refine PC.walk tok mixed cfg0 Tryz.func21 rfl Tryz.call21 (by simp [Pd.bel_slN,Px.bel_slN,Pd.bel_Ns,Px.bel_Ns,belAll_append,Pd.belF]) (by first | rfl | simp [Pd.bel_slN,Px.bel_slN,Pd.bel_Ns,Px.bel_Ns,belAll_append,Pd.belF]) ?_;refine vms1 Tryz.ntmps21 ?_
   refine callO.pc h17 ?_
   refine vms1 he ?_
   refine callO.pc h19 ?_
   refine vms2 he hj ?_
   refine callG.pc1 h61 ?_
   refine vms2 he hj ?_
   refine endK.ret ?_ (by first | rfl | simp [Pd.bel_slN,Px.bel_slN,Pd.bel_Ns,Px.bel_Ns,belAll_append,Pd.belF]);simp [evRes,getT,retV,Tryz.f21,he]
 ·by_cases h0:e=0
  ·subst h0
   cases o
   all_goals
    rw [hpV] at h62 ⊢
    (try rw [Px.slH] at h62 ⊢)
    refine PC.walk tok mixed cfg0 Tryz.func22 rfl Tryz.call22 (by simp [Pd.bel_slN,Px.bel_slN,Pd.bel_Ns,Px.bel_Ns,belAll_append,Pd.belF]) (by first | rfl | simp [Pd.bel_slN,Px.bel_slN,Pd.bel_Ns,Px.bel_Ns,belAll_append,Pd.belF]) ?_;refine vms1 Tryz.ntmps22 ?_
    refine callO.pc h18 ?_
    refine vms1 he ?_
    refine callO.pc h20 ?_
    refine vms2 he hj ?_
    refine callG.pc1 h62 ?_
    refine vms2 he hj ?_
    refine endK.ret ?_ (by first | rfl | simp [Pd.bel_slN,Px.bel_slN,Pd.bel_Ns,Px.bel_Ns,belAll_append,Pd.belF]);simp [evRes,getT,retV,Tryz.f22,he]
  ·obtain rfl:=hn h0
   rw [hpV] at h62 ⊢
   refine PC.walk tok mixed cfg0 Tryz.func22 rfl Tryz.call22 (by simp [Pd.bel_slN,Px.bel_slN,Pd.bel_Ns,Px.bel_Ns,belAll_append,Pd.belF]) (by first | rfl | simp [Pd.bel_slN,Px.bel_slN,Pd.bel_Ns,Px.bel_Ns,belAll_append,Pd.belF]) ?_;refine vms1 Tryz.ntmps22 ?_
   refine callO.pc h18 ?_
   refine vms1 he ?_
   refine callO.pc h20 ?_
   refine vms2 he hj ?_
   refine callG.pc1 h62 ?_
   refine vms3 he hj h0 ?_
   refine endK.ret ?_ (by first | rfl | simp [Pd.bel_slN,Px.bel_slN,Pd.bel_Ns,Px.bel_Ns,belAll_append,Pd.belF]);simp [evRes,getT,retV,Tryz.f22,he,h0]
end Go.Proofs.YtlbmbbaefncleaaGreatDoor
namespace Go.Proofs.YtlbmbbaefncleaaGreatDoor
open Go.Vm Go.ChangeShapes Go.WideShapes Go.ChangeAt Go.RowKit
theorem typ_Pt {m:Nat} (c:List V) (h:Typ tt (m+2) 112 c):∃x:Int × Int,laxs c=Top.encP x∧True:=by
 have h:=typ_struct (by rw [tt_112]) h
 obtain ⟨c1,r1,rfl,h1,h⟩:=typF_cons h
 obtain ⟨c2,r2,rfl,h2,h⟩:=typF_cons h
 obtain rfl:=typF_nil h
 obtain ⟨a,rfl,_⟩:=typ_int (by rw [tt_3]) h1
 obtain ⟨b,rfl,_⟩:=typ_int (by rw [tt_3]) h2
 exact ⟨(a,b),rfl,trivial⟩
theorem typ_Lk {m:Nat} (c:List V) (h:Typ tt (m+3) 114 c):∃x:Top.Lk,laxs c=Top.encL x∧True:=by
 have h:=typ_struct (by rw [tt_114]) h
 obtain ⟨c1,r1,rfl,h1,h⟩:=typF_cons h
 obtain ⟨c2,r2,rfl,h2,h⟩:=typF_cons h
 obtain ⟨c3,r3,rfl,h3,h⟩:=typF_cons h
 obtain rfl:=typF_nil h
 obtain ⟨a,ha,_⟩:=typ_Pt (m:=m) c1 h1
 obtain ⟨b,hb,_⟩:=typ_Pt (m:=m) c2 h2
 obtain ⟨d,rfl⟩:=typ_bool (by rw [tt_4]) h3
 refine ⟨⟨a,b,d⟩,?_,trivial⟩
 rw [laxs_append,laxs_append,laxs_append,ha,hb]
 rfl
theorem typ_T {m:Nat} {c:List V} (h:Typ tt (m+5) 36 c):∃t:Top.Tp,lax (mkV (tt 36) c)=.agg (Top.encT t):=by
 have h:=typ_struct (by rw [tt_36]) h
 obtain ⟨c1,r1,rfl,h1,h⟩:=typF_cons h
 obtain ⟨c2,r2,rfl,h2,h⟩:=typF_cons h
 obtain ⟨c3,r3,rfl,h3,h⟩:=typF_cons h
 obtain rfl:=typF_nil h
 obtain ⟨p,hp,_,_⟩:=typ_slice (by rw [tt_32]) typ_I h1
 obtain ⟨l,hl,_,_⟩:=typ_slice (by rw [tt_33]) typ_Lk h2
 obtain ⟨q,hq,_,_⟩:=typ_slice (by rw [tt_34]) typ_Pt h3
 refine ⟨⟨p,l,q⟩,?_⟩
 rw [show ∀c,mkV (tt 36) c=.agg c from fun c=>by rw [tt_36];rfl,Go.Vm.lax,laxs_append,laxs_append,laxs_append,hp,hl,hq]
 simp only [flatMap_one]
 rfl
attribute [local push_cast] slR cfg0 lfl_lenR Nat.mul_one Pd.encF Top.encT
theorem ro6 (t:Top.Tp) (l:List Ru) (x:Int) (f:Pd.Fl):PC Tryz.prog 6 [.agg (Top.encT t),slR l,agX x f] (.bool true):=by
 rw [agX]
 refine PC.walk tok mixed cfg0 Tryz.func6 rfl Tryz.call6 (by simp [Pd.bel_slN,Px.bel_slN,Pd.bel_Ns,Px.bel_Ns,belAll_append,Pd.belF]) (by first | rfl | simp [Pd.bel_slN,Px.bel_slN,Pd.bel_Ns,Px.bel_Ns,belAll_append,Pd.belF]) ?_;refine vms1 Tryz.ntmps6 ?_
 refine callO.pc (Top.pc16 t) ?_
 cases hst:Top.small t
 ·refine vms1 hst ?_
  refine callO.pc pc10 ?_
  refine vms1 hst ?_
  refine endK.ret ?_ (by first | rfl | simp [Pd.bel_slN,Px.bel_slN,Pd.bel_Ns,Px.bel_Ns,belAll_append,Pd.belF]);simp [evRes,getT,retV,Tryz.f6]
 have hf:=Top.small_fit hst
 refine vms1 hst ?_
 refine callO.pc (pc9 l) ?_
 cases hsa:smallR l
 ·refine vms1 hsa ?_
  refine callO.pc pc10 ?_
  refine vms1 hsa ?_
  refine endK.ret ?_ (by first | rfl | simp [Pd.bel_slN,Px.bel_slN,Pd.bel_Ns,Px.bel_Ns,belAll_append,Pd.belF]);simp [evRes,getT,retV,Tryz.f6]
 obtain ⟨ha1,ha2⟩:=small_iff.1 hsa
 have hs:∀r ∈ l,r.p.length≤4000000∧r.q.length≤4000000:=fun r hr=>⟨by have:=(ha2 r hr).1;omega,by have:=(ha2 r hr).2;omega⟩
 obtain ⟨o,b,hv,h21,h22⟩:=route_both t l x f hf (by omega) hs
 have h23:=hops_eq hv
 cases o
 all_goals
  rw [hpV] at h21 h22 h23
  (try rw [Px.slH] at h21 h22 h23)
  refine vms1 hsa ?_
  refine callO.pc (pc19 l x f (by omega) fun r hr=>(hs r hr).1) ?_
  refine vms0 ?_
  refine callO.pc (pc20 l x f (by omega) fun r hr=>(hs r hr).1) ?_
  refine vms0 ?_
  refine callO.pc h21 ?_
  refine vms0 ?_
  refine callO.pc h22 ?_
  refine vms0 ?_
  refine callO.pc h23 ?_
  refine vms0 ?_
  refine callO.pc pc10 ?_
  refine vms0 ?_
  refine endK.ret ?_ (by first | rfl | simp [Pd.bel_slN,Px.bel_slN,Pd.bel_Ns,Px.bel_Ns,belAll_append,Pd.belF]);simp [evRes,getT,retV,Tryz.f6]
theorem law6 (xs:List V) (h:TypA tt 8 [36,22,44] xs):PC Tryz.prog 6 xs (.bool true):=by
 obtain ⟨v1,vs,c1,rfl,rfl,h1,h⟩:=typA_cons h
 obtain ⟨v2,vs,c2,rfl,rfl,h2,h⟩:=typA_cons h
 obtain ⟨v3,vs,c3,rfl,rfl,h3,h⟩:=typA_cons h
 obtain rfl:=typA_nil h
 obtain ⟨t,ht⟩:=typ_T (m:=3) h1
 obtain ⟨a,ha⟩:=typ_slR h2
 obtain ⟨x,f,hx⟩:=typ_X h3
 refine PC.lax ?_
 rw [laxs,laxs,laxs,laxs,ht,ha,hx]
 exact ro6 t a x f
end Go.Proofs.YtlbmbbaefncleaaGreatDoor
namespace Go.Proofs.YtlbmbbaefncleaaGreatDoor
open Go Go.Vm Go.ChangeShapes Go.WideShapes Go.ChangeAt Go.RowKit
abbrev LL:List (String × DataW Unit):=Rows.policyOverridesRow.laid
theorem gPow:Tryz.prog.globalNamed "internal/strconv.uint64pow10" = some 1:=by kernel_rfl
theorem tPow:(Tryz.prog.globals[1]?).map (·.type)=some 299:=by kernel_rfl
theorem gl1:(GlobTab.gl 1:Option (List (IntKind × Int)))=some [(.u64,1),(.u64,10),(.u64,100),(.u64,1000),(.u64,10000),(.u64,100000),(.u64,1000000),(.u64,10000000),(.u64,100000000),(.u64,1000000000),(.u64,10000000000),(.u64,100000000000),(.u64,1000000000000),(.u64,10000000000000),(.u64,100000000000000),(.u64,1000000000000000),(.u64,10000000000000000),(.u64,100000000000000000),(.u64,1000000000000000000),(.u64,10000000000000000000)]:=rfl
theorem gt_of_laid {W:World} (h:laidMetH Tryz.prog LL W):GT (fun _=>False) W:=by
 rw [MakeChecks.laidMetH_plain _ _ _ (by kernel_rfl)] at h
 obtain ⟨g',t',cs,fuel,p,hg',ht',hvar,hd⟩:=Lib.laidMet.reads h (n:= "internal/strconv.uint64pow10") (d:=Rows.laid_internal_strconv_uint64pow10) (by simp [LL,Rows.policyOverridesRow])
 obtain rfl:=Option.some.inj (gPow.symm.trans hg')
 obtain rfl:=Option.some.inj (tPow.symm.trans ht')
 have hc:=Lib.cells_of_tab (k:=.u64) (zs:=[1,10,100,1000,10000,100000,1000000,10000000,100000000,1000000000,10000000000,100000000000,1000000000000,10000000000000,100000000000000,1000000000000000,10000000000000000,100000000000000000,1000000000000000000,10000000000000000000])
  (show Tryz.prog.underlying 299=some (.array 20 128) by kernel_rfl) (show Tryz.prog.underlying 128=some (.int .u64) by kernel_rfl) (by kernel_rfl) (by kernel_rfl) hd
 have hcell:=World.var?_cell hg' hvar
 intro g l hgl
 have h0:g=1∧l=[(.u64,1),(.u64,10),(.u64,100),(.u64,1000),(.u64,10000),(.u64,100000),(.u64,1000000),(.u64,10000000),(.u64,100000000),(.u64,1000000000),(.u64,10000000000),(.u64,100000000000),(.u64,1000000000000),(.u64,10000000000000),(.u64,100000000000000),(.u64,1000000000000000),(.u64,10000000000000000),(.u64,100000000000000000),(.u64,1000000000000000000),(.u64,10000000000000000000)]:=by
  match g,hgl with
  | 0,hgl=>cases hgl
  | 1,hgl=>rw [gl1] at hgl;exact ⟨rfl,(Option.some.inj hgl).symm⟩
  | g+2,hgl=>cases hgl
 obtain ⟨rfl,rfl⟩:=h0
 have hcs:CellsAt W 1 0 cs.toList:=by
  intro i v hv
  rw [Nat.zero_add,hcell i,←hv,Array.getElem?_toList]
 refine ⟨?_,fun h=>h,?_⟩
 ·have h1:=hcell 0
  have h2:cs[0]? = some (.int .u64 1):=by rw [←Array.getElem?_toList,hc];rfl
  rw [h2] at h1
  apply Decidable.byContradiction
  intro hn
  unfold World.cell? at h1
  rw [Array.getElem?_eq_none (by simp only;omega)] at h1
  cases h1
 ·rw [hc] at hcs
  exact hcs
noncomputable def laidWorld (os:Os):World:=World.doorLaid Tryz.prog 34 os
theorem door_met (os:Os) (args:Array Value):laidMetH Tryz.prog LL ((laidWorld os).forCall (fun _ _=>0) ⟨#[],args,[]⟩).memory :=
 laidMetH_of_parts3 (fuel:=8) (laidMet_of_run' 8 (by kernel_rfl) (by kernel_rfl)) (by kernel_rfl) (by kernel_rfl)
end Go.Proofs.YtlbmbbaefncleaaGreatDoor

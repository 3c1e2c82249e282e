/-
  Joined by a program from the texts PxBld PxChk PxRef PxTree PxNmb PxTrim PxPint PxPrn PxGrm.
-/
import Derived.Test.YtlbmbbaefncleaaGreatDoorRc
import Derived.Test.YtlbmbbaefncleaaGreatDoorRb
set_option maxRecDepth 100000
set_option maxHeartbeats 4000000
set_option linter.all false
namespace Go.Proofs.YtlbmbbaefncleaaGreatDoor.Px
open Go.Vm
section
def bldR (sw:Int) (k:Nat) (l:List Nd):Prop :=
 if (chk sw k l).2=0 then ∃p,okP sw p∧l=flat p++(chk sw k l).1∧PC Tryz.prog 143 [slN l,.int .i64 sw] (.tup [encX p,slN (chk sw k l).1,.int .i64 0])
 else ∃m,PC Tryz.prog 143 [slN l,.int .i64 sw] (.tup [errX m,.sl true [] 0,.int .i64 (chk sw k l).2])
theorem bld_ok {sw:Int} {k:Nat} {l:List Nd} (p:Pr) (hp:okP sw p) (r:List Nd) (hr:chk sw k l=(r,0)) (hl:l=flat p++r) (h:PC Tryz.prog 143 [slN l,.int .i64 sw] (.tup [encX p,slN r,.int .i64 0])):bldR sw k l:=by
 rw [bldR,hr,if_pos rfl]
 exact ⟨p,hp,hl,h⟩
theorem bld_err {sw:Int} {k:Nat} {l:List Nd} (m:Er) (e:Int) (he:e≠0) (hr:chk sw k l=([],e)) (h:PC Tryz.prog 143 [slN l,.int .i64 sw] (.tup [errX m,.sl true [] 0,.int .i64 e])):bldR sw k l:=by
 rw [bldR,hr,if_neg he]
 exact ⟨m,h⟩
attribute [local push_cast] fmN fm0 take_N toN1 slN_nil encN slN cfg0 gfp_lenN gfd_lenN lfl_lenN encX st_errX os_errX
theorem pc143 (sw:Int):∀(k:Nat) (l:List Nd),l.length≤k→l.length≤4000000→bldR sw k l:=by
 intro k
 induction k with
 | zero =>
  intro l hl _
  have hl0:l=[]:=List.length_eq_zero_iff.1 (by omega)
  subst hl0
  refine bld_err .no 3 (by decide) rfl ?_
  refine PC.walk tok mixed cfg0 Tryz.func143 rfl Tryz.call143 (by simp [bel_clX,bel_errX]) (by first | rfl | simp [bel_clX,bel_errX]) ?_;simp (maxSteps:=2000000) -implicitDefEqProofs +contextual (disch:=first | assumption | omega | decide +kernel) only [push_cast,↓capI,seval,Nat.reduceLeDiff,Nat.reduceEqDiff,reduceCtorEq,↓reduceIte,Tryz.ntmps143]
  refine endK.ret ?_ (by first | rfl | simp [bel_clX,bel_errX]);simp [evRes,getT,retV,Tryz.f143,errX]
 | succ k ih =>
  intro l hl hm
  cases l with
  | nil =>
   refine bld_err .no 3 (by decide) rfl ?_
   refine PC.walk tok mixed cfg0 Tryz.func143 rfl Tryz.call143 (by simp [bel_clX,bel_errX]) (by first | rfl | simp [bel_clX,bel_errX]) ?_;simp (maxSteps:=2000000) -implicitDefEqProofs +contextual (disch:=first | assumption | omega | decide +kernel) only [push_cast,↓capI,seval,Nat.reduceLeDiff,Nat.reduceEqDiff,reduceCtorEq,↓reduceIte,Tryz.ntmps143]
   refine endK.ret ?_ (by first | rfl | simp [bel_clX,bel_errX]);simp [evRes,getT,retV,Tryz.f143,errX]
  | cons x l =>
   have hm2:l.length≤4000000:=by simp only [List.length_cons] at hm;omega
   have hk2:l.length≤k:=by simp only [List.length_cons] at hl;omega
   have hL:((l.length:Int)+1).toNat-1=l.length:=by omega
   obtain ⟨o,n⟩:=x
   by_cases h1:o=1∨o=2
   ·have hc:chk1 sw ⟨o,n⟩=0:=by
     have ha:¬arity o<0:=by rcases h1 with h | h<;>rw [h]<;>decide
     rw [chk1,if_neg ha,if_neg]
     rintro ⟨h3,_⟩
     simp only at h3
     omega
    have ha:arity o=0:=by rcases h1 with h | h<;>rw [h]<;>rfl
    have hn:¬o=3:=by omega
    refine bld_ok (.leaf ⟨o,n⟩) ⟨by simp only;omega,hc⟩ l (by rw [chk,if_neg (fun g=>g hc),ha];rfl) rfl ?_
    rcases h1 with h1 | h1
    ·subst h1
     refine PC.walk tok mixed cfg0 Tryz.func143 rfl Tryz.call143 (by simp [bel_clX,bel_errX]) (by first | rfl | simp [bel_clX,bel_errX]) ?_;simp (maxSteps:=2000000) -implicitDefEqProofs +contextual (disch:=first | assumption | omega | decide +kernel) only [push_cast,↓capI,seval,Nat.reduceLeDiff,Nat.reduceEqDiff,reduceCtorEq,↓reduceIte,Tryz.ntmps143]
     refine endK.ret ?_ (by first | rfl | simp [bel_clX,bel_errX]);simp [evRes,getT,retV,Tryz.f143,encX,tgX,clX,nN]
    ·subst h1
     refine PC.walk tok mixed cfg0 Tryz.func143 rfl Tryz.call143 (by simp [bel_clX,bel_errX]) (by first | rfl | simp [bel_clX,bel_errX]) ?_;simp (maxSteps:=2000000) -implicitDefEqProofs +contextual (disch:=first | assumption | omega | decide +kernel) only [push_cast,↓capI,seval,Nat.reduceLeDiff,Nat.reduceEqDiff,reduceCtorEq,↓reduceIte,Tryz.ntmps143]
     refine endK.ret ?_ (by first | rfl | simp [bel_clX,bel_errX]);simp [evRes,getT,retV,Tryz.f143,encX,tgX,clX,nN]
   have n1:¬o=1:=by omega
   have n2:¬o=2:=by omega
   by_cases h3:o=3
   ·subst h3
    have ha:arity 3=0:=rfl
    by_cases hb:badN sw ⟨3,n⟩
    ·have hc:chk1 sw ⟨3,n⟩=9:=by
      rw [chk1]
      simp only [ha]
      rw [if_neg (by decide),if_pos ⟨trivial,hb⟩]
     refine bld_err .no 9 (by decide) (by rw [chk,hc,if_pos (by decide)]) ?_
     by_cases b1:n<0
     ·refine PC.walk tok mixed cfg0 Tryz.func143 rfl Tryz.call143 (by simp [bel_clX,bel_errX]) (by first | rfl | simp [bel_clX,bel_errX]) ?_;simp (maxSteps:=2000000) -implicitDefEqProofs +contextual (disch:=first | assumption | omega | decide +kernel) only [push_cast,↓capI,seval,Nat.reduceLeDiff,Nat.reduceEqDiff,reduceCtorEq,↓reduceIte,Tryz.ntmps143]
      (try simp (maxSteps:=2000000) -implicitDefEqProofs +contextual (disch:=first | assumption | omega | decide +kernel) only [push_cast,↓capI,seval,Nat.reduceLeDiff,Nat.reduceEqDiff,reduceCtorEq,↓reduceIte,b1])
      refine endK.ret ?_ (by first | rfl | simp [bel_clX,bel_errX]);simp [evRes,getT,retV,Tryz.f143,errX]
     by_cases b2:sw≤n
     ·refine PC.walk tok mixed cfg0 Tryz.func143 rfl Tryz.call143 (by simp [bel_clX,bel_errX]) (by first | rfl | simp [bel_clX,bel_errX]) ?_;simp (maxSteps:=2000000) -implicitDefEqProofs +contextual (disch:=first | assumption | omega | decide +kernel) only [push_cast,↓capI,seval,Nat.reduceLeDiff,Nat.reduceEqDiff,reduceCtorEq,↓reduceIte,Tryz.ntmps143]
      (try simp (maxSteps:=2000000) -implicitDefEqProofs +contextual (disch:=first | assumption | omega | decide +kernel) only [push_cast,↓capI,seval,Nat.reduceLeDiff,Nat.reduceEqDiff,reduceCtorEq,↓reduceIte,b1,b2])
      refine endK.ret ?_ (by first | rfl | simp [bel_clX,bel_errX]);simp [evRes,getT,retV,Tryz.f143,errX]
     have b3:999999999<n:=by rcases hb with h | h | h<;>simp only at h<;>omega
     refine PC.walk tok mixed cfg0 Tryz.func143 rfl Tryz.call143 (by simp [bel_clX,bel_errX]) (by first | rfl | simp [bel_clX,bel_errX]) ?_;simp (maxSteps:=2000000) -implicitDefEqProofs +contextual (disch:=first | assumption | omega | decide +kernel) only [push_cast,↓capI,seval,Nat.reduceLeDiff,Nat.reduceEqDiff,reduceCtorEq,↓reduceIte,Tryz.ntmps143]
     (try simp (maxSteps:=2000000) -implicitDefEqProofs +contextual (disch:=first | assumption | omega | decide +kernel) only [push_cast,↓capI,seval,Nat.reduceLeDiff,Nat.reduceEqDiff,reduceCtorEq,↓reduceIte,b1,b2,b3])
     refine endK.ret ?_ (by first | rfl | simp [bel_clX,bel_errX]);simp [evRes,getT,retV,Tryz.f143,errX]
    ·have hc:chk1 sw ⟨3,n⟩=0:=by
      rw [chk1]
      simp only [ha]
      rw [if_neg (by decide),if_neg (fun h=>hb h.2)]
     have b1:¬n<0:=fun h=>hb (.inl h)
     have b2:¬sw≤n:=fun h=>hb (.inr (.inl h))
     have b3:¬999999999<n:=fun h=>hb (.inr (.inr h))
     refine bld_ok (.leaf ⟨3,n⟩) ⟨by simp,hc⟩ l (by rw [chk,if_neg (fun g=>g hc)];rfl) rfl ?_
     refine PC.walk tok mixed cfg0 Tryz.func143 rfl Tryz.call143 (by simp [bel_clX,bel_errX]) (by first | rfl | simp [bel_clX,bel_errX]) ?_;simp (maxSteps:=2000000) -implicitDefEqProofs +contextual (disch:=first | assumption | omega | decide +kernel) only [push_cast,↓capI,seval,Nat.reduceLeDiff,Nat.reduceEqDiff,reduceCtorEq,↓reduceIte,Tryz.ntmps143]
     (try simp (maxSteps:=2000000) -implicitDefEqProofs +contextual (disch:=first | assumption | omega | decide +kernel) only [push_cast,↓capI,seval,Nat.reduceLeDiff,Nat.reduceEqDiff,reduceCtorEq,↓reduceIte,b1,b2,b3])
     refine endK.ret ?_ (by first | rfl | simp [bel_clX,bel_errX]);simp [evRes,getT,retV,Tryz.f143,encX,tgX,clX,nN]
   by_cases h6:o=6
   ·subst h6
    have hc:chk1 sw ⟨6,n⟩=0:=chk1_op (.inl rfl)
    have ha:arity 6=1:=rfl
    have hr:chk sw (k+1) (⟨6,n⟩::l)=if (chk sw k l).2≠0 then ([],(chk sw k l).2) else ((chk sw k l).1,0):=by
     rw [chk,if_neg (fun g=>g hc)]
     simp only [ha]
     rfl
    have i1:=ih l hk2 hm2
    rw [bldR] at i1
    by_cases he:(chk sw k l).2=0
    ·rw [if_pos he] at i1
     obtain ⟨p,hp,hl,hpc⟩:=i1
     refine bld_ok (.un ⟨6,n⟩ p) ⟨rfl,hp⟩ (chk sw k l).1 (by rw [hr,if_neg (fun g=>g he)]) (by rw [flat,List.cons_append,←hl]) ?_
     refine PC.walk tok mixed cfg0 Tryz.func143 rfl Tryz.call143 (by simp [bel_clX,bel_errX]) (by first | rfl | simp [bel_clX,bel_errX]) ?_;simp (maxSteps:=2000000) -implicitDefEqProofs +contextual (disch:=first | assumption | omega | decide +kernel) only [push_cast,↓capI,seval,Nat.reduceLeDiff,Nat.reduceEqDiff,reduceCtorEq,↓reduceIte,Tryz.ntmps143]
     refine callO.pc hpc ?_
     simp (maxSteps:=2000000) -implicitDefEqProofs +contextual (disch:=first | assumption | omega | decide +kernel) only [push_cast,↓capI,seval,Nat.reduceLeDiff,Nat.reduceEqDiff,reduceCtorEq,↓reduceIte]
     refine endK.ret ?_ (by first | rfl | simp [bel_clX,bel_errX]);simp [evRes,getT,retV,Tryz.f143,encX,tgX,clX,slN]
    ·rw [if_neg he] at i1
     obtain ⟨m,hpc⟩:=i1
     refine bld_err (.un m) _ he (by rw [hr,if_pos he]) ?_
     cases m
     all_goals
      refine PC.walk tok mixed cfg0 Tryz.func143 rfl Tryz.call143 (by simp [bel_clX,bel_errX]) (by first | rfl | simp [bel_clX,bel_errX]) ?_;simp (maxSteps:=2000000) -implicitDefEqProofs +contextual (disch:=first | assumption | omega | decide +kernel) only [push_cast,↓capI,seval,Nat.reduceLeDiff,Nat.reduceEqDiff,reduceCtorEq,↓reduceIte,Tryz.ntmps143]
      refine callO.pc hpc ?_
      simp (maxSteps:=2000000) -implicitDefEqProofs +contextual (disch:=first | assumption | omega | decide +kernel) only [push_cast,↓capI,seval,Nat.reduceLeDiff,Nat.reduceEqDiff,reduceCtorEq,↓reduceIte,errX]
      refine endK.ret ?_ (by first | rfl | simp [bel_clX,bel_errX]);simp [evRes,getT,retV,Tryz.f143,errX]
   by_cases h45:o=4∨o=5
   ·have hc:chk1 sw ⟨o,n⟩=0:=chk1_op (.inr h45)
    have ha:arity o=2:=by rcases h45 with h | h<;>rw [h]<;>rfl
    have hr:chk sw (k+1) (⟨o,n⟩::l)=if (chk sw k l).2≠0 then ([],(chk sw k l).2) else if (chk sw k (chk sw k l).1).2≠0 then ([],(chk sw k (chk sw k l).1).2) else ((chk sw k (chk sw k l).1).1,0):=by
     rw [chk,if_neg (fun g=>g hc)]
     simp only [ha]
     rfl
    have i1:=ih l hk2 hm2
    have hlen:=chk_len sw k l
    have i2:=ih (chk sw k l).1 (by omega) (by omega)
    rw [bldR] at i1 i2
    by_cases he:(chk sw k l).2=0
    case neg =>
     rw [if_neg he] at i1
     obtain ⟨m,hpc⟩:=i1
     refine bld_err .no _ he (by rw [hr,if_pos he]) ?_
     rcases h45 with h | h<;>subst h
     all_goals
      refine PC.walk tok mixed cfg0 Tryz.func143 rfl Tryz.call143 (by simp [bel_clX,bel_errX]) (by first | rfl | simp [bel_clX,bel_errX]) ?_;simp (maxSteps:=2000000) -implicitDefEqProofs +contextual (disch:=first | assumption | omega | decide +kernel) only [push_cast,↓capI,seval,Nat.reduceLeDiff,Nat.reduceEqDiff,reduceCtorEq,↓reduceIte,Tryz.ntmps143]
      refine callO.pc hpc ?_
      (try simp (maxSteps:=2000000) -implicitDefEqProofs +contextual (disch:=first | assumption | omega | decide +kernel) only [push_cast,↓capI,seval,Nat.reduceLeDiff,Nat.reduceEqDiff,reduceCtorEq,↓reduceIte,he])
      refine endK.ret ?_ (by first | rfl | simp [bel_clX,bel_errX]);simp [evRes,getT,retV,Tryz.f143,errX]
    rw [if_pos he] at i1
    rw [if_neg (fun g=>g he)] at hr
    obtain ⟨p,hp,hl1,hpc⟩:=i1
    generalize chk sw k l=c at *
    obtain ⟨r,e⟩:=c
    simp only at he hl1 hpc i2 hr hlen
    by_cases he2:(chk sw k r).2=0
    ·rw [if_pos he2] at i2
     rw [if_neg (fun g=>g he2)] at hr
     obtain ⟨q,hq,hl2,hpc2⟩:=i2
     refine bld_ok (.bin ⟨o,n⟩ p q) ⟨h45,hp,hq⟩ (chk sw k r).1 hr (by rw [flat,List.cons_append,List.append_assoc,←hl2,←hl1]) ?_
     rcases h45 with h | h<;>subst h
     all_goals
      refine PC.walk tok mixed cfg0 Tryz.func143 rfl Tryz.call143 (by simp [bel_clX,bel_errX]) (by first | rfl | simp [bel_clX,bel_errX]) ?_;simp (maxSteps:=2000000) -implicitDefEqProofs +contextual (disch:=first | assumption | omega | decide +kernel) only [push_cast,↓capI,seval,Nat.reduceLeDiff,Nat.reduceEqDiff,reduceCtorEq,↓reduceIte,Tryz.ntmps143]
      refine callO.pc hpc ?_
      simp (maxSteps:=2000000) -implicitDefEqProofs +contextual (disch:=first | assumption | omega | decide +kernel) only [push_cast,↓capI,seval,Nat.reduceLeDiff,Nat.reduceEqDiff,reduceCtorEq,↓reduceIte]
      refine callO.pc hpc2 ?_
      simp (maxSteps:=2000000) -implicitDefEqProofs +contextual (disch:=first | assumption | omega | decide +kernel) only [push_cast,↓capI,seval,Nat.reduceLeDiff,Nat.reduceEqDiff,reduceCtorEq,↓reduceIte]
      refine endK.ret ?_ (by first | rfl | simp [bel_clX,bel_errX]);simp [evRes,getT,retV,Tryz.f143,encX,tgX,clX,slN]
    ·rw [if_neg he2] at i2
     rw [if_pos he2] at hr
     obtain ⟨m,hpc2⟩:=i2
     refine bld_err (.bin o p m) _ he2 hr ?_
     rcases h45 with h | h<;>subst h
     all_goals cases m
     all_goals
      refine PC.walk tok mixed cfg0 Tryz.func143 rfl Tryz.call143 (by simp [bel_clX,bel_errX]) (by first | rfl | simp [bel_clX,bel_errX]) ?_;simp (maxSteps:=2000000) -implicitDefEqProofs +contextual (disch:=first | assumption | omega | decide +kernel) only [push_cast,↓capI,seval,Nat.reduceLeDiff,Nat.reduceEqDiff,reduceCtorEq,↓reduceIte,Tryz.ntmps143]
      refine callO.pc hpc ?_
      simp (maxSteps:=2000000) -implicitDefEqProofs +contextual (disch:=first | assumption | omega | decide +kernel) only [push_cast,↓capI,seval,Nat.reduceLeDiff,Nat.reduceEqDiff,reduceCtorEq,↓reduceIte]
      refine callO.pc hpc2 ?_
      simp (maxSteps:=2000000) -implicitDefEqProofs +contextual (disch:=first | assumption | omega | decide +kernel) only [push_cast,↓capI,seval,Nat.reduceLeDiff,Nat.reduceEqDiff,reduceCtorEq,↓reduceIte,errX]
      refine endK.ret ?_ (by first | rfl | simp [bel_clX,bel_errX]);simp [evRes,getT,retV,Tryz.f143,errX,encX]
   ·have ha:arity o=-1:=by rw [arity,if_neg (by omega),if_neg h6,if_neg h45]
    have hc:chk1 sw ⟨o,n⟩=11:=by
     rw [chk1]
     simp only [ha]
     rfl
    have n4:¬o=4:=by omega
    have n5:¬o=5:=by omega
    refine bld_err .no 11 (by decide) (by rw [chk,hc,if_pos (by decide)]) ?_
    refine PC.walk tok mixed cfg0 Tryz.func143 rfl Tryz.call143 (by simp [bel_clX,bel_errX]) (by first | rfl | simp [bel_clX,bel_errX]) ?_;simp (maxSteps:=2000000) -implicitDefEqProofs +contextual (disch:=first | assumption | omega | decide +kernel) only [push_cast,↓capI,seval,Nat.reduceLeDiff,Nat.reduceEqDiff,reduceCtorEq,↓reduceIte,Tryz.ntmps143]
    (try simp (maxSteps:=2000000) -implicitDefEqProofs +contextual (disch:=first | assumption | omega | decide +kernel) only [push_cast,↓capI,seval,Nat.reduceLeDiff,Nat.reduceEqDiff,reduceCtorEq,↓reduceIte,n1,n2,h3,n4,n5,h6])
    refine endK.ret ?_ (by first | rfl | simp [bel_clX,bel_errX]);simp [evRes,getT,retV,Tryz.f143,errX]
end
section
def checkP (sw:Int) (l:List Nd):Int:=if 24<l.length then 12 else if (chk sw l.length l).2=0∧(chk sw l.length l).1≠[] then 4 else (chk sw l.length l).2
theorem checkP_big {sw:Int} {l:List Nd} (h:24<l.length):checkP sw l=12:=by rw [checkP,if_pos h]
theorem checkP_err {sw:Int} {l:List Nd} (h:¬24<l.length) (he:¬(chk sw l.length l).2=0):checkP sw l=(chk sw l.length l).2:=by rw [checkP,if_neg h,if_neg (fun g=>he g.1)]
theorem checkP_long {sw:Int} {l:List Nd} (h:¬24<l.length) (he:(chk sw l.length l).2=0) (hn:¬(chk sw l.length l).1=[]):checkP sw l=4:=by rw [checkP,if_neg h,if_pos ⟨he,hn⟩]
theorem checkP_ok {sw:Int} {l:List Nd} (h:¬24<l.length) (he:(chk sw l.length l).2=0) (hn:(chk sw l.length l).1=[]):checkP sw l=0:=by rw [checkP,if_neg h,if_neg (fun g=>g.2 hn),he]
def treR (f:Nat) (args:List V) (sw:Int) (l:List Nd):Prop :=
 (checkP sw l=0∧∃p,okP sw p∧l=flat p∧l.length≤24∧PC Tryz.prog f args (.tup [encX p,.int .i64 0])) ∨
 (checkP sw l≠0∧PC Tryz.prog f args (.tup [.nili,.int .i64 (checkP sw l)]))
attribute [local push_cast] fmN fm0 take_N toN1 slN_nil encN slN cfg0 gfp_lenN gfd_lenN lfl_lenN encX st_errX os_errX
theorem tree26 (sw:Int) (l:List Nd) (hl:l.length≤4000000):treR 92 [slN l,.int .i64 sw] sw l:=by
 by_cases h:24<l.length
 ·refine .inr ⟨by rw [checkP_big h];decide,?_⟩
  rw [checkP_big h]
  refine PC.walk tok mixed cfg0 Tryz.func92 rfl Tryz.call92 (by simp [bel_clX,bel_errX]) (by first | rfl | simp [bel_clX,bel_errX]) ?_;refine vms1 Tryz.ntmps92 ?_
  refine endK.ret ?_ (by first | rfl | simp [bel_clX,bel_errX]);simp [evRes,getT,retV,Tryz.f92]
 have hb:=pc143 sw l.length l (Nat.le_refl _) hl
 rw [bldR] at hb
 by_cases he:(chk sw l.length l).2=0
 ·rw [if_pos he] at hb
  obtain ⟨p,hp,hf,hpc⟩:=hb
  by_cases hn:(chk sw l.length l).1=[]
  ·refine .inl ⟨checkP_ok h he hn,p,hp,by rw [hn,List.append_nil] at hf;exact hf,by omega,?_⟩
   rw [hn] at hpc
   refine PC.walk tok mixed cfg0 Tryz.func92 rfl Tryz.call92 (by simp [bel_clX,bel_errX]) (by first | rfl | simp [bel_clX,bel_errX]) ?_;refine vms1 Tryz.ntmps92 ?_
   refine callO.pc hpc ?_
   refine vms0 ?_
   refine endK.ret ?_ (by first | rfl | simp [bel_clX,bel_errX]);simp [evRes,getT,retV,Tryz.f92,encX]
  ·have hp0:0<(chk sw l.length l).1.length:=List.length_pos_iff.2 hn
   have hle:=chk_len sw l.length l
   refine .inr ⟨by rw [checkP_long h he hn];decide,?_⟩
   rw [checkP_long h he hn]
   refine PC.walk tok mixed cfg0 Tryz.func92 rfl Tryz.call92 (by simp [bel_clX,bel_errX]) (by first | rfl | simp [bel_clX,bel_errX]) ?_;refine vms1 Tryz.ntmps92 ?_
   refine callO.pc hpc ?_
   refine vms1 hp0 ?_
   refine endK.ret ?_ (by first | rfl | simp [bel_clX,bel_errX]);simp [evRes,getT,retV,Tryz.f92]
 ·rw [if_neg he] at hb
  obtain ⟨m,hpc⟩:=hb
  refine .inr ⟨by rw [checkP_err h he];exact he,?_⟩
  rw [checkP_err h he]
  refine PC.walk tok mixed cfg0 Tryz.func92 rfl Tryz.call92 (by simp [bel_clX,bel_errX]) (by first | rfl | simp [bel_clX,bel_errX]) ?_;refine vms1 Tryz.ntmps92 ?_
  refine callO.pc hpc ?_
  refine vms1 he ?_
  refine endK.ret ?_ (by first | rfl | simp [bel_clX,bel_errX]);simp [evRes,getT,retV,Tryz.f92]
theorem tree28 (l:List Nd) (hl:l.length≤4000000):treR 73 [slN l] 1000000000 l:=by
 rcases tree26 1000000000 l hl with ⟨hc,p,hp,hf,h24,hpc⟩ | ⟨hc,hpc⟩
 ·refine .inl ⟨hc,p,hp,hf,h24,?_⟩
  refine PC.walk tok mixed cfg0 Tryz.func73 rfl Tryz.call73 (by simp [bel_clX,bel_errX]) (by first | rfl | simp [bel_clX,bel_errX]) ?_;refine vms1 Tryz.ntmps73 ?_
  refine callO.pc hpc ?_
  refine vms0 ?_
  refine endK.ret ?_ (by first | rfl | simp [bel_clX,bel_errX]);simp [evRes,getT,retV,Tryz.f73,encX]
 ·refine .inr ⟨hc,?_⟩
  refine PC.walk tok mixed cfg0 Tryz.func73 rfl Tryz.call73 (by simp [bel_clX,bel_errX]) (by first | rfl | simp [bel_clX,bel_errX]) ?_;refine vms1 Tryz.ntmps73 ?_
  refine callO.pc hpc ?_
  refine vms0 ?_
  refine endK.ret ?_ (by first | rfl | simp [bel_clX,bel_errX]);simp [evRes,getT,retV,Tryz.f73]
end
section
attribute [local push_cast] fmN fm0 take_N toN1 slN_nil encN slN cfg0 gfp_lenN gfd_lenN lfl_lenN
theorem pc144 (o:Int):PC Tryz.prog 144 [.int .i64 o] (.int .i64 (arity o)):=by
 refine PC.walk tok mixed cfg0 Tryz.func144 rfl Tryz.call144 (by simp) (by first | rfl | simp) ?_;simp (maxSteps:=2000000) -implicitDefEqProofs +contextual (disch:=first | assumption | omega | decide +kernel) only [push_cast,↓capI,seval,Nat.reduceLeDiff,Nat.reduceEqDiff,reduceCtorEq,↓reduceIte,Tryz.ntmps144]
 refine ⟨fun h=>?_,fun h1=>⟨fun h=>?_,fun h2=>⟨fun h=>?_,fun h3=>⟨fun h=>?_,fun h4=>⟨fun h=>?_,fun h5=>⟨fun h=>?_,fun h6=>?_⟩⟩⟩⟩⟩⟩
 ·refine endK.retA ?_;simp [evRes,getT,retV,Tryz.f144]
  rfl
 ·refine endK.retA ?_;simp [evRes,getT,retV,Tryz.f144]
  rfl
 ·refine endK.retA ?_;simp [evRes,getT,retV,Tryz.f144]
  rfl
 ·refine endK.retA ?_;simp [evRes,getT,retV,Tryz.f144]
  rfl
 ·refine endK.retA ?_;simp [evRes,getT,retV,Tryz.f144]
  rfl
 ·refine endK.retA ?_;simp [evRes,getT,retV,Tryz.f144]
  rfl
 ·refine endK.retA ?_;simp [evRes,getT,retV,Tryz.f144,arity,h1,h2,h3,h4,h5,h6,or_self,if_false]
def repS (f:Nat→Nat × Int):Nat→Nat→Nat × Int
 | 0,a=>(a,0)
 | n+1,a=>if (f a).2≠0 then f a else repS f n (f a).1
def scan (sw:Int):Nat→List Nd→Nat→Nat × Int
 | 0,_,a=>(a,3)
 | k+1,l,a=>match l[a]? with
  | none=>(a,3)
  | some x=>if chk1 sw x≠0 then (a,chk1 sw x) else repS (scan sw k l) (arity x.op).toNat (a+1)
theorem repS_le {f:Nat→Nat × Int} {m:Nat} (h:∀a,a≤m→(f a).1≤m):∀n a,a≤m→(repS f n a).1≤m
 | 0,a,ha=>ha
 | n+1,a,ha=>by
  rw [repS]
  split
  ·exact h a ha
  ·exact repS_le h n _ (h a ha)
theorem scan_le (sw:Int):∀k l a,a≤l.length→(scan sw k l a).1≤l.length
 | 0,l,a,h=>h
 | k+1,l,a,h=>by
  rw [scan]
  split
  ·exact h
  ·rename_i x hx
   split
   ·exact h
   ·exact repS_le (scan_le sw k l) _ _ (List.getElem?_eq_some_iff.1 hx).1
theorem repS_ge {f:Nat→Nat × Int} (h:∀a,a≤(f a).1):∀n a,a≤(repS f n a).1
 | 0,a=>Nat.le_refl _
 | n+1,a=>by
  rw [repS]
  split
  ·exact h a
  ·exact Nat.le_trans (h a) (repS_ge h n _)
theorem scan_ge (sw:Int):∀k l a,a≤(scan sw k l a).1
 | 0,l,a=>Nat.le_refl _
 | k+1,l,a=>by
  rw [scan]
  split
  ·exact Nat.le_refl _
  ·split
   ·exact Nat.le_refl _
   ·exact Nat.le_trans (Nat.le_succ _) (repS_ge (scan_ge sw k l) _ _)
theorem repS_rep {l:List Nd} {f:Nat→Nat × Int} {g:List Nd→List Nd × Int} (h:∀a,a≤l.length→(f a).1≤l.length∧(f a).2=(g (l.drop a)).2∧((f a).2=0→l.drop (f a).1=(g (l.drop a)).1)) :
  ∀n a,a≤l.length→(repS f n a).2=(rep g n (l.drop a)).2∧((repS f n a).2=0→l.drop (repS f n a).1=(rep g n (l.drop a)).1)
 | 0,a,ha=>⟨rfl,fun _=>rfl⟩
 | n+1,a,ha=>by
  obtain ⟨h1,h2,h3⟩:=h a ha
  rw [repS,rep,←h2]
  by_cases he:(f a).2=0
  ·rw [if_neg (fun h=>h he),if_neg (fun h=>h he),←h3 he]
   exact repS_rep h n _ h1
  ·rw [if_pos he,if_pos he]
   exact ⟨rfl,fun h=>absurd h he⟩
theorem scan_chk (sw:Int):∀k l a,a≤l.length→(scan sw k l a).2=(chk sw k (l.drop a)).2∧((scan sw k l a).2=0→l.drop (scan sw k l a).1=(chk sw k (l.drop a)).1)
 | 0,l,a,ha=>by
  have:(chk sw 0 (l.drop a)).2=3:=by cases l.drop a<;>rfl
  rw [this]
  exact ⟨rfl,fun h=>by simp [scan] at h⟩
 | k+1,l,a,ha=>by
  by_cases h:a<l.length
  ·rw [List.drop_eq_getElem_cons h,scan,List.getElem?_eq_getElem h,chk]
   simp only
   by_cases hc:chk1 sw l[a]=0
   ·rw [if_neg (fun h=>h hc),if_neg (fun h=>h hc)]
    exact repS_rep (fun b hb=>⟨scan_le sw k l b hb,scan_chk sw k l b hb⟩) _ _ h
   ·rw [if_pos hc,if_pos hc]
    exact ⟨rfl,fun h=>absurd h hc⟩
  ·rw [List.drop_of_length_le (by omega),scan,List.getElem?_eq_none (by omega)]
   exact ⟨rfl,fun h=>by simp at h⟩
def encIE (r:Nat × Int):V:=.tup [.int .i64 r.1,.int .i64 r.2]
theorem encIE_d (r:Nat × Int):encIE r=.tup [.int .i64 r.1,.int .i64 r.2]:=rfl
theorem encIE_ok {r:Nat × Int} (h:r.2=0):encIE r=.tup [.int .i64 r.1,.int .i64 0]:=by
 rw [encIE,h]
theorem arity_le (o:Int):arity o≤2:=by
 unfold arity
 split
 ·decide
 split
 ·decide
 split<;>decide
theorem pc96 (sw:Int):∀(k:Nat) (l:List Nd) (a:Nat),a≤l.length→l.length-a≤k→l.length≤4000000→PC Tryz.prog 96 [slN l,.int .i64 a,.int .i64 sw] (encIE (scan sw k l a)):=by
 intro k
 induction k with
 | zero =>
  intro l a ha hl _
  have hla:(l.length:Int)≤a:=by omega
  refine PC.walk tok mixed cfg0 Tryz.func96 rfl Tryz.call96 (by simp) (by first | rfl | simp) ?_;simp (maxSteps:=2000000) -implicitDefEqProofs +contextual (disch:=first | assumption | omega | decide +kernel) only [push_cast,↓capI,seval,Nat.reduceLeDiff,Nat.reduceEqDiff,reduceCtorEq,↓reduceIte,Tryz.ntmps96]
  refine endK.retA ?_;simp [evRes,getT,retV,Tryz.f96,scan,encIE]
 | succ k ih =>
  intro l a ha hl hm
  by_cases hlt:a<l.length
  case neg =>
   have hla:(l.length:Int)≤a:=by omega
   have hn:l[a]? = none:=List.getElem?_eq_none (by omega)
   refine PC.walk tok mixed cfg0 Tryz.func96 rfl Tryz.call96 (by simp) (by first | rfl | simp) ?_;simp (maxSteps:=2000000) -implicitDefEqProofs +contextual (disch:=first | assumption | omega | decide +kernel) only [push_cast,↓capI,seval,Nat.reduceLeDiff,Nat.reduceEqDiff,reduceCtorEq,↓reduceIte,Tryz.ntmps96]
   refine endK.retA ?_;simp [evRes,getT,retV,Tryz.f96,scan,encIE,hn]
  have hx:l[a]? = some l[a]:=List.getElem?_eq_getElem hlt
  have hs:scan sw (k+1) l a=if chk1 sw l[a]≠0 then (a,chk1 sw l[a]) else repS (scan sw k l) (arity l[a].op).toNat (a+1):=by
   rw [scan,hx]
  rw [hs]
  generalize hX:l[a]=x at hs hx ⊢
  obtain ⟨op,n⟩:=x
  simp only at hs hx
  have h39:=pc144 op
  by_cases ha1:arity op<0
  ·have hc:chk1 sw ⟨op,n⟩=11:=by rw [chk1,if_pos ha1]
   rw [hc,if_pos (by decide)]
   refine PC.walk tok mixed cfg0 Tryz.func96 rfl Tryz.call96 (by simp) (by first | rfl | simp) ?_;simp (maxSteps:=2000000) -implicitDefEqProofs +contextual (disch:=first | assumption | omega | decide +kernel) only [push_cast,↓capI,seval,Nat.reduceLeDiff,Nat.reduceEqDiff,reduceCtorEq,↓reduceIte,Tryz.ntmps96]
   simp (maxSteps:=2000000) -implicitDefEqProofs +contextual (disch:=first | assumption | omega | decide +kernel) only [push_cast,↓capI,seval,Nat.reduceLeDiff,Nat.reduceEqDiff,reduceCtorEq,↓reduceIte,hX]
   refine callO.pc h39 ?_
   simp (maxSteps:=2000000) -implicitDefEqProofs +contextual (disch:=first | assumption | omega | decide +kernel) only [push_cast,↓capI,seval,Nat.reduceLeDiff,Nat.reduceEqDiff,reduceCtorEq,↓reduceIte,ha1]
   refine endK.retA ?_;simp [evRes,getT,retV,Tryz.f96,encIE]
  obtain ⟨m,hA⟩:∃m:Nat,arity op=(m:Int):=⟨(arity op).toNat,by omega⟩
  by_cases hb:op=3∧badN sw ⟨op,n⟩
  ·have hc:chk1 sw ⟨op,n⟩=9:=by rw [chk1,if_neg ha1,if_pos hb]
   rw [hc,if_pos (by decide)]
   obtain ⟨h3,hb⟩:=hb
   by_cases b1:n<0
   ·refine PC.walk tok mixed cfg0 Tryz.func96 rfl Tryz.call96 (by simp) (by first | rfl | simp) ?_;simp (maxSteps:=2000000) -implicitDefEqProofs +contextual (disch:=first | assumption | omega | decide +kernel) only [push_cast,↓capI,seval,Nat.reduceLeDiff,Nat.reduceEqDiff,reduceCtorEq,↓reduceIte,Tryz.ntmps96]
    simp (maxSteps:=2000000) -implicitDefEqProofs +contextual (disch:=first | assumption | omega | decide +kernel) only [push_cast,↓capI,seval,Nat.reduceLeDiff,Nat.reduceEqDiff,reduceCtorEq,↓reduceIte,hX]
    refine callO.pc h39 ?_
    simp (maxSteps:=2000000) -implicitDefEqProofs +contextual (disch:=first | assumption | omega | decide +kernel) only [push_cast,↓capI,seval,Nat.reduceLeDiff,Nat.reduceEqDiff,reduceCtorEq,↓reduceIte,ha1,hX,h3,b1]
    refine endK.retA ?_;simp [evRes,getT,retV,Tryz.f96,encIE]
   by_cases b2:sw≤n
   ·refine PC.walk tok mixed cfg0 Tryz.func96 rfl Tryz.call96 (by simp) (by first | rfl | simp) ?_;simp (maxSteps:=2000000) -implicitDefEqProofs +contextual (disch:=first | assumption | omega | decide +kernel) only [push_cast,↓capI,seval,Nat.reduceLeDiff,Nat.reduceEqDiff,reduceCtorEq,↓reduceIte,Tryz.ntmps96]
    simp (maxSteps:=2000000) -implicitDefEqProofs +contextual (disch:=first | assumption | omega | decide +kernel) only [push_cast,↓capI,seval,Nat.reduceLeDiff,Nat.reduceEqDiff,reduceCtorEq,↓reduceIte,hX]
    refine callO.pc h39 ?_
    simp (maxSteps:=2000000) -implicitDefEqProofs +contextual (disch:=first | assumption | omega | decide +kernel) only [push_cast,↓capI,seval,Nat.reduceLeDiff,Nat.reduceEqDiff,reduceCtorEq,↓reduceIte,ha1,hX,h3,b1,b2]
    refine endK.retA ?_;simp [evRes,getT,retV,Tryz.f96,encIE]
   have b3:999999999<n:=by rcases hb with h | h | h<;>simp only at h<;>omega
   refine PC.walk tok mixed cfg0 Tryz.func96 rfl Tryz.call96 (by simp) (by first | rfl | simp) ?_;simp (maxSteps:=2000000) -implicitDefEqProofs +contextual (disch:=first | assumption | omega | decide +kernel) only [push_cast,↓capI,seval,Nat.reduceLeDiff,Nat.reduceEqDiff,reduceCtorEq,↓reduceIte,Tryz.ntmps96]
   simp (maxSteps:=2000000) -implicitDefEqProofs +contextual (disch:=first | assumption | omega | decide +kernel) only [push_cast,↓capI,seval,Nat.reduceLeDiff,Nat.reduceEqDiff,reduceCtorEq,↓reduceIte,hX]
   refine callO.pc h39 ?_
   simp (maxSteps:=2000000) -implicitDefEqProofs +contextual (disch:=first | assumption | omega | decide +kernel) only [push_cast,↓capI,seval,Nat.reduceLeDiff,Nat.reduceEqDiff,reduceCtorEq,↓reduceIte,ha1,hX,h3,b1,b2,b3]
   refine endK.retA ?_;simp [evRes,getT,retV,Tryz.f96,encIE]
  have hc:chk1 sw ⟨op,n⟩=0:=by rw [chk1,if_neg ha1,if_neg hb]
  rw [hc,if_neg (fun h=>h rfl),hA,Int.toNat_natCast]
  have hle:=arity_le op
  rw [hA] at h39
  have ha2:¬(m:Int)<0:=by omega
  by_cases h3:op=3
  ·subst h3
   have b0:¬badN sw ⟨3,n⟩:=fun h=>hb ⟨rfl,h⟩
   have b1:¬n<0:=fun h=>b0 (.inl h)
   have b2:¬sw≤n:=fun h=>b0 (.inr (.inl h))
   have b3:¬999999999<n:=fun h=>b0 (.inr (.inr h))
   refine PC.walk tok mixed cfg0 Tryz.func96 rfl Tryz.call96 (by simp) (by first | rfl | simp) ?_;simp (maxSteps:=2000000) -implicitDefEqProofs +contextual (disch:=first | assumption | omega | decide +kernel) only [push_cast,↓capI,seval,Nat.reduceLeDiff,Nat.reduceEqDiff,reduceCtorEq,↓reduceIte,Tryz.ntmps96]
   simp (maxSteps:=2000000) -implicitDefEqProofs +contextual (disch:=first | assumption | omega | decide +kernel) only [push_cast,↓capI,seval,Nat.reduceLeDiff,Nat.reduceEqDiff,reduceCtorEq,↓reduceIte,hX]
   refine callO.pc h39 ?_
   simp (maxSteps:=2000000) -implicitDefEqProofs +contextual (disch:=first | assumption | omega | decide +kernel) only [push_cast,↓capI,seval,Nat.reduceLeDiff,Nat.reduceEqDiff,reduceCtorEq,↓reduceIte,ha2,hX,b1,b2,b3]
   refine T.lp tok mixed cfg0 (fun ((i,b):Nat × Nat)=>kp 1 (dd 1 (kp 1 (dd 5 (kp 1 (sv (.int .i64 b) (sv (.int .i64 i) (dd 68 (nl))))))))) (fun H0 ((i,b):Nat × Nat)=>[]) (fun ((i,b):Nat × Nat)=>i≤m∧b≤l.length∧a<b∧repS (scan sw k l) (m-i) b=repS (scan sw k l) m (a+1)) (fun ((i,b):Nat × Nat)=>m-i) ((0,a+1)) ?_ ?_ ?_
   ·exact ⟨Nat.zero_le _,hlt,Nat.lt_succ_self _,rfl⟩
   ·exact Gn.canon (J:=[]) (by first | rfl | (simp [List.append_nil];done) | (simp [List.append_nil];rfl)) (by simp [wk,slN,putT,kp,dd,sv,nl]) (by simp [List.length_append]) (by simp [kp,dd,sv,nl]) (by simp)
   rintro ⟨i,b⟩ ⟨hi,hb',hab,hr⟩
   by_cases hin:i<m
   ·rw [show m-i=(m-(i+1))+1 by omega,repS] at hr
    have hge:=scan_ge sw k l b
    have hle:=scan_le sw k l b hb'
    simp (maxSteps:=2000000) -implicitDefEqProofs +contextual (disch:=first | assumption | omega | decide +kernel) only [push_cast,↓capI,seval,Nat.reduceLeDiff,Nat.reduceEqDiff,reduceCtorEq,↓reduceIte]
    refine callO.pc (ih l b hb' (by omega) hm) ?_
    by_cases he:(scan sw k l b).2=0
    ·rw [if_neg (fun h=>h he)] at hr
     rw [encIE_ok he]
     simp (maxSteps:=2000000) -implicitDefEqProofs +contextual (disch:=first | assumption | omega | decide +kernel) only [push_cast,↓capI,seval,Nat.reduceLeDiff,Nat.reduceEqDiff,reduceCtorEq,↓reduceIte,he]
     refine ⟨(i+1,(scan sw k l b).1),⟨by (try simp only);omega,by (try simp only);omega,by (try simp only);omega,hr⟩,by (try simp only);omega,?_⟩;exact Gn.canon (by first | rfl | (simp [List.append_nil];rfl)) (by simp [wk,slN]) (by simp [List.length_append]) (by simp) (by simp)
    ·rw [if_pos he] at hr
     rw [encIE_d (scan sw k l b)]
     simp (maxSteps:=2000000) -implicitDefEqProofs +contextual (disch:=first | assumption | omega | decide +kernel) only [push_cast,↓capI,seval,Nat.reduceLeDiff,Nat.reduceEqDiff,reduceCtorEq,↓reduceIte,he]
     rw [←hr,encIE]
     refine endK.retA ?_;simp [evRes,getT,retV,Tryz.f96]
   ·rw [show m-i=0 by omega,repS] at hr
    simp (maxSteps:=2000000) -implicitDefEqProofs +contextual (disch:=first | assumption | omega | decide +kernel) only [push_cast,↓capI,seval,Nat.reduceLeDiff,Nat.reduceEqDiff,reduceCtorEq,↓reduceIte]
    rw [←hr,encIE]
    refine endK.retA ?_;simp [evRes,getT,retV,Tryz.f96]
  ·refine PC.walk tok mixed cfg0 Tryz.func96 rfl Tryz.call96 (by simp) (by first | rfl | simp) ?_;simp (maxSteps:=2000000) -implicitDefEqProofs +contextual (disch:=first | assumption | omega | decide +kernel) only [push_cast,↓capI,seval,Nat.reduceLeDiff,Nat.reduceEqDiff,reduceCtorEq,↓reduceIte,Tryz.ntmps96]
   simp (maxSteps:=2000000) -implicitDefEqProofs +contextual (disch:=first | assumption | omega | decide +kernel) only [push_cast,↓capI,seval,Nat.reduceLeDiff,Nat.reduceEqDiff,reduceCtorEq,↓reduceIte,hX]
   refine callO.pc h39 ?_
   simp (maxSteps:=2000000) -implicitDefEqProofs +contextual (disch:=first | assumption | omega | decide +kernel) only [push_cast,↓capI,seval,Nat.reduceLeDiff,Nat.reduceEqDiff,reduceCtorEq,↓reduceIte,ha2,hX,h3]
   refine T.lp tok mixed cfg0 (fun ((i,b):Nat × Nat)=>kp 1 (dd 1 (kp 1 (dd 5 (kp 1 (sv (.int .i64 b) (sv (.int .i64 i) (dd 68 (nl))))))))) (fun H0 ((i,b):Nat × Nat)=>[]) (fun ((i,b):Nat × Nat)=>i≤m∧b≤l.length∧a<b∧repS (scan sw k l) (m-i) b=repS (scan sw k l) m (a+1)) (fun ((i,b):Nat × Nat)=>m-i) ((0,a+1)) ?_ ?_ ?_
   ·exact ⟨Nat.zero_le _,hlt,Nat.lt_succ_self _,rfl⟩
   ·exact Gn.canon (J:=[]) (by first | rfl | (simp [List.append_nil];done) | (simp [List.append_nil];rfl)) (by simp [wk,slN,putT,kp,dd,sv,nl]) (by simp [List.length_append]) (by simp [kp,dd,sv,nl]) (by simp)
   rintro ⟨i,b⟩ ⟨hi,hb',hab,hr⟩
   by_cases hin:i<m
   ·rw [show m-i=(m-(i+1))+1 by omega,repS] at hr
    have hge:=scan_ge sw k l b
    have hle:=scan_le sw k l b hb'
    simp (maxSteps:=2000000) -implicitDefEqProofs +contextual (disch:=first | assumption | omega | decide +kernel) only [push_cast,↓capI,seval,Nat.reduceLeDiff,Nat.reduceEqDiff,reduceCtorEq,↓reduceIte]
    refine callO.pc (ih l b hb' (by omega) hm) ?_
    by_cases he:(scan sw k l b).2=0
    ·rw [if_neg (fun h=>h he)] at hr
     rw [encIE_ok he]
     simp (maxSteps:=2000000) -implicitDefEqProofs +contextual (disch:=first | assumption | omega | decide +kernel) only [push_cast,↓capI,seval,Nat.reduceLeDiff,Nat.reduceEqDiff,reduceCtorEq,↓reduceIte,he]
     refine ⟨(i+1,(scan sw k l b).1),⟨by (try simp only);omega,by (try simp only);omega,by (try simp only);omega,hr⟩,by (try simp only);omega,?_⟩;exact Gn.canon (by first | rfl | (simp [List.append_nil];rfl)) (by simp [wk,slN]) (by simp [List.length_append]) (by simp) (by simp)
    ·rw [if_pos he] at hr
     rw [encIE_d (scan sw k l b)]
     simp (maxSteps:=2000000) -implicitDefEqProofs +contextual (disch:=first | assumption | omega | decide +kernel) only [push_cast,↓capI,seval,Nat.reduceLeDiff,Nat.reduceEqDiff,reduceCtorEq,↓reduceIte,he]
     rw [←hr,encIE]
     refine endK.retA ?_;simp [evRes,getT,retV,Tryz.f96]
   ·rw [show m-i=0 by omega,repS] at hr
    simp (maxSteps:=2000000) -implicitDefEqProofs +contextual (disch:=first | assumption | omega | decide +kernel) only [push_cast,↓capI,seval,Nat.reduceLeDiff,Nat.reduceEqDiff,reduceCtorEq,↓reduceIte]
    rw [←hr,encIE]
    refine endK.retA ?_;simp [evRes,getT,retV,Tryz.f96]
theorem pc124 (p:Pr) (l:List Nd) (a:Nat) (r:List Nd) (hp:scan 1000000000 (l.length-a) l a=(a+(flat p).length,0)) (ha:a≤l.length) (hn:a+(flat p).length≤l.length) (hl:l.length≤4000000) :
  PC Tryz.prog 124 [slN l,.int .i64 a] (.int .i64 ((a:Int)+(flat p).length)):=by
 have hs:=pc96 1000000000 (l.length-a) l a ha (Nat.le_refl _) hl
 rw [hp,encIE] at hs
 refine PC.walk tok mixed cfg0 Tryz.func124 rfl Tryz.call124 (by simp) (by first | rfl | simp) ?_;simp (maxSteps:=2000000) -implicitDefEqProofs +contextual (disch:=first | assumption | omega | decide +kernel) only [push_cast,↓capI,seval,Nat.reduceLeDiff,Nat.reduceEqDiff,reduceCtorEq,↓reduceIte,Tryz.ntmps124]
 refine callO.pc hs ?_
 simp (maxSteps:=2000000) -implicitDefEqProofs +contextual (disch:=first | assumption | omega | decide +kernel) only [push_cast,↓capI,seval,Nat.reduceLeDiff,Nat.reduceEqDiff,reduceCtorEq,↓reduceIte]
 refine endK.retA ?_;simp [evRes,getT,retV,Tryz.f124,Int.natCast_add]
end
section
theorem drop_cons {α:Type} {l r:List α} {a:Nat} {x:α} (h:l.drop a=x::r):∃ha:a<l.length,l[a]=x∧l.drop (a+1)=r:=by
 have ha:a<l.length:=by
  have:=congrArg List.length h
  rw [List.length_drop,List.length_cons] at this
  omega
 rw [List.drop_eq_getElem_cons ha] at h
 injection h with h1 h2
 exact ⟨ha,h1,h2⟩
theorem drop_app {α:Type} {l p r:List α} {a:Nat} (h:l.drop a=p++r):l.drop (a+p.length)=r:=by
 rw [←List.drop_drop,h,List.drop_left]
theorem drop_len {α:Type} {l p r:List α} {a:Nat} (ha:a≤l.length) (h:l.drop a=p++r):a+p.length+r.length=l.length:=by
 have:=congrArg List.length h
 rw [List.length_drop,List.length_append] at this
 omega
theorem scan_tree (sw:Int):∀(p:Pr) (k:Nat) (l:List Nd) (a:Nat) (r:List Nd),okP sw p→l.drop a=flat p++r→(flat p).length≤k→scan sw k l a=(a+(flat p).length,0)
 | p,0,l,a,r,_,_,hk=>by
  have:=flat_pos p
  omega
 | .leaf x,k+1,l,a,r,hp,hl,hk=>by
  obtain ⟨ha,hx,_⟩:=drop_cons (x:=x) (r:=r) hl
  obtain ⟨h0,hc⟩:=hp
  have har:arity x.op=0:=by rw [arity,if_pos h0]
  rw [scan,List.getElem?_eq_getElem ha]
  simp only [hx]
  rw [if_neg (fun g=>g hc),har]
  rfl
 | .un x p,k+1,l,a,r,hp,hl,hk=>by
  obtain ⟨ha,hx,h2⟩:=drop_cons (x:=x) (r:=flat p++r) hl
  obtain ⟨h4,hp⟩:=hp
  have har:arity x.op=1:=by rw [h4];rfl
  have i1:=scan_tree sw p k l (a+1) r hp h2 (by rw [flat,List.length_cons] at hk;omega)
  rw [scan,List.getElem?_eq_getElem ha]
  simp only [hx]
  rw [if_neg (fun g=>g (chk1_op (.inl h4))),har,show (1:Int).toNat=0+1 from rfl,repS,i1,if_neg (fun g=>g rfl),repS,flat,List.length_cons]
  congr 1
  omega
 | .bin x p q,k+1,l,a,r,hp,hl,hk=>by
  obtain ⟨ha,hx,h2⟩:=drop_cons (x:=x) (r:=flat p++(flat q++r)) (by rw [hl,flat,List.cons_append,List.append_assoc])
  obtain ⟨h4,hp,hq⟩:=hp
  have har:arity x.op=2:=by rcases h4 with h4 | h4<;>rw [h4]<;>rfl
  rw [flat,List.length_cons,List.length_append] at hk
  have i1:=scan_tree sw p k l (a+1) _ hp h2 (by omega)
  have i2:=scan_tree sw q k l (a+1+(flat p).length) r hq (drop_app h2) (by omega)
  rw [scan,List.getElem?_eq_getElem ha]
  simp only [hx]
  rw [if_neg (fun g=>g (chk1_op (.inr h4))),har,show (2:Int).toNat=0+1+1 from rfl,repS,i1,if_neg (fun g=>g rfl),repS,i2,if_neg (fun g=>g rfl),repS,flat,List.length_cons,List.length_append]
  congr 1
  omega
theorem end40 (p:Pr) (l:List Nd) (a:Nat) (r:List Nd) (hp:okP 1000000000 p) (h:l.drop a=flat p++r) (ha:a≤l.length) (hl:l.length≤4000000) :
  PC Tryz.prog 124 [slN l,.int .i64 a] (.int .i64 ((a:Int)+(flat p).length)):=by
 have hn:=drop_len ha h
 exact pc124 p l a r (scan_tree 1000000000 p _ l a r hp h (by omega)) ha (by omega) hl
theorem tree_checkP {sw:Int}:∀ {p:Pr},okP sw p→(flat p).length≤24→checkP sw (flat p)=0:=by
 intro p hp hl
 have hs:=scan_chk sw (flat p).length (flat p) 0 (Nat.zero_le _)
 rw [List.drop_zero,scan_tree sw p _ (flat p) 0 [] hp (by rw [List.drop_zero,List.append_nil]) (Nat.le_refl _)] at hs
 rw [checkP,if_neg (by omega),←hs.1,if_neg]
 rintro ⟨_,h⟩
 apply h
 rw [←hs.2 rfl]
 exact List.drop_eq_nil_iff.2 (by simp)
end
section
def isDig (b:UInt8):Bool:=decide (48≤b.toNat)&&decide (b.toNat≤57)
theorem idx_dig {b:UInt8}:idxB [48,49,50,51,52,53,54,55,56,57] (b.toNat:Int)=if isDig b=true then (b.toNat:Int)-48 else -1:=by
 have key:∀n:Fin 256,idxB [48,49,50,51,52,53,54,55,56,57] ((n.val:Nat):Int)=if (decide (48≤n.val)&&decide (n.val≤57))=true then ((n.val:Nat):Int)-48 else -1:=by decide +kernel
 exact key ⟨b.toNat,b.toNat_lt⟩
theorem callO.part0 {P:Program} {H:List Ob} {KV:V→List Ob→Prop} {n:Nat} {args a b args0:List V} {v:V} {G G':List Ob} (ps:List Nat) (h:GCall P n args0 G v G') (hn:ps.Nodup) (hk':G'.length=G.length)
  (ha:a++args++b=rns (qn ps H.length) args0) (hG:objsAt H ps (rnOs (qn ps H.length) G)) (k:KV (v.rn (qn ps H.length)) (setPs H ps (rnOs (qn ps H.length) G'))):callO P (.fn (.func n) a b) args H KV :=
 callO.part (G':=G') (J:=[]) ps (by rw [List.append_nil];exact h) hn hk' ha hG (by rw [rnOs,List.append_nil];exact k)
def num (s:List UInt8) (i:Int):List Ob:=[.cells 0 [.str s,.int .i64 i,.int .i64 10]]
attribute [local push_cast] cfg0 take_rest ibeq_dec V.rn rns qn setPs rnOs Ob.rn List.set_cons_zero List.size_toArray
theorem pc164 (s:List UInt8) (i:Nat) (hs:s.length≤4000000000) (h:i<s.length) (hd:isDig s[i]=true) :
  GCall Tryz.prog 164 [.ptr 0 0 0,.int .i64 10] (num s i) (.tup [.int .i64 ((s[i].toNat:Int)-48),.bool true]) (num s ((i:Int)+1)):=by
 have hn:¬(i:Int)=s.length:=by omega
 have hb:(s[i].toNat:Int)≤255:=by have:=s[i].toNat_lt;omega
 have hd2:=hd
 simp only [isDig,Bool.and_eq_true,decide_eq_true_eq] at hd2
 have hneg:¬(s[i].toNat:Int)-48<0:=by omega
 have hx:=pc191 [48,49,50,51,52,53,54,55,56,57] (s[i].toNat:Int) ⟨by omega,hb⟩
 rw [idx_dig,if_pos hd] at hx
 unfold num
 refine GC.walk tok mixed cfg0 Tryz.func164 rfl Tryz.call164 ?_;refine vms1 Tryz.ntmps164 ?_
 refine callO.part0 [0] (pc165 s i [.int .i64 10] rfl) (by decide) rfl rfl ⟨by rfl,by simp,trivial⟩ ?_
 have hgd:s.getD i 0=s[i]:=by rw [List.getD_eq_getElem?_getD,List.getElem?_eq_getElem h];rfl
 refine vms2 hn hgd ?_
 refine callG.pc1 hx ?_
 refine vms1 hneg ?_
 refine endG.ret ([]) (by first | rfl | simp [fzs_ok,getO,setO,fzs,fz,fzH,Nat.beq,tt_3,tt_4,tt_5,tt_9,tt_128,tt_200,tt_203,tt_205,tt_231,tt_327,tt_251,cfg0,take_rest,ibeq_dec,V.rn,rns,qn,setPs,rnOs,Ob.rn,List.set_cons_zero,List.size_toArray]) (by simp) (by simp [fzs_ok,imp,lenOK_iff,List.take_of_length_le,evRes,getT,getO,setO,fzs,fz,fzH,Nat.beq,retV,Res.then,ldT,ldR,mkV,getV,tt_3,tt_4,tt_5,tt_9,tt_128,tt_200,tt_203,tt_205,tt_231,tt_327,tt_251,cfg0,take_rest,ibeq_dec,V.rn,rns,qn,setPs,rnOs,Ob.rn,List.set_cons_zero,List.size_toArray,Tryz.f164]) (by first | rfl | simp) (by first | rfl | simp)
theorem pc103_no (s:List UInt8) (i:Nat) (hs:s.length≤4000000000) (hi:i≤s.length) (hd:∀h:i<s.length,isDig s[i]=false) :
  GCall Tryz.prog 164 [.ptr 0 0 0,.int .i64 10] (num s i) (.tup [.int .i64 0,.bool false]) (num s i):=by
 unfold num
 refine GC.walk tok mixed cfg0 Tryz.func164 rfl Tryz.call164 ?_;refine vms1 Tryz.ntmps164 ?_
 refine callO.part0 [0] (pc165 s i [.int .i64 10] rfl) (by decide) rfl rfl ⟨by rfl,by simp,trivial⟩ ?_
 by_cases h:i<s.length
 case neg =>
  have hn:(i:Int)=s.length:=by omega
  refine vms1 hn ?_
  refine endG.ret ([]) (by first | rfl | simp [fzs_ok,getO,setO,fzs,fz,fzH,Nat.beq,tt_3,tt_4,tt_5,tt_9,tt_128,tt_200,tt_203,tt_205,tt_231,tt_327,tt_251,cfg0,take_rest,ibeq_dec,V.rn,rns,qn,setPs,rnOs,Ob.rn,List.set_cons_zero,List.size_toArray,hn]) (by simp) (by simp [fzs_ok,imp,lenOK_iff,List.take_of_length_le,evRes,getT,getO,setO,fzs,fz,fzH,Nat.beq,retV,Res.then,ldT,ldR,mkV,getV,tt_3,tt_4,tt_5,tt_9,tt_128,tt_200,tt_203,tt_205,tt_231,tt_327,tt_251,cfg0,take_rest,ibeq_dec,V.rn,rns,qn,setPs,rnOs,Ob.rn,List.set_cons_zero,List.size_toArray,Tryz.f164,hn]) (by first | rfl | simp [hn]) (by first | rfl | simp [hn])
 have hn:¬(i:Int)=s.length:=by omega
 have hb:(s[i].toNat:Int)≤255:=by have:=s[i].toNat_lt;omega
 have hx:=pc191 [48,49,50,51,52,53,54,55,56,57] (s[i].toNat:Int) ⟨by omega,hb⟩
 rw [idx_dig,if_neg (by rw [hd h];simp)] at hx
 have hgd:s.getD i 0=s[i]:=by rw [List.getD_eq_getElem?_getD,List.getElem?_eq_getElem h];rfl
 refine vms2 hn hgd ?_
 refine callG.pc1 hx ?_
 refine vms0 ?_
 refine endG.ret ([]) (by first | rfl | simp [fzs_ok,getO,setO,fzs,fz,fzH,Nat.beq,tt_3,tt_4,tt_5,tt_9,tt_128,tt_200,tt_203,tt_205,tt_231,tt_327,tt_251,cfg0,take_rest,ibeq_dec,V.rn,rns,qn,setPs,rnOs,Ob.rn,List.set_cons_zero,List.size_toArray]) (by simp) (by simp [fzs_ok,imp,lenOK_iff,List.take_of_length_le,evRes,getT,getO,setO,fzs,fz,fzH,Nat.beq,retV,Res.then,ldT,ldR,mkV,getV,tt_3,tt_4,tt_5,tt_9,tt_128,tt_200,tt_203,tt_205,tt_231,tt_327,tt_251,cfg0,take_rest,ibeq_dec,V.rn,rns,qn,setPs,rnOs,Ob.rn,List.set_cons_zero,List.size_toArray,Tryz.f164]) (by first | rfl | simp) (by first | rfl | simp)
def valL:List UInt8→Nat→Option Nat
 | [],v=>some v
 | c::l,v=>if isDig c=true then valL l (v*10+(c.toNat-48)) else none
def valR (s:List UInt8) (i:Nat):V:=match valL (s.drop i) 0 with
 | some v=>.tup [.int .u64 v,.int .i64 ((s.length-i:Nat):Int),.bool (decide (i<s.length))]
 | none=>.tup [.int .u64 0,.int .i64 0,.bool false]
theorem valR_some {s:List UInt8} {i v:Nat} (h:valL (s.drop i) 0=some v):valR s i=.tup [.int .u64 v,.int .i64 ((s.length-i:Nat):Int),.bool (decide (i<s.length))]:=by rw [valR,h]
theorem valR_none {s:List UInt8} {i:Nat} (h:valL (s.drop i) 0=none):valR s i=.tup [.int .u64 0,.int .i64 0,.bool false]:=by rw [valR,h]
theorem pc130 (s:List UInt8) (i:Nat) (hs:s.length≤4000000000) (hi:i≤s.length) (h9:s.length-i≤9) :
  GCall Tryz.prog 130 [.ptr 0 0 0,.int .u64 4294967295] (num s i) (valR s i) [.dead]:=by
 unfold num
 refine GC.walk tok mixed cfg0 Tryz.func130 rfl Tryz.call130 ?_;refine vms1 Tryz.ntmps130 ?_
 refine T.lp tok mixed cfg0 (fun ((j,v):Nat × Nat)=>kp 2 (dd 2 (sv (.int .u64 (v:Int)) (sv (.int .i64 ((j-i:Nat):Int)) (dd 1 (kp 1 (dd 41 (nl)))))))) (fun H0 ((j,v):Nat × Nat)=>num s j) (fun ((j,v):Nat × Nat)=>i≤j∧j≤s.length∧v<10^(j-i)∧valL (s.drop j) v=valL (s.drop i) 0) (fun ((j,v):Nat × Nat)=>s.length-j) ((i,0)) ?_ ?_ ?_
 ·exact ⟨Nat.le_refl _,hi,by simp,rfl⟩
 ·unfold num
  exact Gn.canon (J:=[]) (by first | rfl | (simp [List.append_nil];done) | (simp [List.append_nil];rfl)) (by simp [wk,putT,kp,dd,sv,nl]) (by simp [List.length_append]) (by simp [kp,dd,sv,nl]) (by simp)
 rintro ⟨j,v⟩ ⟨hij,hj,hv,hr⟩
 have hv9:v<1000000000:=Nat.lt_of_lt_of_le hv (Nat.pow_le_pow_right (by omega) (by omega:j-i≤9))
 simp (maxSteps:=2000000) -implicitDefEqProofs +contextual (disch:=first | assumption | omega | decide +kernel) only [push_cast,↓capI,seval,Nat.reduceLeDiff,Nat.reduceEqDiff,reduceCtorEq,↓reduceIte,num]
 refine callO.part0 [0] (pc165 s j [.int .i64 10] rfl) (by decide) rfl rfl ⟨by rfl,by simp,trivial⟩ ?_
 by_cases hlt:j<s.length
 case neg =>
  have hn:(j:Int)=s.length:=by omega
  rw [List.drop_of_length_le (by omega),valL] at hr
  have hdec:decide ((0:Int)<(s.length:Int)-(i:Int))=decide (i<s.length):=by
   rw [decide_eq_decide];omega
  rw [valR_some hr.symm]
  refine vms1 hn ?_
  refine endG.gn (Gn.freeze (id:=0) rfl) ?_;refine endG.ret ([]) (by first | rfl | simp [fzs_ok,getO,setO,fzs,fz,fzH,Nat.beq,tt_3,tt_4,tt_5,tt_9,tt_128,tt_200,tt_203,tt_205,tt_231,tt_327,tt_251,cfg0,take_rest,ibeq_dec,V.rn,rns,qn,setPs,rnOs,Ob.rn,List.set_cons_zero,List.size_toArray,hdec]) (by simp) (by simp [fzs_ok,imp,lenOK_iff,List.take_of_length_le,evRes,getT,getO,setO,fzs,fz,fzH,Nat.beq,retV,Res.then,ldT,ldR,mkV,getV,tt_3,tt_4,tt_5,tt_9,tt_128,tt_200,tt_203,tt_205,tt_231,tt_327,tt_251,cfg0,take_rest,ibeq_dec,V.rn,rns,qn,setPs,rnOs,Ob.rn,List.set_cons_zero,List.size_toArray,Tryz.f130,hdec]) (by first | rfl | simp [hdec]) (by first | rfl | simp [hdec])
 have hn:¬(j:Int)=s.length:=by omega
 rw [List.drop_eq_getElem_cons hlt,valL] at hr
 refine vms1 hn ?_
 cases hd:isDig s[j]
 case false =>
  refine callO.part0 [0] (pc103_no s j hs hj (fun _=>hd)) (by decide) rfl rfl ⟨by rfl,by simp,trivial⟩ ?_
  rw [hd,if_neg (by simp)] at hr
  rw [valR_none hr.symm]
  simp (maxSteps:=2000000) -implicitDefEqProofs +contextual (disch:=first | assumption | omega | decide +kernel) only [push_cast,↓capI,seval,Nat.reduceLeDiff,Nat.reduceEqDiff,reduceCtorEq,↓reduceIte,num]
  refine endG.gn (Gn.freeze (id:=0) rfl) ?_;refine endG.ret ([]) (by first | rfl | simp [fzs_ok,getO,setO,fzs,fz,fzH,Nat.beq,tt_3,tt_4,tt_5,tt_9,tt_128,tt_200,tt_203,tt_205,tt_231,tt_327,tt_251,cfg0,take_rest,ibeq_dec,V.rn,rns,qn,setPs,rnOs,Ob.rn,List.set_cons_zero,List.size_toArray]) (by simp) (by simp [fzs_ok,imp,lenOK_iff,List.take_of_length_le,evRes,getT,getO,setO,fzs,fz,fzH,Nat.beq,retV,Res.then,ldT,ldR,mkV,getV,tt_3,tt_4,tt_5,tt_9,tt_128,tt_200,tt_203,tt_205,tt_231,tt_327,tt_251,cfg0,take_rest,ibeq_dec,V.rn,rns,qn,setPs,rnOs,Ob.rn,List.set_cons_zero,List.size_toArray,Tryz.f130]) (by first | rfl | simp) (by first | rfl | simp)
 refine callO.part0 [0] (pc164 s j hs hlt hd) (by decide) rfl rfl ⟨by rfl,by simp,trivial⟩ ?_
 rw [hd,if_pos rfl] at hr
 have hd2:=hd
 simp only [isDig,Bool.and_eq_true,decide_eq_true_eq] at hd2
 have hc:((s[j].toNat:Int)-48)=((s[j].toNat-48:Nat):Int):=by omega
 have hp:v*10+(s[j].toNat-48)<10^(j+1-i):=by
  rw [show j+1-i=(j-i)+1 by omega,Nat.pow_succ]
  omega
 have hp2:v*10+(s[j].toNat-48)<1000000000:=Nat.lt_of_lt_of_le hp (Nat.pow_le_pow_right (by omega) (by omega:j+1-i≤9))
 generalize s[j].toNat-48=c at hr hc hp hp2
 rw [hc]
 simp (maxSteps:=2000000) -implicitDefEqProofs +contextual (disch:=first | assumption | omega | decide +kernel) only [push_cast,↓capI,seval,Nat.reduceLeDiff,Nat.reduceEqDiff,reduceCtorEq,↓reduceIte,num]
 have hji:(j:Int)-(i:Int)+1=((j+1-i:Nat):Int):=by omega
 refine ⟨(j+1,v*10+c),⟨by simp only;omega,by simp only;omega,hp,hr⟩,by (try simp only);omega,?_⟩;exact Gn.canon (by first | rfl | (simp [List.append_nil,num,hji];rfl)) (by simp [wk,num,hji]) (by simp [List.length_append]) (by simp) (by simp)
end
section
theorem putV_all:∀(l cs:List V),l.length=cs.length→putV l 0 cs=cs
 | [],[],_=>rfl
 | x::l,c::cs,h=>by simp only [putV,putV_all l cs (by simpa using h)]
 | [],c::cs,h=>by simp at h
 | x::l,[],h=>by simp at h
def dgT (n:Nat):List V:=tab 256 fun j=>.bool (decide (48≤j)&&decide (j<48+n))
@[simp] theorem bel_T {m n:Nat}:belAll m (dgT n)=true:=belAll_tab fun _ _=>rfl
theorem rn_T {q:Nat→Nat} {n:Nat}:rns q (dgT n)=dgT n:=by
 rw [dgT,rns_map,tab_map]
 rfl
attribute [local push_cast] cfg0 take_rest ibeq_dec V.rn rns qn setPs rnOs Ob.rn List.set_cons_zero List.size_toArray setO_tabN getV_tabP getV_tab getV_tabO tab_length tab_set
theorem pg99 (c:UInt8):GCall Tryz.prog 236 [.ptr 0 0 0,.int .u8 c.toNat] [.cells 0 (dgT 10)] (.bool (isDig c)) [.cells 0 (dgT 10)]:=by
 have hc:=c.toNat_lt
 have hd:(decide (48≤c.toNat)&&decide (c.toNat<58))=isDig c:=by
  rw [isDig]
  congr 1
  rw [decide_eq_decide]
  omega
 unfold dgT
 refine GC.walk tok mixed cfg0 Tryz.func236 rfl Tryz.call236 ?_;refine vms1 Tryz.ntmps236 ?_
 refine endG.ret ([]) (by first | rfl | simp [fzs_ok,getO,setO,fzs,fz,fzH,Nat.beq,tt_3,tt_4,tt_5,tt_9,tt_128,tt_200,tt_203,tt_205,tt_231,tt_327,tt_251,tt_323,cfg0,take_rest,ibeq_dec,V.rn,rns,qn,setPs,rnOs,Ob.rn,List.set_cons_zero,List.size_toArray,setO_tabN,getV_tabP,getV_tab,getV_tabO,tab_length,tab_set,hd,Nat.mul_one]) (by simp) (by simp [fzs_ok,imp,lenOK_iff,List.take_of_length_le,evRes,getT,getO,setO,fzs,fz,fzH,Nat.beq,retV,Res.then,ldT,ldR,mkV,getV,tt_3,tt_4,tt_5,tt_9,tt_128,tt_200,tt_203,tt_205,tt_231,tt_327,tt_251,tt_323,cfg0,take_rest,ibeq_dec,V.rn,rns,qn,setPs,rnOs,Ob.rn,List.set_cons_zero,List.size_toArray,setO_tabN,getV_tabP,getV_tab,getV_tabO,tab_length,tab_set,Tryz.f236,hd,Nat.mul_one]) (by first | rfl | simp [hd,Nat.mul_one]) (by first | rfl | simp [hd,Nat.mul_one])
def digs0:List UInt8:=[48,49,50,51,52,53,54,55,56,57]
def digs (s:List UInt8):List UInt8:=s.takeWhile isDig
def dropD (s:List UInt8):List UInt8:=s.dropWhile isDig
theorem dropD_len (s:List UInt8):(dropD s).length+(digs s).length=s.length:=by
 have:=congrArg List.length (List.takeWhile_append_dropWhile (p:=isDig) (l:=s))
 rw [List.length_append] at this
 unfold dropD digs
 omega
theorem take_digs (s:List UInt8):s.take (s.length-(dropD s).length)=digs s∧s.drop (s.length-(dropD s).length)=dropD s:=by
 have h:=dropD_len s
 have e:s=digs s++dropD s:=(List.takeWhile_append_dropWhile).symm
 have hk:s.length-(dropD s).length=(digs s).length:=by omega
 rw [hk]
 generalize digs s=a at *
 generalize dropD s=b at *
 subst e
 exact ⟨List.take_left,List.drop_left⟩
theorem dropD_nil:dropD []=[]:=rfl
theorem dropD_yes {c:UInt8} {t:List UInt8} (h:isDig c=true):dropD (c::t)=dropD t:=by rw [dropD,List.dropWhile_cons,if_pos h];rfl
theorem dropD_no {c:UInt8} {t:List UInt8} (h:isDig c=false):dropD (c::t)=c::t:=by rw [dropD,List.dropWhile_cons,if_neg (by rw [h];simp)]
theorem pg91 (s:List UInt8):GCall Tryz.prog 227 [.str s,.ptr 0 0 0] [.cells 0 (dgT 10)] (.str (dropD s)) [.cells 0 (dgT 10)]:=by
 refine GC.walk tok mixed cfg0 Tryz.func227 rfl Tryz.call227 ?_;refine vms1 Tryz.ntmps227 ?_
 refine T.lp tok mixed cfg0 (fun (r:List UInt8)=>sv (.str r) (kp 1 (dd 14 (nl)))) (fun H0 (r:List UInt8)=>[.cells 0 (dgT 10)]) (fun (r:List UInt8)=>dropD r=dropD s) (fun (r:List UInt8)=>r.length) (s) ?_ ?_ ?_
 ·rfl
 ·exact Gn.canon (J:=[]) (by first | rfl | (simp [List.append_nil];done) | (simp [List.append_nil];rfl)) (by simp [wk,putT,kp,dd,sv,nl]) (by simp [List.length_append]) (by simp [kp,dd,sv,nl]) (by simp)
 intro r hr
 cases r with
 | nil =>
  refine vms0 ?_
  rw [←hr]
  refine endG.ret ([]) (by first | rfl | simp [fzs_ok,getO,setO,fzs,fz,fzH,Nat.beq,tt_3,tt_4,tt_5,tt_9,tt_128,tt_200,tt_203,tt_205,tt_231,tt_327,tt_251,tt_323,cfg0,take_rest,ibeq_dec,V.rn,rns,qn,setPs,rnOs,Ob.rn,List.set_cons_zero,List.size_toArray,setO_tabN,getV_tabP,getV_tab,getV_tabO,tab_length,tab_set,dropD_nil]) (by simp) (by simp [fzs_ok,imp,lenOK_iff,List.take_of_length_le,evRes,getT,getO,setO,fzs,fz,fzH,Nat.beq,retV,Res.then,ldT,ldR,mkV,getV,tt_3,tt_4,tt_5,tt_9,tt_128,tt_200,tt_203,tt_205,tt_231,tt_327,tt_251,tt_323,cfg0,take_rest,ibeq_dec,V.rn,rns,qn,setPs,rnOs,Ob.rn,List.set_cons_zero,List.size_toArray,setO_tabN,getV_tabP,getV_tab,getV_tabO,tab_length,tab_set,Tryz.f227,dropD_nil]) (by first | rfl | simp [dropD_nil]) (by first | rfl | simp [dropD_nil])
 | cons c t =>
  have hlen:(c::t).length=t.length+1:=rfl
  simp (maxSteps:=2000000) -implicitDefEqProofs +contextual (disch:=first | assumption | omega | decide +kernel) only [push_cast,↓capI,seval,Nat.reduceLeDiff,Nat.reduceEqDiff,reduceCtorEq,↓reduceIte,List.length_cons]
  refine callO.part0 [0] (pg99 c) (by decide) rfl rfl ⟨by simp [rnOs,Ob.rn,rn_T,getO],by simp,trivial⟩ ?_
  cases hd:isDig c
  ·refine vms0 ?_
   rw [←hr]
   refine endG.ret ([]) (by first | rfl | simp [fzs_ok,getO,setO,fzs,fz,fzH,Nat.beq,tt_3,tt_4,tt_5,tt_9,tt_128,tt_200,tt_203,tt_205,tt_231,tt_327,tt_251,tt_323,cfg0,take_rest,ibeq_dec,V.rn,rns,qn,setPs,rnOs,Ob.rn,List.set_cons_zero,List.size_toArray,setO_tabN,getV_tabP,getV_tab,getV_tabO,tab_length,tab_set,dropD_no hd]) (by simp) (by simp [fzs_ok,imp,lenOK_iff,List.take_of_length_le,evRes,getT,getO,setO,fzs,fz,fzH,Nat.beq,retV,Res.then,ldT,ldR,mkV,getV,tt_3,tt_4,tt_5,tt_9,tt_128,tt_200,tt_203,tt_205,tt_231,tt_327,tt_251,tt_323,cfg0,take_rest,ibeq_dec,V.rn,rns,qn,setPs,rnOs,Ob.rn,List.set_cons_zero,List.size_toArray,setO_tabN,getV_tabP,getV_tab,getV_tabO,tab_length,tab_set,Tryz.f227,dropD_no hd]) (by first | rfl | simp [dropD_no hd]) (by first | rfl | simp [dropD_no hd])
  ·refine vms0 ?_
   refine ⟨t,by rw [←hr,dropD_yes hd],by (try simp only);omega,?_⟩;exact Gn.canon (by first | rfl | (simp [List.append_nil];rfl)) (by simp [wk]) (by simp [List.length_append]) (by simp) (by simp)
theorem hset (i:Nat):(tab 256 fun j=>if j=48+i then V.bool true else V.bool (decide (48≤j)&&decide (j<48+i)))=dgT (i+1):=by
 refine tab_ext fun j _=>?_
 split
 ·rename_i h
  subst h
  simp
 ·congr 2
  rw [decide_eq_decide]
  omega
theorem len_T {n:Nat}:(dgT n).length=256:=tab_length
theorem ones_T {n:Nat}:ones true (dgT n) True=True:=by
 rw [eq_iff_iff,ones_iff]
 refine ⟨fun _=>trivial,fun _=>⟨fun _ x hx=>?_,trivial⟩⟩
 obtain ⟨i,_,rfl⟩:=tab_mem.1 hx
 rfl
theorem get_T {n:Nat}:getV (dgT n) 0 256=dgT n:=List.take_of_length_le (Nat.le_of_eq len_T)
theorem put_T {n:Nat} {l:List V} (h:l.length=256):putV l 0 (dgT n)=dgT n:=putV_all _ _ (by rw [h,len_T])
theorem put_T0 {n:Nat} {g:Nat→V}:putV (tab 256 g) 0 (dgT n)=dgT n:=put_T tab_length
theorem put1_T {i:Nat}:putV (dgT i) ((48+i)*1) [.bool true]=dgT (i+1):=by rw [Nat.mul_one,dgT,putV_tab,hset]
theorem pc226:PC Tryz.prog 226 [.str digs0] (.tup [.agg (dgT 10),.bool true]):=by
 have h0:(tab 256 fun _=>V.bool false)=dgT 0:=by
  refine tab_ext fun j _=>?_
  congr 1
  have:¬(48≤j∧j<48):=by omega
  simp
 refine PC.walk tok mixed cfg0 Tryz.func226 rfl Tryz.call226 (by simp) (by first | rfl | simp) ?_;refine vms1 Tryz.ntmps226 ?_
 refine vms1 h0 ?_
 refine T.lp tok mixed cfg0 (fun (i:Nat)=>kp 1 (dd 1 (kp 1 (sv (.bool false) (sv (.int .i64 i) (dd 16 (nl))))))) (fun H0 (i:Nat)=>[.cells 0 (dgT i)]) (fun (i:Nat)=>i≤10) (fun (i:Nat)=>10-i) (0) ?_ ?_ ?_
 ·exact Nat.zero_le _
 ·exact Gn.canon (J:=[]) (by first | rfl | (simp [List.append_nil];done) | (simp [List.append_nil];rfl)) (by simp [wk,putT,kp,dd,sv,nl]) (by simp [List.length_append]) (by simp [kp,dd,sv,nl]) (by simp)
 intro i hi
 by_cases h:i<10
 case neg =>
  have hi10:i=10:=by omega
  subst hi10
  simp (maxSteps:=2000000) -implicitDefEqProofs +contextual (disch:=first | assumption | omega | decide +kernel) only [push_cast,↓capI,seval,Nat.reduceLeDiff,Nat.reduceEqDiff,reduceCtorEq,↓reduceIte,ones_T,get_T,len_T]
  refine endK.retA ?_;simp [evRes,getT,retV,Tryz.f226,put_T len_T,tt_323,ldT,ldR,mkV,getO,Nat.beq,len_T,get_T,imp,Res.then,ones_T,lenOK_iff]
 have hg:((digs0.getD i 0).toNat:Int)=(48:Int)+i:=by
  have key:∀k:Fin 10,((digs0.getD k.val 0).toNat:Int)=(48:Int)+(k.val:Int):=by decide
  exact key ⟨i,h⟩
 have hl:digs0.length=10:=rfl
 have hk:((48:Int)+i).toNat=48+i:=by omega
 simp (maxSteps:=2000000) -implicitDefEqProofs +contextual (disch:=first | assumption | omega | decide +kernel) only [push_cast,↓capI,seval,Nat.reduceLeDiff,Nat.reduceEqDiff,reduceCtorEq,↓reduceIte,hl,hg,hk,len_T,put1_T]
 refine ⟨i+1,by omega,by (try simp only);omega,?_⟩;exact Gn.canon (by first | rfl | (simp [List.append_nil];rfl)) (by simp [wk]) (by simp [List.length_append]) (by simp) (by simp)
theorem pc216 (s:List UInt8):PC Tryz.prog 216 [.str s,.str digs0] (.str (dropD s)):=by
 have hne:(digs0=[])=False:=by decide
 have hl:digs0.length=10:=rfl
 by_cases h:s=[]
 ·refine PC.walk tok mixed cfg0 Tryz.func216 rfl Tryz.call216 (by simp) (by first | rfl | simp) ?_;refine vms1 Tryz.ntmps216 ?_
  refine vms2 h hne ?_
  refine endK.retA ?_;simp [evRes,getT,retV,Tryz.f216,dropD_nil,h]
 refine PC.walk tok mixed cfg0 Tryz.func216 rfl Tryz.call216 (by simp) (by first | rfl | simp) ?_;refine vms1 Tryz.ntmps216 ?_
 refine vms3 h hne hl ?_
 refine callO.pc pc226 ?_
 simp (maxSteps:=2000000) -implicitDefEqProofs +contextual (disch:=first | assumption | omega | decide +kernel) only [push_cast,↓capI,seval,Nat.reduceLeDiff,Nat.reduceEqDiff,reduceCtorEq,↓reduceIte,len_T,ones_T,put_T0]
 refine callO.part0 [0] (pg91 s) (by decide) rfl rfl ⟨by simp [rnOs,Ob.rn,rn_T,getO],by simp,trivial⟩ ?_
 refine vms0 ?_
 refine endK.retA ?_;simp [evRes,getT,retV,Tryz.f216]
end
section
def canonD (d:List UInt8):Bool:=decide (d.length=1)||(decide (d≠[])&&(((d.getD 0 0).toNat:Int) != 48))
attribute [local push_cast] cfg0 take_rest ibeq_dec V.rn rns qn setPs rnOs Ob.rn List.set_cons_zero List.size_toArray
theorem pcj127 (s:List UInt8):PCJ Tryz.prog 127 [.str s] (.ptr 0 0 0) (num s 0):=by
 refine PCJ.walk tok mixed cfg0 Tryz.func127 rfl Tryz.call127 (by simp) ?_;refine vms1 Tryz.ntmps127 ?_
 refine endJ.ret ([]) (by simp [fzs_ok,getO,setO,fzs,fz,fzH,Nat.beq,tt_3,tt_4,tt_5,tt_9,tt_128,tt_200,tt_203,tt_205,tt_231,tt_327,tt_251,cfg0,take_rest,ibeq_dec,V.rn,rns,qn,setPs,rnOs,Ob.rn,List.set_cons_zero,List.size_toArray,num]) (by simp [fzs_ok,imp,lenOK_iff,List.take_of_length_le,evRes,getT,getO,setO,fzs,fz,fzH,Nat.beq,retV,Res.then,ldT,ldR,mkV,getV,tt_3,tt_4,tt_5,tt_9,tt_128,tt_200,tt_203,tt_205,tt_231,tt_327,tt_251,cfg0,take_rest,ibeq_dec,V.rn,rns,qn,setPs,rnOs,Ob.rn,List.set_cons_zero,List.size_toArray,Tryz.f127,num]) (by first | rfl | simp [num]) (by first | rfl | simp [num])
theorem pc129 (d:List UInt8):PC Tryz.prog 129 [.str d] (.bool (canonD d)):=by
 refine PC.walk tok mixed cfg0 Tryz.func129 rfl Tryz.call129 (by simp) (by first | rfl | simp) ?_;refine vms1 Tryz.ntmps129 ?_
 refine ⟨fun h=>⟨fun h2=>?_,fun h2=>?_⟩,fun h=>?_⟩
 ·have h3:(0:Int)<(d.length:Int):=by
   have:=List.length_pos_iff.2 h2
   omega
  have h4:¬d.length=1:=by omega
  refine ⟨h3,fun _=>?_⟩
  refine endK.retA ?_;simp [evRes,getT,retV,Tryz.f129,canonD,h2,h4]
 ·refine endK.retA ?_;simp [evRes,getT,retV,Tryz.f129,canonD]
 ·have h4:d.length=1:=by omega
  refine endK.retA ?_;simp [evRes,getT,retV,Tryz.f129,canonD,h4]
def parseI (s:List UInt8):Int × Bool :=
 if begins s [45]=true then
  (if 9<(s.drop 1).length∨canonD (s.drop 1)=false then (0,false) else match valL (s.drop 1) 0 with
   | some v=>if v=0 then (0,false) else (-(v:Int),true)
   | none=>(0,false))
 else (if 9<s.length∨canonD s=false then (0,false) else match valL s 0 with
  | some v=>((v:Int),true)
  | none=>(0,false))
def encIB (r:Int × Bool):V:=.tup [.int .i64 r.1,.bool r.2]
theorem valL_lt:∀ {s:List UInt8} {v r:Nat},valL s v=some r→r<(v+1)*10^s.length
 | [],v,r,h=>by
  simp only [valL,Option.some.injEq] at h
  simp;omega
 | c::s,v,r,h=>by
  rw [valL] at h
  split at h
  ·rename_i hd
   simp only [isDig,Bool.and_eq_true,decide_eq_true_eq] at hd
   have:=valL_lt h
   rw [List.length_cons,Nat.pow_succ]
   refine Nat.lt_of_lt_of_le this ?_
   have:(v*10+(c.toNat-48)+1)≤(v+1)*10:=by omega
   calc (v*10+(c.toNat-48)+1)*10^s.length≤((v+1)*10)*10^s.length:=Nat.mul_le_mul_right _ this
    _=(v+1)*(10^s.length*10):=by rw [Nat.mul_assoc,Nat.mul_comm 10]
  ·cases h
theorem canonD_pos {d:List UInt8} (h:canonD d=true):0<d.length:=by
 cases d with
 | nil=>simp [canonD] at h
 | cons=>simp
theorem pc82 (s:List UInt8) (hs:s.length≤4000000000):PC Tryz.prog 82 [.str s] (encIB (parseI s)):=by
 refine PC.walk tok mixed cfg0 Tryz.func82 rfl Tryz.call82 (by simp) (by first | rfl | simp) ?_;refine vms1 Tryz.ntmps82 ?_
 refine callO.pcj (pcj127 s) ?_
 simp (maxSteps:=2000000) -implicitDefEqProofs +contextual (disch:=first | assumption | omega | decide +kernel) only [push_cast,↓capI,seval,Nat.reduceLeDiff,Nat.reduceEqDiff,reduceCtorEq,↓reduceIte,num,V.sh,shs,shOs,Ob.sh]
 refine callO.part0 [0] (pc128 s [45] 0 [.int .i64 10] rfl (Nat.zero_le _) hs (by decide)) (by decide) rfl rfl ⟨by rfl,by simp,trivial⟩ ?_
 rw [List.drop_zero]
 have hmin:min (s.length-0) s.length=s.length:=by omega
 have htk:List.take (s.length-0) s=s:=by rw [Nat.sub_zero];exact List.take_length
 unfold parseI
 cases hb:begins s [45]
 ·rw [if_neg (by simp)]
  simp (maxSteps:=2000000) -implicitDefEqProofs +contextual (disch:=first | assumption | omega | decide +kernel) only [push_cast,↓capI,seval,Nat.reduceLeDiff,Nat.reduceEqDiff,reduceCtorEq,↓reduceIte,htk,hmin,Nat.sub_zero,List.take_length,Nat.min_self]
  refine ⟨fun h9=>?_,fun h9=>?_⟩
  ·have h9n:¬9<s.length:=by omega
   refine callO.pc (pc129 s) ?_
   cases hc:canonD s
   ·refine vms1 hc ?_
    refine endK.retA ?_;simp [evRes,getT,retV,Tryz.f82,encIB,h9n,hc]
   refine vms1 hc ?_
   refine callO.part0 [0] (pc130 s 0 hs (Nat.zero_le _) (by omega)) (by decide) rfl rfl ⟨by rfl,by simp,trivial⟩ ?_
   have hv:=@valL_lt s 0
   have hp9:10^s.length≤1000000000:=Nat.pow_le_pow_right (by omega) (by omega:s.length≤9)
   cases he:valL s 0 with
   | none =>
    rw [valR_none (by rw [List.drop_zero];exact he)]
    refine vms1 he ?_
    refine endK.retA ?_;simp [evRes,getT,retV,Tryz.f82,encIB,h9n,hc,he]
   | some v =>
    have hv2:=hv he
    have hpos:=canonD_pos hc
    rw [valR_some (by rw [List.drop_zero];exact he)]
    refine vms2 he hpos ?_
    refine endK.retA ?_;simp [evRes,getT,retV,Tryz.f82,encIB,or_self,if_false]
  ·have h9n:9<s.length:=by omega
   refine endK.retA ?_;simp [evRes,getT,retV,Tryz.f82,encIB,h9n]
 ·have hl:=begins_le hb
  rw [if_pos rfl]
  simp (maxSteps:=2000000) -implicitDefEqProofs +contextual (disch:=first | assumption | omega | decide +kernel) only [push_cast,↓capI,seval,Nat.reduceLeDiff,Nat.reduceEqDiff,reduceCtorEq,↓reduceIte,htk,hmin,Nat.sub_zero,List.take_length,Nat.min_self]
  simp only [List.length_cons,List.length_nil] at hl
  have hl1:(1:Int)≤(s.length:Int):=by omega
  have hdl:(s.drop 1).length=s.length-1:=List.length_drop
  refine ⟨hl1,fun _=>⟨fun h9=>?_,fun h9=>?_⟩⟩
  ·have h9n:¬9<(s.drop 1).length:=by omega
   refine callO.pc (pc129 (s.drop 1)) ?_
   cases hc:canonD (s.drop 1)
   ·refine vms1 hc ?_
    refine endK.retA ?_;simp [evRes,getT,retV,Tryz.f82,encIB,h9n,hc]
   refine vms1 hc ?_
   refine callO.part0 [0] (pc130 s 1 hs (by omega) (by omega)) (by decide) rfl rfl ⟨by rfl,by simp,trivial⟩ ?_
   have hv:=@valL_lt (s.drop 1) 0
   have hp9:10^(s.drop 1).length≤1000000000:=Nat.pow_le_pow_right (by omega) (by omega:(s.drop 1).length≤9)
   cases he:valL (s.drop 1) 0 with
   | none =>
    rw [valR_none he]
    refine vms1 he ?_
    refine endK.retA ?_;simp [evRes,getT,retV,Tryz.f82,encIB,h9n,hc,he]
   | some v =>
    have hv2:=hv he
    have hpos:=canonD_pos hc
    have hpos2:1<s.length:=by omega
    have hd1:decide (1<s.length)=true:=by simpa using hpos2
    rw [valR_some he]
    by_cases hv0:v=0
    ·subst hv0
     refine vms3 he hd1 hpos2 ?_
     refine endK.retA ?_;simp [evRes,getT,retV,Tryz.f82,encIB,or_self,if_false,if_true]
    ·have hvi:¬(v:Int)=0:=by omega
     refine vms4 he hd1 hpos2 hvi ?_
     refine endK.retA ?_;simp [evRes,getT,retV,Tryz.f82,encIB,or_self,if_false,hv0]
  ·have h9n:9<(s.drop 1).length:=by omega
   refine endK.retA ?_;simp [evRes,getT,retV,Tryz.f82,encIB,h9n]
end
section
theorem digs_all (s:List UInt8):∀c,c ∈ digs s→isDig c=true:=by
 intro c hc
 induction s with
 | nil=>cases hc
 | cons x s ih =>
  rw [digs,List.takeWhile_cons] at hc
  split at hc
  ·rename_i h
   rcases List.mem_cons.1 hc with e | h2
   ·rw [e];exact h
   ·exact ih h2
  ·cases hc
theorem begins_cons {x c:UInt8} {l:List UInt8}:begins (x::l) [c]=(x==c):=by simp [begins]
theorem begins_nil {c:UInt8}:begins [] [c]=false:=rfl
theorem no_minus {d:List UInt8} (h:∀c,c ∈ d→isDig c=true):begins d [45]=false:=by
 cases d with
 | nil=>rfl
 | cons x d =>
  rw [begins_cons,beq_eq_false_iff_ne]
  intro e
  have:=h x (List.mem_cons_self ..)
  rw [e] at this
  exact absurd this (by decide)
theorem parseI_nn {d:List UInt8} (h:begins d [45]=false):0≤(parseI d).1:=by
 rw [parseI,if_neg (by rw [h];simp)]
 split
 ·exact Int.le_refl _
 ·split
  ·exact Int.natCast_nonneg _
  ·exact Int.le_refl _
end
section
abbrev PR:=Option (Pr × List UInt8)
def lst (nx:List UInt8→PR) (o:Int) (c:UInt8):Nat→Pr→List UInt8→PR
 | 0,_,_=>none
 | k+1,x,s=>if begins s [c]=true then
   match nx (s.drop 1) with
   | none=>none
   | some (y,r)=>lst nx o c k (.bin (op0 o) x y) r
  else some (x,s)
def lstP (nx:List UInt8→PR) (o:Int) (c:UInt8) (s:List UInt8):PR :=
 match nx s with
 | none=>none
 | some (x,r)=>lst nx o c (r.length+1) x r
def strs:Nat→Pr→List UInt8→Pr × List UInt8
 | 0,p,s=>(p,s)
 | k+1,p,s=>if begins s [42]=true then strs k (.un (op0 6) p) (s.drop 1) else (p,s)
def pStr (nx:List UInt8→PR) (s:List UInt8):PR :=
 match nx s with
 | none=>none
 | some (p,r)=>some (strs (r.length+1) p r)
def pNumb (s:List UInt8):PR:=if (parseI (digs s)).2=true then some (.leaf ⟨3,(parseI (digs s)).1⟩,dropD s) else none
def pAtm:Nat→List UInt8→PR
 | 0,_=>none
 | k+1,s =>
  if begins s [40,41]=true then some (.leaf (op0 1),s.drop 2)
  else if begins s [46]=true then some (.leaf (op0 2),s.drop 1)
  else if begins s [40]=true then
   match lstP (lstP (pStr (pAtm k)) 4 44) 5 124 (s.drop 1) with
   | none=>none
   | some (p,r)=>if begins r [41]=true then some (p,r.drop 1) else none
  else pNumb s
def pCat (k:Nat):List UInt8→PR:=lstP (pStr (pAtm k)) 4 44
def pOr (k:Nat):List UInt8→PR:=lstP (pCat k) 5 124
def Eats (f:List UInt8→PR):Prop:=∀s p r,f s=some (p,r)→(flat p).length+r.length≤s.length∧okP 1000000000 p
theorem lst_eats {nx:List UInt8→PR} (h:Eats nx) {o:Int} (ho:o=4∨o=5) {c:UInt8}:∀k x s p r,okP 1000000000 x→lst nx o c k x s=some (p,r)→(flat p).length+r.length≤(flat x).length+s.length∧okP 1000000000 p
 | 0,x,s,p,r,_,e=>by cases e
 | k+1,x,s,p,r,hx,e=>by
  rw [lst] at e
  split at e
  ·rename_i hb
   have hl:=begins_le hb
   simp only [List.length_cons,List.length_nil] at hl
   cases hn:nx (s.drop 1) with
   | none=>rw [hn] at e;cases e
   | some q =>
    obtain ⟨y,t⟩:=q
    rw [hn] at e
    have h1:=h _ _ _ hn
    rw [List.length_drop] at h1
    have h2:=lst_eats h ho k (.bin (op0 o) x y) t p r ⟨ho,hx,h1.2⟩ e
    rw [flat,List.length_cons,List.length_append] at h2
    exact ⟨by omega,h2.2⟩
  ·injection e with e
   injection e with e1 e2
   subst e1 e2
   exact ⟨Nat.le_refl _,hx⟩
theorem lstP_eats {nx:List UInt8→PR} (h:Eats nx) {o:Int} (ho:o=4∨o=5) {c:UInt8}:Eats (lstP nx o c):=by
 intro s p r e
 rw [lstP] at e
 cases hn:nx s with
 | none=>rw [hn] at e;cases e
 | some q =>
  obtain ⟨y,t⟩:=q
  rw [hn] at e
  have h1:=h _ _ _ hn
  have h2:=lst_eats h ho _ _ _ _ _ h1.2 e
  exact ⟨by omega,h2.2⟩
theorem strs_eats:∀k p s,okP 1000000000 p→(flat (strs k p s).1).length+(strs k p s).2.length≤(flat p).length+s.length∧okP 1000000000 (strs k p s).1
 | 0,p,s,hp=>⟨Nat.le_refl _,hp⟩
 | k+1,p,s,hp=>by
  rw [strs]
  split
  ·rename_i hb
   have hl:=begins_le hb
   simp only [List.length_cons,List.length_nil] at hl
   have h:=strs_eats k (.un (op0 6) p) (s.drop 1) ⟨rfl,hp⟩
   rw [flat,List.length_cons,List.length_drop] at h
   exact ⟨by omega,h.2⟩
  ·exact ⟨Nat.le_refl _,hp⟩
theorem pStr_eats {nx:List UInt8→PR} (h:Eats nx):Eats (pStr nx):=by
 intro s p r e
 rw [pStr] at e
 cases hn:nx s with
 | none=>rw [hn] at e;cases e
 | some q =>
  obtain ⟨y,t⟩:=q
  rw [hn] at e
  have h1:=h _ _ _ hn
  have h2:=strs_eats (t.length+1) y t h1.2
  simp only [Option.some.injEq] at e
  rw [e] at h2
  simp only at h2
  exact ⟨by omega,h2.2⟩
theorem parseI_lt {d:List UInt8} (h:begins d [45]=false) (h2:(parseI d).2=true):(parseI d).1<1000000000∧0<d.length:=by
 rw [parseI,if_neg (by rw [h];simp)] at h2 ⊢
 split at h2
 ·simp at h2
 rename_i hc
 rw [if_neg hc]
 cases hv:valL d 0 with
 | none=>rw [hv] at h2;simp at h2
 | some v =>
  simp only
  have h3:=valL_lt hv
  have h9:d.length≤9:=by omega
  have:=Nat.pow_le_pow_right (n:=10) (by decide) h9
  have hp:0<d.length:=canonD_pos (by simpa using fun g=>hc (.inr g))
  exact ⟨by omega,hp⟩
theorem chk1_num {n:Int} (h:0≤n∧n<1000000000):chk1 1000000000 ⟨3,n⟩=0:=by
 have ha:arity 3=0:=rfl
 rw [chk1]
 simp only [ha]
 rw [if_neg (by decide),if_neg]
 rintro ⟨_,h2⟩
 unfold badN at h2
 simp only at h2
 omega
theorem pNumb_eats:Eats pNumb:=by
 intro s p r e
 rw [pNumb] at e
 split at e
 ·rename_i h
  have hm:=no_minus (digs_all s)
  obtain ⟨h1,h2⟩:=parseI_lt hm h
  have h3:=parseI_nn hm
  have h4:=dropD_len s
  injection e with e
  injection e with e1 e2
  subst e1 e2
  rw [flat,List.length_singleton]
  exact ⟨by omega,.inr (.inr rfl),chk1_num ⟨h3,h1⟩⟩
 ·cases e
theorem pAtm_eats:∀k,Eats (pAtm k)
 | 0=>by intro s p r e;cases e
 | k+1=>by
  have ih:=pAtm_eats k
  intro s p r e
  rw [pAtm] at e
  split at e
  ·rename_i hb
   have hl:=begins_le hb
   simp only [List.length_cons,List.length_nil] at hl
   injection e with e
   injection e with e1 e2
   subst e1 e2
   rw [List.length_drop,flat,List.length_singleton]
   exact ⟨by omega,.inl rfl,rfl⟩
  split at e
  ·rename_i hb
   have hl:=begins_le hb
   simp only [List.length_cons,List.length_nil] at hl
   injection e with e
   injection e with e1 e2
   subst e1 e2
   rw [List.length_drop,flat,List.length_singleton]
   exact ⟨by omega,.inr (.inl rfl),rfl⟩
  split at e
  ·rename_i hb
   have hl:=begins_le hb
   simp only [List.length_cons,List.length_nil] at hl
   cases hn:lstP (lstP (pStr (pAtm k)) 4 44) 5 124 (s.drop 1) with
   | none=>rw [hn] at e;cases e
   | some q =>
    obtain ⟨y,t⟩:=q
    rw [hn] at e
    have h1:=lstP_eats (lstP_eats (pStr_eats ih) (.inl rfl)) (.inr rfl) _ _ _ hn
    rw [List.length_drop] at h1
    simp only at e
    split at e
    ·injection e with e
     injection e with e1 e2
     subst e1 e2
     rw [List.length_drop]
     exact ⟨by omega,h1.2⟩
    ·cases e
  ·exact pNumb_eats s p r e
theorem pCat_eats (k:Nat):Eats (pCat k):=lstP_eats (pStr_eats (pAtm_eats k)) (.inl rfl)
theorem pOr_eats (k:Nat):Eats (pOr k):=lstP_eats (pCat_eats k) (.inr rfl)
end
end Go.Proofs.YtlbmbbaefncleaaGreatDoor.Px

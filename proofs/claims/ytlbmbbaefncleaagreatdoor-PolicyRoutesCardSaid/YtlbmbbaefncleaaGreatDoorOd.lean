/-
  Joined by a program from the texts PxNod PxBld PxChk PxRef PxTree.
-/
import Derived.Test.YtlbmbbaefncleaaGreatDoorOc
import Derived.Test.YtlbmbbaefncleaaGreatDoorNg
set_option maxRecDepth 100000
set_option maxHeartbeats 4000000
set_option linter.all false
namespace Go.Proofs.YtlbmbbaefncleaaGreatDoor.Px
open Go.Vm
section
structure Nd where
 op:Int
 n:Int
 deriving DecidableEq
instance:Inhabited Nd:=⟨⟨0,0⟩⟩
def encN (x:Nd):List V:=[.int .i64 x.op,.int .i64 x.n]
def slN (l:List Nd):V:=.sl false (l.flatMap encN) l.length
theorem lenN (x:Nd):(encN x).length=2:=rfl
theorem gfp_lenN (xs:List (Nd)) (i:Nat) (h:i<xs.length) (m:Nat) (hm:m≤2):getV ((xs.flatMap encN).drop (i*2)) 0 m=getV (encN xs[i]) 0 m:=get_flat_part lenN xs i h m hm
theorem gfd_lenN (xs:List (Nd)) (i:Nat) (h:i<xs.length) (o m:Nat) (hm:o+m≤2):getV (((xs.flatMap encN).drop (i*2)).drop o) 0 m=getV (encN xs[i]) o m:=get_flat_drop lenN xs i h o m hm
theorem lfl_lenN (xs:List (Nd)):(xs.flatMap encN).length=xs.length*2:=len_flat lenN xs
@[simp] theorem belN {n:Nat} (x:Nd):belAll n (encN x)=true:=rfl
@[simp] theorem bel_Ns {n:Nat} (xs:List Nd):belAll n (xs.flatMap encN)=true:=belAll_flat belN xs
@[simp] theorem bel_slN {n:Nat} (l:List Nd):(slN l).bel n=true:=by unfold slN;rw [bel_sl];exact bel_Ns l
theorem fmN (x:Nd) (l:List Nd):List.flatMap encN (x::l)=.int .i64 x.op::.int .i64 x.n::l.flatMap encN:=rfl
theorem fm0:List.flatMap encN []=[]:=rfl
theorem slN_nil:slN []=.sl false [] 0:=rfl
theorem take_N {xs:List Nd}:(xs.flatMap encN).take (xs.length*2)=xs.flatMap encN:=by
 rw [List.take_of_length_le (by rw [len_flat lenN];exact Nat.le_refl _)]
theorem toN1 (n:Nat):((n:Int)+1).toNat-1=n:=by omega
def nN (x:Nd):Int:=if x.op=3 then x.n else 0
inductive Pr where
 | leaf (x:Nd)
 | un (x:Nd) (p:Pr)
 | bin (x:Nd) (p q:Pr)
def flat:Pr→List Nd
 | .leaf x=>[x]
 | .un x p=>x::flat p
 | .bin x p q=>x::(flat p++flat q)
def top:Pr→Nd
 | .leaf x=>x
 | .un x _=>x
 | .bin x _ _=>x
def arity (o:Int):Int:=if o=1∨o=2∨o=3 then 0 else if o=6 then 1 else if o=4∨o=5 then 2 else -1
def badN (sw:Int) (x:Nd):Prop:=x.n<0∨sw≤x.n∨999999999<x.n
instance (sw:Int) (x:Nd):Decidable (badN sw x):=by unfold badN;infer_instance
def chk1 (sw:Int) (x:Nd):Int:=if arity x.op<0 then 11 else if x.op=3∧badN sw x then 9 else 0
def okP (sw:Int):Pr→Prop
 | .leaf x=>(x.op=1∨x.op=2∨x.op=3)∧chk1 sw x=0
 | .un x p=>x.op=6∧okP sw p
 | .bin x p q=>(x.op=4∨x.op=5)∧okP sw p∧okP sw q
def tgX:Pr→Nat
 | .leaf _=>192
 | .un _ _=>187
 | .bin _ _ _=>190
def clX:Pr→List V
 | .leaf x=>[.int .i64 x.op,.int .i64 (nN x)]
 | .un _ p=>[.ifc (tgX p) (.agg (clX p))]
 | .bin x p q=>[.int .i64 x.op,.ifc (tgX p) (.agg (clX p)),.ifc (tgX q) (.agg (clX q))]
def encX (p:Pr):V:=.ifc (tgX p) (.agg (clX p))
theorem bel_clX {n:Nat}:∀p,belAll n (clX p)=true
 | .leaf x=>rfl
 | .un _ p=>by rw [clX,belAll_cons,bel_ifc,bel_agg,bel_clX p];rfl
 | .bin _ p q=>by rw [clX,belAll_cons,belAll_cons,belAll_cons,bel_ifc,bel_agg,bel_ifc,bel_agg,bel_clX p,bel_clX q];rfl
@[simp] theorem bel_encX {n:Nat} (p:Pr):(encX p).bel n=true:=by rw [encX,bel_ifc,bel_agg,bel_clX]
inductive Er where
 | no
 | un (e:Er)
 | bin (o:Int) (p:Pr) (e:Er)
def errX:Er→V
 | .no=>.nili
 | .un e=>.ifc 187 (.agg [errX e])
 | .bin o p e=>.ifc 190 (.agg [.int .i64 o,encX p,errX e])
theorem bel_errX {n:Nat}:∀m,(errX m).bel n=true
 | .no=>rfl
 | .un m=>by rw [errX,bel_ifc,bel_agg,belAll_cons,bel_errX m];rfl
 | .bin o p m=>by rw [errX,bel_ifc,bel_agg,belAll_cons,belAll_cons,belAll_cons,bel_encX,bel_errX m];rfl
theorem st_errX:∀m,(errX m).st=errX m
 | .no=>rfl
 | .un _=>rfl
 | .bin _ _ _=>rfl
theorem os_errX {g:Bool} {xs:List V} {p:Prop}:∀m,optSide g (errX m::xs) p=optSide g xs p
 | .no=>rfl
 | .un _=>rfl
 | .bin _ _ _=>rfl
def rep (f:List Nd→List Nd × Int):Nat→List Nd→List Nd × Int
 | 0,l=>(l,0)
 | n+1,l=>if (f l).2≠0 then ([],(f l).2) else rep f n (f l).1
def chk (sw:Int):Nat→List Nd→List Nd × Int
 | _,[]=>([],3)
 | 0,_::_=>([],3)
 | k+1,x::l=>if chk1 sw x≠0 then ([],chk1 sw x) else rep (chk sw k) (arity x.op).toNat l
theorem rep_len {f:List Nd→List Nd × Int} (h:∀l,(f l).1.length≤l.length):∀n l,(rep f n l).1.length≤l.length
 | 0,l=>Nat.le_refl _
 | n+1,l=>by
  rw [rep]
  split
  ·exact Nat.zero_le _
  ·exact Nat.le_trans (rep_len h n _) (h l)
theorem chk_len (sw:Int):∀k l,(chk sw k l).1.length≤l.length
 | 0,[]=>Nat.le_refl _
 | 0,_::_=>Nat.zero_le _
 | k+1,[]=>Nat.le_refl _
 | k+1,x::l=>by
  rw [chk]
  split
  ·exact Nat.zero_le _
  ·exact Nat.le_trans (rep_len (chk_len sw k) _ _) (Nat.le_succ _)
theorem chk1_op {sw:Int} {x:Nd} (h:x.op=6∨x.op=4∨x.op=5):chk1 sw x=0:=by
 have ha:¬arity x.op<0:=by rcases h with h | h | h<;>rw [h]<;>decide
 rw [chk1,if_neg ha,if_neg]
 rintro ⟨h3,_⟩
 omega
theorem chk_tree (sw:Int):∀k l,(chk sw k l).2=0→∃p,okP sw p∧l=flat p++(chk sw k l).1
 | 0,[],h=>by simp [chk] at h
 | 0,_::_,h=>by simp [chk] at h
 | _+1,[],h=>by simp [chk] at h
 | k+1,x::l,h=>by
  rw [chk] at h ⊢
  by_cases hc:chk1 sw x=0
  case neg =>
   rw [if_pos hc] at h
   exact absurd h hc
  rw [if_neg (fun g=>g hc)] at h ⊢
  by_cases h0:x.op=1∨x.op=2∨x.op=3
  ·have ha:arity x.op=0:=by rw [arity,if_pos h0]
   rw [ha] at h ⊢
   exact ⟨.leaf x,⟨h0,hc⟩,rfl⟩
  by_cases h4:x.op=6
  ·have ha:arity x.op=1:=by rw [arity,if_neg h0,if_pos h4]
   rw [ha,show (1:Int).toNat=0+1 from rfl,rep] at h ⊢
   by_cases he:(chk sw k l).2=0
   ·rw [if_neg (fun g=>g he)] at h ⊢
    obtain ⟨p,hp,hl⟩:=chk_tree sw k l he
    refine ⟨.un x p,⟨h4,hp⟩,?_⟩
    rw [flat,List.cons_append]
    exact congrArg (x::·) hl
   ·rw [if_pos he] at h
    exact absurd h he
  by_cases h56:x.op=4∨x.op=5
  ·have ha:arity x.op=2:=by rw [arity,if_neg h0,if_neg h4,if_pos h56]
   rw [ha,show (2:Int).toNat=0+1+1 from rfl,rep] at h ⊢
   by_cases he:(chk sw k l).2=0
   ·rw [if_neg (fun g=>g he)] at h ⊢
    rw [rep] at h ⊢
    by_cases he2:(chk sw k (chk sw k l).1).2=0
    ·rw [if_neg (fun g=>g he2)] at h ⊢
     obtain ⟨p,hp,hl⟩:=chk_tree sw k l he
     obtain ⟨q,hq,hl2⟩:=chk_tree sw k _ he2
     refine ⟨.bin x p q,⟨h56,hp,hq⟩,?_⟩
     rw [flat,List.cons_append,List.append_assoc]
     refine congrArg (x::·) ?_
     rw [rep,←hl2]
     exact hl
    ·rw [if_pos he2] at h
     exact absurd h he2
   ·rw [if_pos he] at h
    exact absurd h he
  ·exfalso
   have ha:arity x.op=-1:=by rw [arity,if_neg h0,if_neg h4,if_neg h56]
   rw [chk1,ha,if_pos (by decide)] at hc
   exact absurd hc (by decide)
end
section
def bldR (sw:Int) (k:Nat) (l:List Nd):Prop :=
 if (chk sw k l).2=0 then ∃p,okP sw p∧l=flat p++(chk sw k l).1∧PC Tryz.prog 143 [slN l,.int .i64 sw] (.tup [encX p,slN (chk sw k l).1,.int .i64 0])
 else ∃m,PC Tryz.prog 143 [slN l,.int .i64 sw] (.tup [errX m,.sl true [] 0,.int .i64 (chk sw k l).2])
theorem bld_ok {sw:Int} {k:Nat} {l:List Nd} (p:Pr) (hp:okP sw p) (r:List Nd) (hr:chk sw k l=(r,0)) (hl:l=flat p++r) (h:PC Tryz.prog 143 [slN l,.int .i64 sw] (.tup [encX p,slN r,.int .i64 0])):bldR sw k l:=by
 rw [bldR,hr,if_pos rfl]
 exact ⟨p,hp,hl,h⟩
theorem bld_err {sw:Int} {k:Nat} {l:List Nd} (m:Er) (e:Int) (he:e≠0) (hr:chk sw k l=([],e)) (h:PC Tryz.prog 143 [slN l,.int .i64 sw] (.tup [errX m,.sl true [] 0,.int .i64 e])):bldR sw k l:=by
 rw [bldR,hr,if_neg he]
 exact ⟨m,h⟩
attribute [local push_cast] fmN fm0 take_N toN1 slN_nil encN slN cfg0 gfp_lenN gfd_lenN lfl_lenN encX st_errX os_errX
theorem pc143 (sw:Int):∀(k:Nat) (l:List Nd),l.length≤k→l.length≤4000000→bldR sw k l:=by
 intro k
 induction k with
 | zero =>
  intro l hl _
  have hl0:l=[]:=List.length_eq_zero_iff.1 (by omega)
  subst hl0
  refine bld_err .no 3 (by decide) rfl ?_
  refine PC.walk tok mixed cfg0 Tryz.func143 rfl Tryz.call143 (by simp [bel_clX,bel_errX]) (by first | rfl | simp [bel_clX,bel_errX]) ?_;simp (maxSteps:=2000000) -implicitDefEqProofs +contextual (disch:=first | assumption | omega | decide +kernel) only [push_cast,↓capI,seval,Nat.reduceLeDiff,Nat.reduceEqDiff,reduceCtorEq,↓reduceIte,Tryz.ntmps143]
  refine endK.ret ?_ (by first | rfl | simp [bel_clX,bel_errX]);simp [evRes,getT,retV,Tryz.f143,errX]
 | succ k ih =>
  intro l hl hm
  cases l with
  | nil =>
   refine bld_err .no 3 (by decide) rfl ?_
   refine PC.walk tok mixed cfg0 Tryz.func143 rfl Tryz.call143 (by simp [bel_clX,bel_errX]) (by first | rfl | simp [bel_clX,bel_errX]) ?_;simp (maxSteps:=2000000) -implicitDefEqProofs +contextual (disch:=first | assumption | omega | decide +kernel) only [push_cast,↓capI,seval,Nat.reduceLeDiff,Nat.reduceEqDiff,reduceCtorEq,↓reduceIte,Tryz.ntmps143]
   refine endK.ret ?_ (by first | rfl | simp [bel_clX,bel_errX]);simp [evRes,getT,retV,Tryz.f143,errX]
  | cons x l =>
   have hm2:l.length≤4000000:=by simp only [List.length_cons] at hm;omega
   have hk2:l.length≤k:=by simp only [List.length_cons] at hl;omega
   have hL:((l.length:Int)+1).toNat-1=l.length:=by omega
   obtain ⟨o,n⟩:=x
   by_cases h1:o=1∨o=2
   ·have hc:chk1 sw ⟨o,n⟩=0:=by
     have ha:¬arity o<0:=by rcases h1 with h | h<;>rw [h]<;>decide
     rw [chk1,if_neg ha,if_neg]
     rintro ⟨h3,_⟩
     simp only at h3
     omega
    have ha:arity o=0:=by rcases h1 with h | h<;>rw [h]<;>rfl
    have hn:¬o=3:=by omega
    refine bld_ok (.leaf ⟨o,n⟩) ⟨by simp only;omega,hc⟩ l (by rw [chk,if_neg (fun g=>g hc),ha];rfl) rfl ?_
    rcases h1 with h1 | h1
    ·subst h1
     refine PC.walk tok mixed cfg0 Tryz.func143 rfl Tryz.call143 (by simp [bel_clX,bel_errX]) (by first | rfl | simp [bel_clX,bel_errX]) ?_;simp (maxSteps:=2000000) -implicitDefEqProofs +contextual (disch:=first | assumption | omega | decide +kernel) only [push_cast,↓capI,seval,Nat.reduceLeDiff,Nat.reduceEqDiff,reduceCtorEq,↓reduceIte,Tryz.ntmps143]
     refine endK.ret ?_ (by first | rfl | simp [bel_clX,bel_errX]);simp [evRes,getT,retV,Tryz.f143,encX,tgX,clX,nN]
    ·subst h1
     refine PC.walk tok mixed cfg0 Tryz.func143 rfl Tryz.call143 (by simp [bel_clX,bel_errX]) (by first | rfl | simp [bel_clX,bel_errX]) ?_;simp (maxSteps:=2000000) -implicitDefEqProofs +contextual (disch:=first | assumption | omega | decide +kernel) only [push_cast,↓capI,seval,Nat.reduceLeDiff,Nat.reduceEqDiff,reduceCtorEq,↓reduceIte,Tryz.ntmps143]
     refine endK.ret ?_ (by first | rfl | simp [bel_clX,bel_errX]);simp [evRes,getT,retV,Tryz.f143,encX,tgX,clX,nN]
   have n1:¬o=1:=by omega
   have n2:¬o=2:=by omega
   by_cases h3:o=3
   ·subst h3
    have ha:arity 3=0:=rfl
    by_cases hb:badN sw ⟨3,n⟩
    ·have hc:chk1 sw ⟨3,n⟩=9:=by
      rw [chk1]
      simp only [ha]
      rw [if_neg (by decide),if_pos ⟨trivial,hb⟩]
     refine bld_err .no 9 (by decide) (by rw [chk,hc,if_pos (by decide)]) ?_
     by_cases b1:n<0
     ·refine PC.walk tok mixed cfg0 Tryz.func143 rfl Tryz.call143 (by simp [bel_clX,bel_errX]) (by first | rfl | simp [bel_clX,bel_errX]) ?_;simp (maxSteps:=2000000) -implicitDefEqProofs +contextual (disch:=first | assumption | omega | decide +kernel) only [push_cast,↓capI,seval,Nat.reduceLeDiff,Nat.reduceEqDiff,reduceCtorEq,↓reduceIte,Tryz.ntmps143]
      (try simp (maxSteps:=2000000) -implicitDefEqProofs +contextual (disch:=first | assumption | omega | decide +kernel) only [push_cast,↓capI,seval,Nat.reduceLeDiff,Nat.reduceEqDiff,reduceCtorEq,↓reduceIte,b1])
      refine endK.ret ?_ (by first | rfl | simp [bel_clX,bel_errX]);simp [evRes,getT,retV,Tryz.f143,errX]
     by_cases b2:sw≤n
     ·refine PC.walk tok mixed cfg0 Tryz.func143 rfl Tryz.call143 (by simp [bel_clX,bel_errX]) (by first | rfl | simp [bel_clX,bel_errX]) ?_;simp (maxSteps:=2000000) -implicitDefEqProofs +contextual (disch:=first | assumption | omega | decide +kernel) only [push_cast,↓capI,seval,Nat.reduceLeDiff,Nat.reduceEqDiff,reduceCtorEq,↓reduceIte,Tryz.ntmps143]
      (try simp (maxSteps:=2000000) -implicitDefEqProofs +contextual (disch:=first | assumption | omega | decide +kernel) only [push_cast,↓capI,seval,Nat.reduceLeDiff,Nat.reduceEqDiff,reduceCtorEq,↓reduceIte,b1,b2])
      refine endK.ret ?_ (by first | rfl | simp [bel_clX,bel_errX]);simp [evRes,getT,retV,Tryz.f143,errX]
     have b3:999999999<n:=by rcases hb with h | h | h<;>simp only at h<;>omega
     refine PC.walk tok mixed cfg0 Tryz.func143 rfl Tryz.call143 (by simp [bel_clX,bel_errX]) (by first | rfl | simp [bel_clX,bel_errX]) ?_;simp (maxSteps:=2000000) -implicitDefEqProofs +contextual (disch:=first | assumption | omega | decide +kernel) only [push_cast,↓capI,seval,Nat.reduceLeDiff,Nat.reduceEqDiff,reduceCtorEq,↓reduceIte,Tryz.ntmps143]
     (try simp (maxSteps:=2000000) -implicitDefEqProofs +contextual (disch:=first | assumption | omega | decide +kernel) only [push_cast,↓capI,seval,Nat.reduceLeDiff,Nat.reduceEqDiff,reduceCtorEq,↓reduceIte,b1,b2,b3])
     refine endK.ret ?_ (by first | rfl | simp [bel_clX,bel_errX]);simp [evRes,getT,retV,Tryz.f143,errX]
    ·have hc:chk1 sw ⟨3,n⟩=0:=by
      rw [chk1]
      simp only [ha]
      rw [if_neg (by decide),if_neg (fun h=>hb h.2)]
     have b1:¬n<0:=fun h=>hb (.inl h)
     have b2:¬sw≤n:=fun h=>hb (.inr (.inl h))
     have b3:¬999999999<n:=fun h=>hb (.inr (.inr h))
     refine bld_ok (.leaf ⟨3,n⟩) ⟨by simp,hc⟩ l (by rw [chk,if_neg (fun g=>g hc)];rfl) rfl ?_
     refine PC.walk tok mixed cfg0 Tryz.func143 rfl Tryz.call143 (by simp [bel_clX,bel_errX]) (by first | rfl | simp [bel_clX,bel_errX]) ?_;simp (maxSteps:=2000000) -implicitDefEqProofs +contextual (disch:=first | assumption | omega | decide +kernel) only [push_cast,↓capI,seval,Nat.reduceLeDiff,Nat.reduceEqDiff,reduceCtorEq,↓reduceIte,Tryz.ntmps143]
     (try simp (maxSteps:=2000000) -implicitDefEqProofs +contextual (disch:=first | assumption | omega | decide +kernel) only [push_cast,↓capI,seval,Nat.reduceLeDiff,Nat.reduceEqDiff,reduceCtorEq,↓reduceIte,b1,b2,b3])
     refine endK.ret ?_ (by first | rfl | simp [bel_clX,bel_errX]);simp [evRes,getT,retV,Tryz.f143,encX,tgX,clX,nN]
   by_cases h6:o=6
   ·subst h6
    have hc:chk1 sw ⟨6,n⟩=0:=chk1_op (.inl rfl)
    have ha:arity 6=1:=rfl
    have hr:chk sw (k+1) (⟨6,n⟩::l)=if (chk sw k l).2≠0 then ([],(chk sw k l).2) else ((chk sw k l).1,0):=by
     rw [chk,if_neg (fun g=>g hc)]
     simp only [ha]
     rfl
    have i1:=ih l hk2 hm2
    rw [bldR] at i1
    by_cases he:(chk sw k l).2=0
    ·rw [if_pos he] at i1
     obtain ⟨p,hp,hl,hpc⟩:=i1
     refine bld_ok (.un ⟨6,n⟩ p) ⟨rfl,hp⟩ (chk sw k l).1 (by rw [hr,if_neg (fun g=>g he)]) (by rw [flat,List.cons_append,←hl]) ?_
     refine PC.walk tok mixed cfg0 Tryz.func143 rfl Tryz.call143 (by simp [bel_clX,bel_errX]) (by first | rfl | simp [bel_clX,bel_errX]) ?_;simp (maxSteps:=2000000) -implicitDefEqProofs +contextual (disch:=first | assumption | omega | decide +kernel) only [push_cast,↓capI,seval,Nat.reduceLeDiff,Nat.reduceEqDiff,reduceCtorEq,↓reduceIte,Tryz.ntmps143]
     refine callO.pc hpc ?_
     simp (maxSteps:=2000000) -implicitDefEqProofs +contextual (disch:=first | assumption | omega | decide +kernel) only [push_cast,↓capI,seval,Nat.reduceLeDiff,Nat.reduceEqDiff,reduceCtorEq,↓reduceIte]
     refine endK.ret ?_ (by first | rfl | simp [bel_clX,bel_errX]);simp [evRes,getT,retV,Tryz.f143,encX,tgX,clX,slN]
    ·rw [if_neg he] at i1
     obtain ⟨m,hpc⟩:=i1
     refine bld_err (.un m) _ he (by rw [hr,if_pos he]) ?_
     cases m
     all_goals
      refine PC.walk tok mixed cfg0 Tryz.func143 rfl Tryz.call143 (by simp [bel_clX,bel_errX]) (by first | rfl | simp [bel_clX,bel_errX]) ?_;simp (maxSteps:=2000000) -implicitDefEqProofs +contextual (disch:=first | assumption | omega | decide +kernel) only [push_cast,↓capI,seval,Nat.reduceLeDiff,Nat.reduceEqDiff,reduceCtorEq,↓reduceIte,Tryz.ntmps143]
      refine callO.pc hpc ?_
      simp (maxSteps:=2000000) -implicitDefEqProofs +contextual (disch:=first | assumption | omega | decide +kernel) only [push_cast,↓capI,seval,Nat.reduceLeDiff,Nat.reduceEqDiff,reduceCtorEq,↓reduceIte,errX]
      refine endK.ret ?_ (by first | rfl | simp [bel_clX,bel_errX]);simp [evRes,getT,retV,Tryz.f143,errX]
   by_cases h45:o=4∨o=5
   ·have hc:chk1 sw ⟨o,n⟩=0:=chk1_op (.inr h45)
    have ha:arity o=2:=by rcases h45 with h | h<;>rw [h]<;>rfl
    have hr:chk sw (k+1) (⟨o,n⟩::l)=if (chk sw k l).2≠0 then ([],(chk sw k l).2) else if (chk sw k (chk sw k l).1).2≠0 then ([],(chk sw k (chk sw k l).1).2) else ((chk sw k (chk sw k l).1).1,0):=by
     rw [chk,if_neg (fun g=>g hc)]
     simp only [ha]
     rfl
    have i1:=ih l hk2 hm2
    have hlen:=chk_len sw k l
    have i2:=ih (chk sw k l).1 (by omega) (by omega)
    rw [bldR] at i1 i2
    by_cases he:(chk sw k l).2=0
    case neg =>
     rw [if_neg he] at i1
     obtain ⟨m,hpc⟩:=i1
     refine bld_err .no _ he (by rw [hr,if_pos he]) ?_
     rcases h45 with h | h<;>subst h
     all_goals
      refine PC.walk tok mixed cfg0 Tryz.func143 rfl Tryz.call143 (by simp [bel_clX,bel_errX]) (by first | rfl | simp [bel_clX,bel_errX]) ?_;simp (maxSteps:=2000000) -implicitDefEqProofs +contextual (disch:=first | assumption | omega | decide +kernel) only [push_cast,↓capI,seval,Nat.reduceLeDiff,Nat.reduceEqDiff,reduceCtorEq,↓reduceIte,Tryz.ntmps143]
      refine callO.pc hpc ?_
      (try simp (maxSteps:=2000000) -implicitDefEqProofs +contextual (disch:=first | assumption | omega | decide +kernel) only [push_cast,↓capI,seval,Nat.reduceLeDiff,Nat.reduceEqDiff,reduceCtorEq,↓reduceIte,he])
      refine endK.ret ?_ (by first | rfl | simp [bel_clX,bel_errX]);simp [evRes,getT,retV,Tryz.f143,errX]
    rw [if_pos he] at i1
    rw [if_neg (fun g=>g he)] at hr
    obtain ⟨p,hp,hl1,hpc⟩:=i1
    generalize chk sw k l=c at *
    obtain ⟨r,e⟩:=c
    simp only at he hl1 hpc i2 hr hlen
    by_cases he2:(chk sw k r).2=0
    ·rw [if_pos he2] at i2
     rw [if_neg (fun g=>g he2)] at hr
     obtain ⟨q,hq,hl2,hpc2⟩:=i2
     refine bld_ok (.bin ⟨o,n⟩ p q) ⟨h45,hp,hq⟩ (chk sw k r).1 hr (by rw [flat,List.cons_append,List.append_assoc,←hl2,←hl1]) ?_
     rcases h45 with h | h<;>subst h
     all_goals
      refine PC.walk tok mixed cfg0 Tryz.func143 rfl Tryz.call143 (by simp [bel_clX,bel_errX]) (by first | rfl | simp [bel_clX,bel_errX]) ?_;simp (maxSteps:=2000000) -implicitDefEqProofs +contextual (disch:=first | assumption | omega | decide +kernel) only [push_cast,↓capI,seval,Nat.reduceLeDiff,Nat.reduceEqDiff,reduceCtorEq,↓reduceIte,Tryz.ntmps143]
      refine callO.pc hpc ?_
      simp (maxSteps:=2000000) -implicitDefEqProofs +contextual (disch:=first | assumption | omega | decide +kernel) only [push_cast,↓capI,seval,Nat.reduceLeDiff,Nat.reduceEqDiff,reduceCtorEq,↓reduceIte]
      refine callO.pc hpc2 ?_
      simp (maxSteps:=2000000) -implicitDefEqProofs +contextual (disch:=first | assumption | omega | decide +kernel) only [push_cast,↓capI,seval,Nat.reduceLeDiff,Nat.reduceEqDiff,reduceCtorEq,↓reduceIte]
      refine endK.ret ?_ (by first | rfl | simp [bel_clX,bel_errX]);simp [evRes,getT,retV,Tryz.f143,encX,tgX,clX,slN]
    ·rw [if_neg he2] at i2
     rw [if_pos he2] at hr
     obtain ⟨m,hpc2⟩:=i2
     refine bld_err (.bin o p m) _ he2 hr ?_
     rcases h45 with h | h<;>subst h
     all_goals cases m
     all_goals
      refine PC.walk tok mixed cfg0 Tryz.func143 rfl Tryz.call143 (by simp [bel_clX,bel_errX]) (by first | rfl | simp [bel_clX,bel_errX]) ?_;simp (maxSteps:=2000000) -implicitDefEqProofs +contextual (disch:=first | assumption | omega | decide +kernel) only [push_cast,↓capI,seval,Nat.reduceLeDiff,Nat.reduceEqDiff,reduceCtorEq,↓reduceIte,Tryz.ntmps143]
      refine callO.pc hpc ?_
      simp (maxSteps:=2000000) -implicitDefEqProofs +contextual (disch:=first | assumption | omega | decide +kernel) only [push_cast,↓capI,seval,Nat.reduceLeDiff,Nat.reduceEqDiff,reduceCtorEq,↓reduceIte]
      refine callO.pc hpc2 ?_
      simp (maxSteps:=2000000) -implicitDefEqProofs +contextual (disch:=first | assumption | omega | decide +kernel) only [push_cast,↓capI,seval,Nat.reduceLeDiff,Nat.reduceEqDiff,reduceCtorEq,↓reduceIte,errX]
      refine endK.ret ?_ (by first | rfl | simp [bel_clX,bel_errX]);simp [evRes,getT,retV,Tryz.f143,errX,encX]
   ·have ha:arity o=-1:=by rw [arity,if_neg (by omega),if_neg h6,if_neg h45]
    have hc:chk1 sw ⟨o,n⟩=11:=by
     rw [chk1]
     simp only [ha]
     rfl
    have n4:¬o=4:=by omega
    have n5:¬o=5:=by omega
    refine bld_err .no 11 (by decide) (by rw [chk,hc,if_pos (by decide)]) ?_
    refine PC.walk tok mixed cfg0 Tryz.func143 rfl Tryz.call143 (by simp [bel_clX,bel_errX]) (by first | rfl | simp [bel_clX,bel_errX]) ?_;simp (maxSteps:=2000000) -implicitDefEqProofs +contextual (disch:=first | assumption | omega | decide +kernel) only [push_cast,↓capI,seval,Nat.reduceLeDiff,Nat.reduceEqDiff,reduceCtorEq,↓reduceIte,Tryz.ntmps143]
    (try simp (maxSteps:=2000000) -implicitDefEqProofs +contextual (disch:=first | assumption | omega | decide +kernel) only [push_cast,↓capI,seval,Nat.reduceLeDiff,Nat.reduceEqDiff,reduceCtorEq,↓reduceIte,n1,n2,h3,n4,n5,h6])
    refine endK.ret ?_ (by first | rfl | simp [bel_clX,bel_errX]);simp [evRes,getT,retV,Tryz.f143,errX]
end
section
def checkP (sw:Int) (l:List Nd):Int:=if 24<l.length then 12 else if (chk sw l.length l).2=0∧(chk sw l.length l).1≠[] then 4 else (chk sw l.length l).2
theorem checkP_big {sw:Int} {l:List Nd} (h:24<l.length):checkP sw l=12:=by rw [checkP,if_pos h]
theorem checkP_err {sw:Int} {l:List Nd} (h:¬24<l.length) (he:¬(chk sw l.length l).2=0):checkP sw l=(chk sw l.length l).2:=by rw [checkP,if_neg h,if_neg (fun g=>he g.1)]
theorem checkP_long {sw:Int} {l:List Nd} (h:¬24<l.length) (he:(chk sw l.length l).2=0) (hn:¬(chk sw l.length l).1=[]):checkP sw l=4:=by rw [checkP,if_neg h,if_pos ⟨he,hn⟩]
theorem checkP_ok {sw:Int} {l:List Nd} (h:¬24<l.length) (he:(chk sw l.length l).2=0) (hn:(chk sw l.length l).1=[]):checkP sw l=0:=by rw [checkP,if_neg h,if_neg (fun g=>g.2 hn),he]
def treR (f:Nat) (args:List V) (sw:Int) (l:List Nd):Prop :=
 (checkP sw l=0∧∃p,okP sw p∧l=flat p∧l.length≤24∧PC Tryz.prog f args (.tup [encX p,.int .i64 0])) ∨
 (checkP sw l≠0∧PC Tryz.prog f args (.tup [.nili,.int .i64 (checkP sw l)]))
attribute [local push_cast] fmN fm0 take_N toN1 slN_nil encN slN cfg0 gfp_lenN gfd_lenN lfl_lenN encX st_errX os_errX
theorem tree26 (sw:Int) (l:List Nd) (hl:l.length≤4000000):treR 92 [slN l,.int .i64 sw] sw l:=by
 by_cases h:24<l.length
 ·refine .inr ⟨by rw [checkP_big h];decide,?_⟩
  rw [checkP_big h]
  refine PC.walk tok mixed cfg0 Tryz.func92 rfl Tryz.call92 (by simp [bel_clX,bel_errX]) (by first | rfl | simp [bel_clX,bel_errX]) ?_;refine vms1 Tryz.ntmps92 ?_
  refine endK.ret ?_ (by first | rfl | simp [bel_clX,bel_errX]);simp [evRes,getT,retV,Tryz.f92]
 have hb:=pc143 sw l.length l (Nat.le_refl _) hl
 rw [bldR] at hb
 by_cases he:(chk sw l.length l).2=0
 ·rw [if_pos he] at hb
  obtain ⟨p,hp,hf,hpc⟩:=hb
  by_cases hn:(chk sw l.length l).1=[]
  ·refine .inl ⟨checkP_ok h he hn,p,hp,by rw [hn,List.append_nil] at hf;exact hf,by omega,?_⟩
   rw [hn] at hpc
   refine PC.walk tok mixed cfg0 Tryz.func92 rfl Tryz.call92 (by simp [bel_clX,bel_errX]) (by first | rfl | simp [bel_clX,bel_errX]) ?_;refine vms1 Tryz.ntmps92 ?_
   refine callO.pc hpc ?_
   refine vms0 ?_
   refine endK.ret ?_ (by first | rfl | simp [bel_clX,bel_errX]);simp [evRes,getT,retV,Tryz.f92,encX]
  ·have hp0:0<(chk sw l.length l).1.length:=List.length_pos_iff.2 hn
   have hle:=chk_len sw l.length l
   refine .inr ⟨by rw [checkP_long h he hn];decide,?_⟩
   rw [checkP_long h he hn]
   refine PC.walk tok mixed cfg0 Tryz.func92 rfl Tryz.call92 (by simp [bel_clX,bel_errX]) (by first | rfl | simp [bel_clX,bel_errX]) ?_;refine vms1 Tryz.ntmps92 ?_
   refine callO.pc hpc ?_
   refine vms1 hp0 ?_
   refine endK.ret ?_ (by first | rfl | simp [bel_clX,bel_errX]);simp [evRes,getT,retV,Tryz.f92]
 ·rw [if_neg he] at hb
  obtain ⟨m,hpc⟩:=hb
  refine .inr ⟨by rw [checkP_err h he];exact he,?_⟩
  rw [checkP_err h he]
  refine PC.walk tok mixed cfg0 Tryz.func92 rfl Tryz.call92 (by simp [bel_clX,bel_errX]) (by first | rfl | simp [bel_clX,bel_errX]) ?_;refine vms1 Tryz.ntmps92 ?_
  refine callO.pc hpc ?_
  refine vms1 he ?_
  refine endK.ret ?_ (by first | rfl | simp [bel_clX,bel_errX]);simp [evRes,getT,retV,Tryz.f92]
theorem pc56 (sw:Int) (l:List Nd) (hl:l.length≤4000000):PC Tryz.prog 56 [slN l,.int .i64 sw] (.int .i64 (checkP sw l)):=by
 rcases tree26 sw l hl with ⟨hc,p,hp,hf,h24,hpc⟩ | ⟨hc,hpc⟩
 ·rw [hc]
  refine PC.walk tok mixed cfg0 Tryz.func56 rfl Tryz.call56 (by simp [bel_clX,bel_errX]) (by first | rfl | simp [bel_clX,bel_errX]) ?_;refine vms1 Tryz.ntmps56 ?_
  refine callO.pc hpc ?_
  refine vms0 ?_
  refine endK.ret ?_ (by first | rfl | simp [bel_clX,bel_errX]);simp [evRes,getT,retV,Tryz.f56]
 ·refine PC.walk tok mixed cfg0 Tryz.func56 rfl Tryz.call56 (by simp [bel_clX,bel_errX]) (by first | rfl | simp [bel_clX,bel_errX]) ?_;refine vms1 Tryz.ntmps56 ?_
  refine callO.pc hpc ?_
  refine vms0 ?_
  refine endK.ret ?_ (by first | rfl | simp [bel_clX,bel_errX]);simp [evRes,getT,retV,Tryz.f56]
end
section
attribute [local push_cast] fmN fm0 take_N toN1 slN_nil encN slN cfg0 gfp_lenN gfd_lenN lfl_lenN
theorem pc144 (o:Int):PC Tryz.prog 144 [.int .i64 o] (.int .i64 (arity o)):=by
 refine PC.walk tok mixed cfg0 Tryz.func144 rfl Tryz.call144 (by simp) (by first | rfl | simp) ?_;refine vms1 Tryz.ntmps144 ?_
 refine ⟨fun h=>?_,fun h1=>⟨fun h=>?_,fun h2=>⟨fun h=>?_,fun h3=>⟨fun h=>?_,fun h4=>⟨fun h=>?_,fun h5=>⟨fun h=>?_,fun h6=>?_⟩⟩⟩⟩⟩⟩
 ·refine endK.retA ?_;simp [evRes,getT,retV,Tryz.f144]
  rfl
 ·refine endK.retA ?_;simp [evRes,getT,retV,Tryz.f144]
  rfl
 ·refine endK.retA ?_;simp [evRes,getT,retV,Tryz.f144]
  rfl
 ·refine endK.retA ?_;simp [evRes,getT,retV,Tryz.f144]
  rfl
 ·refine endK.retA ?_;simp [evRes,getT,retV,Tryz.f144]
  rfl
 ·refine endK.retA ?_;simp [evRes,getT,retV,Tryz.f144]
  rfl
 ·refine endK.retA ?_;simp [evRes,getT,retV,Tryz.f144,arity,h1,h2,h3,h4,h5,h6,or_self,if_false]
def repS (f:Nat→Nat × Int):Nat→Nat→Nat × Int
 | 0,a=>(a,0)
 | n+1,a=>if (f a).2≠0 then f a else repS f n (f a).1
def scan (sw:Int):Nat→List Nd→Nat→Nat × Int
 | 0,_,a=>(a,3)
 | k+1,l,a=>match l[a]? with
  | none=>(a,3)
  | some x=>if chk1 sw x≠0 then (a,chk1 sw x) else repS (scan sw k l) (arity x.op).toNat (a+1)
theorem repS_le {f:Nat→Nat × Int} {m:Nat} (h:∀a,a≤m→(f a).1≤m):∀n a,a≤m→(repS f n a).1≤m
 | 0,a,ha=>ha
 | n+1,a,ha=>by
  rw [repS]
  split
  ·exact h a ha
  ·exact repS_le h n _ (h a ha)
theorem scan_le (sw:Int):∀k l a,a≤l.length→(scan sw k l a).1≤l.length
 | 0,l,a,h=>h
 | k+1,l,a,h=>by
  rw [scan]
  split
  ·exact h
  ·rename_i x hx
   split
   ·exact h
   ·exact repS_le (scan_le sw k l) _ _ (List.getElem?_eq_some_iff.1 hx).1
theorem repS_ge {f:Nat→Nat × Int} (h:∀a,a≤(f a).1):∀n a,a≤(repS f n a).1
 | 0,a=>Nat.le_refl _
 | n+1,a=>by
  rw [repS]
  split
  ·exact h a
  ·exact Nat.le_trans (h a) (repS_ge h n _)
theorem scan_ge (sw:Int):∀k l a,a≤(scan sw k l a).1
 | 0,l,a=>Nat.le_refl _
 | k+1,l,a=>by
  rw [scan]
  split
  ·exact Nat.le_refl _
  ·split
   ·exact Nat.le_refl _
   ·exact Nat.le_trans (Nat.le_succ _) (repS_ge (scan_ge sw k l) _ _)
theorem repS_rep {l:List Nd} {f:Nat→Nat × Int} {g:List Nd→List Nd × Int} (h:∀a,a≤l.length→(f a).1≤l.length∧(f a).2=(g (l.drop a)).2∧((f a).2=0→l.drop (f a).1=(g (l.drop a)).1)) :
  ∀n a,a≤l.length→(repS f n a).2=(rep g n (l.drop a)).2∧((repS f n a).2=0→l.drop (repS f n a).1=(rep g n (l.drop a)).1)
 | 0,a,ha=>⟨rfl,fun _=>rfl⟩
 | n+1,a,ha=>by
  obtain ⟨h1,h2,h3⟩:=h a ha
  rw [repS,rep,←h2]
  by_cases he:(f a).2=0
  ·rw [if_neg (fun h=>h he),if_neg (fun h=>h he),←h3 he]
   exact repS_rep h n _ h1
  ·rw [if_pos he,if_pos he]
   exact ⟨rfl,fun h=>absurd h he⟩
theorem scan_chk (sw:Int):∀k l a,a≤l.length→(scan sw k l a).2=(chk sw k (l.drop a)).2∧((scan sw k l a).2=0→l.drop (scan sw k l a).1=(chk sw k (l.drop a)).1)
 | 0,l,a,ha=>by
  have:(chk sw 0 (l.drop a)).2=3:=by cases l.drop a<;>rfl
  rw [this]
  exact ⟨rfl,fun h=>by simp [scan] at h⟩
 | k+1,l,a,ha=>by
  by_cases h:a<l.length
  ·rw [List.drop_eq_getElem_cons h,scan,List.getElem?_eq_getElem h,chk]
   simp only
   by_cases hc:chk1 sw l[a]=0
   ·rw [if_neg (fun h=>h hc),if_neg (fun h=>h hc)]
    exact repS_rep (fun b hb=>⟨scan_le sw k l b hb,scan_chk sw k l b hb⟩) _ _ h
   ·rw [if_pos hc,if_pos hc]
    exact ⟨rfl,fun h=>absurd h hc⟩
  ·rw [List.drop_of_length_le (by omega),scan,List.getElem?_eq_none (by omega)]
   exact ⟨rfl,fun h=>by simp at h⟩
def encIE (r:Nat × Int):V:=.tup [.int .i64 r.1,.int .i64 r.2]
theorem encIE_d (r:Nat × Int):encIE r=.tup [.int .i64 r.1,.int .i64 r.2]:=rfl
theorem encIE_ok {r:Nat × Int} (h:r.2=0):encIE r=.tup [.int .i64 r.1,.int .i64 0]:=by
 rw [encIE,h]
theorem arity_le (o:Int):arity o≤2:=by
 unfold arity
 split
 ·decide
 split
 ·decide
 split<;>decide
theorem pc96 (sw:Int):∀(k:Nat) (l:List Nd) (a:Nat),a≤l.length→l.length-a≤k→l.length≤4000000→PC Tryz.prog 96 [slN l,.int .i64 a,.int .i64 sw] (encIE (scan sw k l a)):=by
 intro k
 induction k with
 | zero =>
  intro l a ha hl _
  have hla:(l.length:Int)≤a:=by omega
  refine PC.walk tok mixed cfg0 Tryz.func96 rfl Tryz.call96 (by simp) (by first | rfl | simp) ?_;refine vms1 Tryz.ntmps96 ?_
  refine endK.retA ?_;simp [evRes,getT,retV,Tryz.f96,scan,encIE]
 | succ k ih =>
  intro l a ha hl hm
  by_cases hlt:a<l.length
  case neg =>
   have hla:(l.length:Int)≤a:=by omega
   have hn:l[a]? = none:=List.getElem?_eq_none (by omega)
   refine PC.walk tok mixed cfg0 Tryz.func96 rfl Tryz.call96 (by simp) (by first | rfl | simp) ?_;refine vms1 Tryz.ntmps96 ?_
   refine endK.retA ?_;simp [evRes,getT,retV,Tryz.f96,scan,encIE,hn]
  have hx:l[a]? = some l[a]:=List.getElem?_eq_getElem hlt
  have hs:scan sw (k+1) l a=if chk1 sw l[a]≠0 then (a,chk1 sw l[a]) else repS (scan sw k l) (arity l[a].op).toNat (a+1):=by
   rw [scan,hx]
  rw [hs]
  generalize hX:l[a]=x at hs hx ⊢
  obtain ⟨op,n⟩:=x
  simp only at hs hx
  have h39:=pc144 op
  by_cases ha1:arity op<0
  ·have hc:chk1 sw ⟨op,n⟩=11:=by rw [chk1,if_pos ha1]
   rw [hc,if_pos (by decide)]
   refine PC.walk tok mixed cfg0 Tryz.func96 rfl Tryz.call96 (by simp) (by first | rfl | simp) ?_;refine vms1 Tryz.ntmps96 ?_
   refine vms1 hX ?_
   refine callO.pc h39 ?_
   refine vms1 ha1 ?_
   refine endK.retA ?_;simp [evRes,getT,retV,Tryz.f96,encIE]
  obtain ⟨m,hA⟩:∃m:Nat,arity op=(m:Int):=⟨(arity op).toNat,by omega⟩
  by_cases hb:op=3∧badN sw ⟨op,n⟩
  ·have hc:chk1 sw ⟨op,n⟩=9:=by rw [chk1,if_neg ha1,if_pos hb]
   rw [hc,if_pos (by decide)]
   obtain ⟨h3,hb⟩:=hb
   by_cases b1:n<0
   ·refine PC.walk tok mixed cfg0 Tryz.func96 rfl Tryz.call96 (by simp) (by first | rfl | simp) ?_;refine vms1 Tryz.ntmps96 ?_
    refine vms1 hX ?_
    refine callO.pc h39 ?_
    simp (maxSteps:=2000000) -implicitDefEqProofs +contextual (disch:=first | assumption | omega | decide +kernel) only [push_cast,↓capI,seval,Nat.reduceLeDiff,Nat.reduceEqDiff,reduceCtorEq,↓reduceIte,ha1,hX,h3,b1]
    refine endK.retA ?_;simp [evRes,getT,retV,Tryz.f96,encIE]
   by_cases b2:sw≤n
   ·refine PC.walk tok mixed cfg0 Tryz.func96 rfl Tryz.call96 (by simp) (by first | rfl | simp) ?_;refine vms1 Tryz.ntmps96 ?_
    refine vms1 hX ?_
    refine callO.pc h39 ?_
    simp (maxSteps:=2000000) -implicitDefEqProofs +contextual (disch:=first | assumption | omega | decide +kernel) only [push_cast,↓capI,seval,Nat.reduceLeDiff,Nat.reduceEqDiff,reduceCtorEq,↓reduceIte,ha1,hX,h3,b1,b2]
    refine endK.retA ?_;simp [evRes,getT,retV,Tryz.f96,encIE]
   have b3:999999999<n:=by rcases hb with h | h | h<;>simp only at h<;>omega
   refine PC.walk tok mixed cfg0 Tryz.func96 rfl Tryz.call96 (by simp) (by first | rfl | simp) ?_;refine vms1 Tryz.ntmps96 ?_
   refine vms1 hX ?_
   refine callO.pc h39 ?_
   simp (maxSteps:=2000000) -implicitDefEqProofs +contextual (disch:=first | assumption | omega | decide +kernel) only [push_cast,↓capI,seval,Nat.reduceLeDiff,Nat.reduceEqDiff,reduceCtorEq,↓reduceIte,ha1,hX,h3,b1,b2,b3]
   refine endK.retA ?_;simp [evRes,getT,retV,Tryz.f96,encIE]
  have hc:chk1 sw ⟨op,n⟩=0:=by rw [chk1,if_neg ha1,if_neg hb]
  rw [hc,if_neg (fun h=>h rfl),hA,Int.toNat_natCast]
  have hle:=arity_le op
  rw [hA] at h39
  have ha2:¬(m:Int)<0:=by omega
  by_cases h3:op=3
  ·subst h3
   have b0:¬badN sw ⟨3,n⟩:=fun h=>hb ⟨rfl,h⟩
   have b1:¬n<0:=fun h=>b0 (.inl h)
   have b2:¬sw≤n:=fun h=>b0 (.inr (.inl h))
   have b3:¬999999999<n:=fun h=>b0 (.inr (.inr h))
   refine PC.walk tok mixed cfg0 Tryz.func96 rfl Tryz.call96 (by simp) (by first | rfl | simp) ?_;refine vms1 Tryz.ntmps96 ?_
   refine vms1 hX ?_
   refine callO.pc h39 ?_
   simp (maxSteps:=2000000) -implicitDefEqProofs +contextual (disch:=first | assumption | omega | decide +kernel) only [push_cast,↓capI,seval,Nat.reduceLeDiff,Nat.reduceEqDiff,reduceCtorEq,↓reduceIte,ha2,hX,b1,b2,b3]
   refine T.lp tok mixed cfg0 (fun ((i,b):Nat × Nat)=>kp 1 (dd 1 (kp 1 (dd 5 (kp 1 (sv (.int .i64 b) (sv (.int .i64 i) (dd 68 (nl))))))))) (fun H0 ((i,b):Nat × Nat)=>[]) (fun ((i,b):Nat × Nat)=>i≤m∧b≤l.length∧a<b∧repS (scan sw k l) (m-i) b=repS (scan sw k l) m (a+1)) (fun ((i,b):Nat × Nat)=>m-i) ((0,a+1)) ?_ ?_ ?_
   ·exact ⟨Nat.zero_le _,hlt,Nat.lt_succ_self _,rfl⟩
   ·exact Gn.canon (J:=[]) (by first | rfl | (simp [List.append_nil];done) | (simp [List.append_nil];rfl)) (by simp [wk,slN,putT,kp,dd,sv,nl]) (by simp [List.length_append]) (by simp [kp,dd,sv,nl]) (by simp)
   rintro ⟨i,b⟩ ⟨hi,hb',hab,hr⟩
   by_cases hin:i<m
   ·rw [show m-i=(m-(i+1))+1 by omega,repS] at hr
    have hge:=scan_ge sw k l b
    have hle:=scan_le sw k l b hb'
    refine vms0 ?_
    refine callO.pc (ih l b hb' (by omega) hm) ?_
    by_cases he:(scan sw k l b).2=0
    ·rw [if_neg (fun h=>h he)] at hr
     rw [encIE_ok he]
     refine vms1 he ?_
     refine ⟨(i+1,(scan sw k l b).1),⟨by (try simp only);omega,by (try simp only);omega,by (try simp only);omega,hr⟩,by (try simp only);omega,?_⟩;exact Gn.canon (by first | rfl | (simp [List.append_nil];rfl)) (by simp [wk,slN]) (by simp [List.length_append]) (by simp) (by simp)
    ·rw [if_pos he] at hr
     rw [encIE_d (scan sw k l b)]
     refine vms1 he ?_
     rw [←hr,encIE]
     refine endK.retA ?_;simp [evRes,getT,retV,Tryz.f96]
   ·rw [show m-i=0 by omega,repS] at hr
    refine vms0 ?_
    rw [←hr,encIE]
    refine endK.retA ?_;simp [evRes,getT,retV,Tryz.f96]
  ·refine PC.walk tok mixed cfg0 Tryz.func96 rfl Tryz.call96 (by simp) (by first | rfl | simp) ?_;refine vms1 Tryz.ntmps96 ?_
   refine vms1 hX ?_
   refine callO.pc h39 ?_
   refine vms3 ha2 hX h3 ?_
   refine T.lp tok mixed cfg0 (fun ((i,b):Nat × Nat)=>kp 1 (dd 1 (kp 1 (dd 5 (kp 1 (sv (.int .i64 b) (sv (.int .i64 i) (dd 68 (nl))))))))) (fun H0 ((i,b):Nat × Nat)=>[]) (fun ((i,b):Nat × Nat)=>i≤m∧b≤l.length∧a<b∧repS (scan sw k l) (m-i) b=repS (scan sw k l) m (a+1)) (fun ((i,b):Nat × Nat)=>m-i) ((0,a+1)) ?_ ?_ ?_
   ·exact ⟨Nat.zero_le _,hlt,Nat.lt_succ_self _,rfl⟩
   ·exact Gn.canon (J:=[]) (by first | rfl | (simp [List.append_nil];done) | (simp [List.append_nil];rfl)) (by simp [wk,slN,putT,kp,dd,sv,nl]) (by simp [List.length_append]) (by simp [kp,dd,sv,nl]) (by simp)
   rintro ⟨i,b⟩ ⟨hi,hb',hab,hr⟩
   by_cases hin:i<m
   ·rw [show m-i=(m-(i+1))+1 by omega,repS] at hr
    have hge:=scan_ge sw k l b
    have hle:=scan_le sw k l b hb'
    refine vms0 ?_
    refine callO.pc (ih l b hb' (by omega) hm) ?_
    by_cases he:(scan sw k l b).2=0
    ·rw [if_neg (fun h=>h he)] at hr
     rw [encIE_ok he]
     refine vms1 he ?_
     refine ⟨(i+1,(scan sw k l b).1),⟨by (try simp only);omega,by (try simp only);omega,by (try simp only);omega,hr⟩,by (try simp only);omega,?_⟩;exact Gn.canon (by first | rfl | (simp [List.append_nil];rfl)) (by simp [wk,slN]) (by simp [List.length_append]) (by simp) (by simp)
    ·rw [if_pos he] at hr
     rw [encIE_d (scan sw k l b)]
     refine vms1 he ?_
     rw [←hr,encIE]
     refine endK.retA ?_;simp [evRes,getT,retV,Tryz.f96]
   ·rw [show m-i=0 by omega,repS] at hr
    refine vms0 ?_
    rw [←hr,encIE]
    refine endK.retA ?_;simp [evRes,getT,retV,Tryz.f96]
theorem pc59 (sw:Int) (l:List Nd) (hl:l.length≤4000000):PC Tryz.prog 59 [slN l,.int .i64 sw] (.int .i64 (checkP sw l)):=by
 by_cases h:24<l.length
 ·refine PC.walk tok mixed cfg0 Tryz.func59 rfl Tryz.call59 (by simp) (by first | rfl | simp) ?_;refine vms1 Tryz.ntmps59 ?_
  refine endK.retA ?_;simp [evRes,getT,retV,Tryz.f59,checkP,h]
 refine PC.walk tok mixed cfg0 Tryz.func59 rfl Tryz.call59 (by simp) (by first | rfl | simp) ?_;refine vms1 Tryz.ntmps59 ?_
 have hs:=scan_chk sw l.length l 0 (Nat.zero_le _)
 rw [List.drop_zero] at hs
 refine callO.pc (pc96 sw l.length l 0 (Nat.zero_le _) (Nat.sub_le _ _) hl) ?_
 have hle:=scan_le sw l.length l 0 (Nat.zero_le _)
 rw [checkP,if_neg h,←hs.1]
 by_cases he:(scan sw l.length l 0).2=0
 ·rw [encIE_ok he]
  have h2:=hs.2 he
  by_cases hn:(scan sw l.length l 0).1<l.length
  ·rw [if_pos ⟨he,fun e=>by rw [e] at h2;have:=List.drop_eq_nil_iff.1 h2;omega⟩]
   refine vms1 hn ?_
   refine endK.retA ?_;simp [evRes,getT,retV,Tryz.f59]
  ·rw [if_neg (fun g=>g.2 (by rw [←h2];exact List.drop_eq_nil_iff.2 (by omega))),he]
   refine vms1 hn ?_
   refine endK.retA ?_;simp [evRes,getT,retV,Tryz.f59]
 ·rw [if_neg (fun g=>he g.1),encIE]
  refine vms1 he ?_
  refine endK.retA ?_;simp [evRes,getT,retV,Tryz.f59]
end
section
theorem drop_cons {α:Type} {l r:List α} {a:Nat} {x:α} (h:l.drop a=x::r):∃ha:a<l.length,l[a]=x∧l.drop (a+1)=r:=by
 have ha:a<l.length:=by
  have:=congrArg List.length h
  rw [List.length_drop,List.length_cons] at this
  omega
 rw [List.drop_eq_getElem_cons ha] at h
 injection h with h1 h2
 exact ⟨ha,h1,h2⟩
theorem drop_app {α:Type} {l p r:List α} {a:Nat} (h:l.drop a=p++r):l.drop (a+p.length)=r:=by
 rw [←List.drop_drop,h,List.drop_left]
theorem drop_len {α:Type} {l p r:List α} {a:Nat} (ha:a≤l.length) (h:l.drop a=p++r):a+p.length+r.length=l.length:=by
 have:=congrArg List.length h
 rw [List.length_drop,List.length_append] at this
 omega
theorem checkP_tree {sw:Int} {l:List Nd} (h:checkP sw l=0):l.length≤24∧∃p,okP sw p∧l=flat p:=by
 unfold checkP at h
 split at h
 ·omega
 split at h
 ·omega
 rename_i h1 h2
 refine ⟨by omega,?_⟩
 obtain ⟨p,hp,hl⟩:=chk_tree sw l.length l h
 refine ⟨p,hp,?_⟩
 have:(chk sw l.length l).1=[]:=Decidable.not_not.1 (fun g=>h2 ⟨h,g⟩)
 rw [this,List.append_nil] at hl
 exact hl
end
end Go.Proofs.YtlbmbbaefncleaaGreatDoor.Px

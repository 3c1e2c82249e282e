/-
  Joined by a program from the texts PxAut PxNum PxDrv PxClo PxDer PxStp PxAcc PxTab PxPla PxChq PxChr.
-/
import Derived.Test.YtlbmbbaefncleaaGreatDoorOd
import Derived.Test.YtlbmbbaefncleaaGreatDoorNk
set_option maxRecDepth 100000
set_option maxHeartbeats 4000000
set_option linter.all false
namespace Go.Proofs.YtlbmbbaefncleaaGreatDoor.Px
open Go.Vm
section
inductive Nx where
 | eps | any | one (n:Int) | star (a:Nx) | cat (a b:Nx) | alt (a b:Nx)
 deriving DecidableEq
def tgA:Nx→Nat
 | .eps=>262 | .any=>263 | .one _=>265 | .star _=>267 | .cat _ _=>269 | .alt _ _=>270
def clA:Nx→List V
 | .eps=>[]
 | .any=>[]
 | .one n=>[.int .i64 n]
 | .star a=>[.ifc (tgA a) (.agg (clA a))]
 | .cat a b=>[.ifc (tgA a) (.agg (clA a)),.ifc (tgA b) (.agg (clA b))]
 | .alt a b=>[.ifc (tgA a) (.agg (clA a)),.ifc (tgA b) (.agg (clA b))]
def encA (x:Nx):V:=.ifc (tgA x) (.agg (clA x))
theorem bel_clA {n:Nat}:∀x,belAll n (clA x)=true
 | .eps=>rfl
 | .any=>rfl
 | .one _=>rfl
 | .star a=>by rw [clA,belAll_cons,bel_ifc,bel_agg,bel_clA a];rfl
 | .cat a b=>by rw [clA,belAll_cons,belAll_cons,bel_ifc,bel_agg,bel_ifc,bel_agg,bel_clA a,bel_clA b];rfl
 | .alt a b=>by rw [clA,belAll_cons,belAll_cons,bel_ifc,bel_agg,bel_ifc,bel_agg,bel_clA a,bel_clA b];rfl
@[simp] theorem bel_encA {n:Nat} (x:Nx):(encA x).bel n=true:=by rw [encA,bel_ifc,bel_agg,bel_clA]
theorem st_encA (x:Nx):(encA x).st=encA x:=rfl
theorem os_encA {g:Bool} {xs:List V} {p:Prop} (x:Nx):optSide g (encA x::xs) p=optSide g xs p:=rfl
def nul:Nx→Bool
 | .eps=>true
 | .any=>false
 | .one _=>false
 | .star _=>true
 | .cat a b=>nul a&&nul b
 | .alt a b=>nul a||nul b
def nulF:Nx→Nat
 | .eps=>261 | .any=>262 | .one _=>263 | .star _=>264 | .cat _ _=>265 | .alt _ _=>266
theorem mt262:MethAt Tryz.prog 262 "patchbay/automaton.nullable" 261:=methAt (by kernel_rfl)
theorem mt263:MethAt Tryz.prog 263 "patchbay/automaton.nullable" 262:=methAt (by kernel_rfl)
theorem mt265:MethAt Tryz.prog 265 "patchbay/automaton.nullable" 263:=methAt (by kernel_rfl)
theorem mt267:MethAt Tryz.prog 267 "patchbay/automaton.nullable" 264:=methAt (by kernel_rfl)
theorem mt269:MethAt Tryz.prog 269 "patchbay/automaton.nullable" 265:=methAt (by kernel_rfl)
theorem mt270:MethAt Tryz.prog 270 "patchbay/automaton.nullable" 266:=methAt (by kernel_rfl)
theorem mtA (x:Nx):MethAt Tryz.prog (tgA x) "patchbay/automaton.nullable" (nulF x):=by
 cases x
 ·exact mt262
 ·exact mt263
 ·exact mt265
 ·exact mt267
 ·exact mt269
 ·exact mt270
def cfgN:Cfg:={ lv:=[],ef:=[9],ord:=[],em:=[] }
attribute [local push_cast] fmN fm0 take_N toN1 slN_nil encN slN cfg0 gfp_lenN gfd_lenN lfl_lenN encA st_encA os_encA
theorem pcNul:∀x:Nx,PC Tryz.prog (nulF x) [.agg (clA x)] (.bool (nul x)):=by
 intro x
 induction x with
 | eps =>
  show PC Tryz.prog 261 [.agg []] (.bool true)
  refine PC.walk tok mixed cfg0 Tryz.func261 rfl Tryz.call261 (by simp [bel_clA]) (by first | rfl | simp [bel_clA]) ?_;refine vms1 Tryz.ntmps261 ?_
  refine endK.ret ?_ (by first | rfl | simp [bel_clA]);simp [evRes,getT,retV,Tryz.f261]
 | any =>
  show PC Tryz.prog 262 [.agg []] (.bool false)
  refine PC.walk tok mixed cfg0 Tryz.func262 rfl Tryz.call262 (by simp [bel_clA]) (by first | rfl | simp [bel_clA]) ?_;refine vms1 Tryz.ntmps262 ?_
  refine endK.ret ?_ (by first | rfl | simp [bel_clA]);simp [evRes,getT,retV,Tryz.f262]
 | one n =>
  show PC Tryz.prog 263 [.agg [.int .i64 n]] (.bool false)
  refine PC.walk tok mixed cfg0 Tryz.func263 rfl Tryz.call263 (by simp [bel_clA]) (by first | rfl | simp [bel_clA]) ?_;refine vms1 Tryz.ntmps263 ?_
  refine endK.ret ?_ (by first | rfl | simp [bel_clA]);simp [evRes,getT,retV,Tryz.f263]
 | star a _ =>
  show PC Tryz.prog 264 [.agg [encA a]] (.bool true)
  refine PC.walk tok mixed cfg0 Tryz.func264 rfl Tryz.call264 (by simp [bel_clA]) (by first | rfl | simp [bel_clA]) ?_;refine vms1 Tryz.ntmps264 ?_
  refine endK.ret ?_ (by first | rfl | simp [bel_clA]);simp [evRes,getT,retV,Tryz.f264]
 | cat a b i1 i2 =>
  show PC Tryz.prog 265 [.agg [encA a,encA b]] (.bool (nul a&&nul b))
  cases ha:nul a
  ·rw [ha] at i1
   refine PC.walk tok mixed cfgN Tryz.func265 rfl Tryz.call265 (by simp [bel_clA]) (by first | rfl | simp [bel_clA]) ?_;simp (maxSteps:=2000000) -implicitDefEqProofs +contextual (disch:=first | assumption | omega | decide +kernel) only [push_cast,↓capI,seval,Nat.reduceLeDiff,Nat.reduceEqDiff,reduceCtorEq,↓reduceIte,Tryz.ntmps265,cfgN]
   refine callI.of (mtA a) (callO.pc i1 ?_)
   simp (maxSteps:=2000000) -implicitDefEqProofs +contextual (disch:=first | assumption | omega | decide +kernel) only [push_cast,↓capI,seval,Nat.reduceLeDiff,Nat.reduceEqDiff,reduceCtorEq,↓reduceIte,cfgN]
   refine endK.ret ?_ (by first | rfl | simp [bel_clA]);simp [evRes,getT,retV,Tryz.f265]
  ·rw [ha] at i1
   refine PC.walk tok mixed cfgN Tryz.func265 rfl Tryz.call265 (by simp [bel_clA]) (by first | rfl | simp [bel_clA]) ?_;simp (maxSteps:=2000000) -implicitDefEqProofs +contextual (disch:=first | assumption | omega | decide +kernel) only [push_cast,↓capI,seval,Nat.reduceLeDiff,Nat.reduceEqDiff,reduceCtorEq,↓reduceIte,Tryz.ntmps265,cfgN]
   refine callI.of (mtA a) (callO.pc i1 ?_)
   simp (maxSteps:=2000000) -implicitDefEqProofs +contextual (disch:=first | assumption | omega | decide +kernel) only [push_cast,↓capI,seval,Nat.reduceLeDiff,Nat.reduceEqDiff,reduceCtorEq,↓reduceIte,cfgN]
   refine callI.of (mtA b) (callO.pc i2 ?_)
   simp (maxSteps:=2000000) -implicitDefEqProofs +contextual (disch:=first | assumption | omega | decide +kernel) only [push_cast,↓capI,seval,Nat.reduceLeDiff,Nat.reduceEqDiff,reduceCtorEq,↓reduceIte,cfgN]
   refine endK.ret ?_ (by first | rfl | simp [bel_clA]);simp [evRes,getT,retV,Tryz.f265]
 | alt a b i1 i2 =>
  show PC Tryz.prog 266 [.agg [encA a,encA b]] (.bool (nul a||nul b))
  cases ha:nul a
  ·rw [ha] at i1
   refine PC.walk tok mixed cfgN Tryz.func266 rfl Tryz.call266 (by simp [bel_clA]) (by first | rfl | simp [bel_clA]) ?_;simp (maxSteps:=2000000) -implicitDefEqProofs +contextual (disch:=first | assumption | omega | decide +kernel) only [push_cast,↓capI,seval,Nat.reduceLeDiff,Nat.reduceEqDiff,reduceCtorEq,↓reduceIte,Tryz.ntmps266,cfgN]
   refine callI.of (mtA a) (callO.pc i1 ?_)
   simp (maxSteps:=2000000) -implicitDefEqProofs +contextual (disch:=first | assumption | omega | decide +kernel) only [push_cast,↓capI,seval,Nat.reduceLeDiff,Nat.reduceEqDiff,reduceCtorEq,↓reduceIte,cfgN]
   refine callI.of (mtA b) (callO.pc i2 ?_)
   simp (maxSteps:=2000000) -implicitDefEqProofs +contextual (disch:=first | assumption | omega | decide +kernel) only [push_cast,↓capI,seval,Nat.reduceLeDiff,Nat.reduceEqDiff,reduceCtorEq,↓reduceIte,cfgN]
   refine endK.ret ?_ (by first | rfl | simp [bel_clA]);simp [evRes,getT,retV,Tryz.f266]
  ·rw [ha] at i1
   refine PC.walk tok mixed cfgN Tryz.func266 rfl Tryz.call266 (by simp [bel_clA]) (by first | rfl | simp [bel_clA]) ?_;simp (maxSteps:=2000000) -implicitDefEqProofs +contextual (disch:=first | assumption | omega | decide +kernel) only [push_cast,↓capI,seval,Nat.reduceLeDiff,Nat.reduceEqDiff,reduceCtorEq,↓reduceIte,Tryz.ntmps266,cfgN]
   refine callI.of (mtA a) (callO.pc i1 ?_)
   simp (maxSteps:=2000000) -implicitDefEqProofs +contextual (disch:=first | assumption | omega | decide +kernel) only [push_cast,↓capI,seval,Nat.reduceLeDiff,Nat.reduceEqDiff,reduceCtorEq,↓reduceIte,cfgN]
   refine endK.ret ?_ (by first | rfl | simp [bel_clA]);simp [evRes,getT,retV,Tryz.f266]
def seqA (a b:Nx):Nx:=if a=.eps then b else .cat a b
theorem pc230 (a b:Nx):PC Tryz.prog 230 [encA a,encA b] (encA (seqA a b)):=by
 cases a with
 | eps =>
  rw [show seqA .eps b=b from rfl]
  refine PC.walk tok mixed cfg0 Tryz.func230 rfl Tryz.call230 (by simp [bel_clA]) (by first | rfl | simp [bel_clA]) ?_;refine vms1 Tryz.ntmps230 ?_
  (try simp (maxSteps:=2000000) -implicitDefEqProofs +contextual (disch:=first | assumption | omega | decide +kernel) only [push_cast,↓capI,seval,Nat.reduceLeDiff,Nat.reduceEqDiff,reduceCtorEq,↓reduceIte,tgA,clA])
  refine endK.ret ?_ (by first | rfl | simp [bel_clA]);simp [evRes,getT,retV,Tryz.f230]
 | any =>
  rw [show seqA .any b=.cat .any b from rfl]
  refine PC.walk tok mixed cfg0 Tryz.func230 rfl Tryz.call230 (by simp [bel_clA]) (by first | rfl | simp [bel_clA]) ?_;refine vms1 Tryz.ntmps230 ?_
  (try simp (maxSteps:=2000000) -implicitDefEqProofs +contextual (disch:=first | assumption | omega | decide +kernel) only [push_cast,↓capI,seval,Nat.reduceLeDiff,Nat.reduceEqDiff,reduceCtorEq,↓reduceIte,tgA,clA])
  refine endK.ret ?_ (by first | rfl | simp [bel_clA]);simp [evRes,getT,retV,Tryz.f230,encA,tgA,clA]
 | one n =>
  rw [show seqA (.one n) b=.cat (.one n) b from rfl]
  refine PC.walk tok mixed cfg0 Tryz.func230 rfl Tryz.call230 (by simp [bel_clA]) (by first | rfl | simp [bel_clA]) ?_;refine vms1 Tryz.ntmps230 ?_
  (try simp (maxSteps:=2000000) -implicitDefEqProofs +contextual (disch:=first | assumption | omega | decide +kernel) only [push_cast,↓capI,seval,Nat.reduceLeDiff,Nat.reduceEqDiff,reduceCtorEq,↓reduceIte,tgA,clA])
  refine endK.ret ?_ (by first | rfl | simp [bel_clA]);simp [evRes,getT,retV,Tryz.f230,encA,tgA,clA]
 | star a =>
  rw [show seqA (.star a) b=.cat (.star a) b from rfl]
  refine PC.walk tok mixed cfg0 Tryz.func230 rfl Tryz.call230 (by simp [bel_clA]) (by first | rfl | simp [bel_clA]) ?_;refine vms1 Tryz.ntmps230 ?_
  (try simp (maxSteps:=2000000) -implicitDefEqProofs +contextual (disch:=first | assumption | omega | decide +kernel) only [push_cast,↓capI,seval,Nat.reduceLeDiff,Nat.reduceEqDiff,reduceCtorEq,↓reduceIte,tgA,clA])
  refine endK.ret ?_ (by first | rfl | simp [bel_clA]);simp [evRes,getT,retV,Tryz.f230,encA,tgA,clA]
 | cat a c =>
  rw [show seqA (.cat a c) b=.cat (.cat a c) b from rfl]
  refine PC.walk tok mixed cfg0 Tryz.func230 rfl Tryz.call230 (by simp [bel_clA]) (by first | rfl | simp [bel_clA]) ?_;refine vms1 Tryz.ntmps230 ?_
  (try simp (maxSteps:=2000000) -implicitDefEqProofs +contextual (disch:=first | assumption | omega | decide +kernel) only [push_cast,↓capI,seval,Nat.reduceLeDiff,Nat.reduceEqDiff,reduceCtorEq,↓reduceIte,tgA,clA])
  refine endK.ret ?_ (by first | rfl | simp [bel_clA]);simp [evRes,getT,retV,Tryz.f230,encA,tgA,clA]
 | alt a c =>
  rw [show seqA (.alt a c) b=.cat (.alt a c) b from rfl]
  refine PC.walk tok mixed cfg0 Tryz.func230 rfl Tryz.call230 (by simp [bel_clA]) (by first | rfl | simp [bel_clA]) ?_;refine vms1 Tryz.ntmps230 ?_
  (try simp (maxSteps:=2000000) -implicitDefEqProofs +contextual (disch:=first | assumption | omega | decide +kernel) only [push_cast,↓capI,seval,Nat.reduceLeDiff,Nat.reduceEqDiff,reduceCtorEq,↓reduceIte,tgA,clA])
  refine endK.ret ?_ (by first | rfl | simp [bel_clA]);simp [evRes,getT,retV,Tryz.f230,encA,tgA,clA]
end
section
def hgt:Nx→Nat
 | .eps=>0
 | .any=>0
 | .one _=>0
 | .star a=>hgt a+1
 | .cat a b=>max (hgt a) (hgt b)+1
 | .alt a b=>max (hgt a) (hgt b)+1
theorem encA_inj:∀ {x y:Nx},encA x=encA y→x=y
 | .eps,y,h=>by cases y<;>simp [encA,tgA] at h;rfl
 | .any,y,h=>by cases y<;>simp [encA,tgA] at h;rfl
 | .one n,y,h=>by cases y<;>simp [encA,tgA,clA] at h;rw [h]
 | .star a,y,h=>by
  cases y<;>simp only [encA,tgA,clA,V.ifc.injEq,V.agg.injEq,List.cons.injEq,and_true] at h<;>(try (exact absurd h.1 (by decide)))
  rename_i b
  rw [encA_inj (x:=a) (y:=b) (by simp only [encA,V.ifc.injEq,V.agg.injEq];exact h.2)]
 | .cat a c,y,h=>by
  cases y<;>simp only [encA,tgA,clA,V.ifc.injEq,V.agg.injEq,List.cons.injEq,and_true] at h<;>(try (exact absurd h.1 (by decide)))
  rename_i b d
  rw [encA_inj (x:=a) (y:=b) (by simp only [encA,V.ifc.injEq,V.agg.injEq];exact h.2.1),encA_inj (x:=c) (y:=d) (by simp only [encA,V.ifc.injEq,V.agg.injEq];exact h.2.2)]
 | .alt a c,y,h=>by
  cases y<;>simp only [encA,tgA,clA,V.ifc.injEq,V.agg.injEq,List.cons.injEq,and_true] at h<;>(try (exact absurd h.1 (by decide)))
  rename_i b d
  rw [encA_inj (x:=a) (y:=b) (by simp only [encA,V.ifc.injEq,V.agg.injEq];exact h.2.1),encA_inj (x:=c) (y:=d) (by simp only [encA,V.ifc.injEq,V.agg.injEq];exact h.2.2)]
theorem pl_encA:∀(x:Nx) (n:Nat),2*hgt x+2≤n→pl (encA x) n=true
 | .eps,n+2,_=>rfl
 | .any,n+2,_=>rfl
 | .one _,n+2,_=>rfl
 | .star a,n+2,h=>by
  have:=pl_encA a n (by simp only [hgt] at h;omega)
  simp only [encA] at this
  simp only [encA,clA,pl,pls,Bool.and_true,this]
 | .cat a b,n+2,h=>by
  have h1:=pl_encA a n (by simp only [hgt] at h;omega)
  have h2:=pl_encA b n (by simp only [hgt] at h;omega)
  simp only [encA] at h1 h2
  simp only [encA,clA,pl,pls,Bool.and_true,h1,h2]
 | .alt a b,n+2,h=>by
  have h1:=pl_encA a n (by simp only [hgt] at h;omega)
  have h2:=pl_encA b n (by simp only [hgt] at h;omega)
  simp only [encA] at h1 h2
  simp only [encA,clA,pl,pls,Bool.and_true,h1,h2]
theorem kok_encA:∀(x:Nx) (n:Nat),2*hgt x+3≤n→kok tt n 234 (encA x)=true
 | .eps,n+3,_=>rfl
 | .any,n+3,_=>rfl
 | .one _,n+3,_=>rfl
 | .star a,n+2,h=>by
  have h1:=kok_encA a n (by simp only [hgt] at h;omega)
  show kok tt (n+2) 234 (.ifc 267 (.agg [encA a]))=true
  generalize encA a=e at h1 ⊢
  simp only [kok,tt_234,tt_267,tile,allF,ldT,mkV,getV,List.drop_zero,List.take_succ_cons,List.take_zero,h1]
  rfl
 | .cat a b,n+2,h=>by
  have h1:=kok_encA a n (by simp only [hgt] at h;omega)
  have h2:=kok_encA b n (by simp only [hgt] at h;omega)
  show kok tt (n+2) 234 (.ifc 269 (.agg [encA a,encA b]))=true
  generalize encA a=e at h1 ⊢
  generalize encA b=f at h2 ⊢
  simp only [kok,tt_234,tt_269,tile,allF,ldT,mkV,getV,List.drop_zero,List.drop_succ_cons,List.take_succ_cons,List.take_zero,h1,h2]
  rfl
 | .alt a b,n+2,h=>by
  have h1:=kok_encA a n (by simp only [hgt] at h;omega)
  have h2:=kok_encA b n (by simp only [hgt] at h;omega)
  show kok tt (n+2) 234 (.ifc 270 (.agg [encA a,encA b]))=true
  generalize encA a=e at h1 ⊢
  generalize encA b=f at h2 ⊢
  simp only [kok,tt_234,tt_270,tile,allF,ldT,mkV,getV,List.drop_zero,List.drop_succ_cons,List.take_succ_cons,List.take_zero,h1,h2]
  rfl
theorem keyA {x:Nx} (h:hgt x≤4000):keyOK tt 234 (encA x):=⟨kok_encA x 9999 (by omega),pl_encA x 9999 (by omega)⟩
theorem veqA {x y:Nx} (h:hgt x≤4000):veq (encA x) (encA y)=decide (x=y):=by
 by_cases e:x=y
 ·subst e
  rw [(veq_iff _ _ _ (keyA h).2).2 rfl,decide_eq_true rfl]
 ·rw [decide_eq_false e]
  cases hb:veq (encA x) (encA y)
  ·rfl
  ·exact absurd (encA_inj ((veq_iff _ _ _ (keyA h).2).1 hb)) e
def idx (x:Nx):List Nx→Option Nat
 | []=>none
 | y::r=>if x=y then some 0 else (idx x r).map (· + 1)
def num (L:List Nx) (x:Nx):List Nx × Nat:=match idx x L with | some k=>(L,k) | none=>(L++[x],L.length)
def enm:Nat→List Nx→List (V × V)
 | _,[]=>[]
 | i,x::r=>(encA x,.int .i64 i)::enm (i+1) r
def numV (i:Nat) (z:V):Option Nat→V
 | some k=>.int .i64 ((i+k:Nat):Int)
 | none=>z
theorem mHas_enm' {x:Nx} (h:hgt x≤4000):∀(L:List Nx) (i:Nat),mHas (encA x) (enm i L)=(idx x L).isSome
 | [],_=>rfl
 | y::r,i=>by
  simp only [enm,mHas,veqA h,idx]
  by_cases e:x=y
  ·simp [e]
  ·simp [e,mHas_enm' h r (i+1)]
theorem mGet_enm' {x:Nx} (h:hgt x≤4000) (z:V):∀(L:List Nx) (i:Nat),mGet z (encA x) (enm i L)=numV i z (idx x L)
 | [],_=>rfl
 | y::r,i=>by
  simp only [enm,mGet,veqA h,idx]
  by_cases e:x=y
  ·simp [e,numV]
  ·simp only [e,decide_false,mGet_enm' h z r (i+1),if_false]
   cases idx x r<;>simp [numV]
   omega
theorem mPut_enm' {x:Nx} (h:hgt x≤4000):∀(L:List Nx) (i:Nat),idx x L=none→mPut (encA x) (.int .i64 ((i+L.length:Nat):Int)) (enm i L)=enm i (L++[x])
 | [],_,_=>rfl
 | y::r,i,hi=>by
  simp only [idx] at hi
  by_cases e:x=y
  ·simp [e] at hi
  ·simp only [e,if_false,Option.map_eq_none_iff] at hi
   have:=mPut_enm' h r (i+1) hi
   simp only [enm,mPut,veqA h,e,decide_false,List.cons_append,List.length_cons]
   rw [←this,show i+(r.length+1)=i+1+r.length from by omega]
theorem mHas_enm {x:Nx} (h:hgt x≤4000) {L:List Nx}:mHas (.ifc (tgA x) (.agg (clA x))) (enm 0 L)=(idx x L).isSome:=mHas_enm' h L 0
theorem mGet_enm {x:Nx} (h:hgt x≤4000) {L:List Nx} {z:V}:mGet z (.ifc (tgA x) (.agg (clA x))) (enm 0 L)=numV 0 z (idx x L):=mGet_enm' h z L 0
theorem keysE {L:List Nx} (h:∀y ∈ L,hgt y≤4000):∀i,keysOK tt 234 (enm i L):=by
 induction L with
 | nil=>intro i e he;simp [enm] at he
 | cons x r ih =>
  intro i e he
  simp only [enm,List.mem_cons] at he
  rcases he with rfl | he
  ·exact keyA (h x (by simp))
  ·exact ih (fun y hy=>h y (by simp [hy])) (i+1) e he
theorem bel_As {n:Nat}:∀(L:List Nx),belAll n (L.map encA)=true
 | []=>rfl
 | x::r=>by rw [List.map_cons,belAll_cons,bel_encA,bel_As r];rfl
theorem bel_enm1 {n:Nat}:∀(L:List Nx) (i:Nat),belAll n ((enm i L).map (·.1))=true
 | [],_=>rfl
 | x::r,i=>by rw [enm,List.map_cons,belAll_cons,bel_encA,bel_enm1 r];rfl
theorem bel_enm2 {n:Nat}:∀(L:List Nx) (i:Nat),belAll n ((enm i L).map (·.2))=true
 | [],_=>rfl
 | x::r,i=>by rw [enm,List.map_cons,belAll_cons,bel_enm2 r];rfl
@[simp] theorem bel_mapE {n i:Nat} {L:List Nx}:(Ob.map (enm i L)).bel n=true:=by simp only [Ob.bel,bel_enm1,bel_enm2];rfl
theorem ones_A {g:Bool} {p:Prop}:∀ {xs:List Nx},ones g (xs.map encA) p=p
 | []=>rfl
 | x::xs=>by simp only [List.map_cons,encA,ones,V.one];exact ones_A
theorem lenE (L:List Nx):(L.map encA).length=L.length:=List.length_map _
def objP (L:List Nx):List Ob:=[.cells 0 [.mp 2,.buf 1 L.length 0 L.length 1],.cells L.length (L.map encA),.map (enm 0 L)]
attribute [local push_cast] cfg0 encA mHas_enm mGet_enm lenE ones_A objP numV Option.isSome_some Option.isSome_none
theorem pc197 {L:List Nx} {x:Nx} (hL:∀y ∈ L,hgt y≤4000) (hx:hgt x≤4000) (hl:L.length≤4000000):GCall Tryz.prog 197 [.ptr 0 0 0,encA x] (objP L) (.int .i64 ((num L x).2:Int)) (objP (num L x).1):=by
 have hk:keyOK tt 234 (.ifc (tgA x) (.agg (clA x))):=keyA hx
 have hks:=keysE hL 0
 cases hi:idx x L with
 | some k =>
  rw [num,hi]
  have hp:True:=trivial
  refine GC.walk tok mixed cfg0 Tryz.func197 rfl Tryz.call197 ?_;refine vms6 hk hks hi hx hp Tryz.ntmps197 ?_
  refine endG.ret ([]) (by first | rfl | simp [bel_clA,bel_As,fzs_ok,getO,setO,fzs,fz,fzH,Nat.beq,cfg0,encA,mHas_enm,mGet_enm,lenE,ones_A,objP,hk,hks,hi,hx,numV,Option.isSome_some,Option.isSome_none,hp,objP,List.map_append,belAll_append]) (by simp) (by simp [bel_clA,bel_As,fzs_ok,imp,lenOK_iff,List.take_of_length_le,evRes,getT,getO,setO,fzs,fz,fzH,Nat.beq,retV,Res.then,ldT,ldR,mkV,getV,cfg0,encA,mHas_enm,mGet_enm,lenE,ones_A,objP,hk,hks,hi,hx,numV,Option.isSome_some,Option.isSome_none,hp,Tryz.f197,objP,List.map_append,belAll_append]) (by first | rfl | simp [bel_clA,bel_As,objP,List.map_append,belAll_append]) (by first | rfl | simp [bel_clA,bel_As,objP,List.map_append,belAll_append])
 | none =>
  rw [num,hi]
  have hp:mPut (.ifc (tgA x) (.agg (clA x))) (.int .i64 L.length) (enm 0 L)=enm 0 (L++[x]):=by
   have:=mPut_enm' hx L 0 hi
   rw [Nat.zero_add] at this
   exact this
  refine GC.walk tok mixed cfg0 Tryz.func197 rfl Tryz.call197 ?_;refine vms6 hk hks hi hx hp Tryz.ntmps197 ?_
  refine endG.ret ([]) (by first | rfl | simp [bel_clA,bel_As,fzs_ok,getO,setO,fzs,fz,fzH,Nat.beq,cfg0,encA,mHas_enm,mGet_enm,lenE,ones_A,objP,hk,hks,hi,hx,numV,Option.isSome_some,Option.isSome_none,hp,objP,List.map_append,belAll_append]) (by simp) (by simp [bel_clA,bel_As,fzs_ok,imp,lenOK_iff,List.take_of_length_le,evRes,getT,getO,setO,fzs,fz,fzH,Nat.beq,retV,Res.then,ldT,ldR,mkV,getV,cfg0,encA,mHas_enm,mGet_enm,lenE,ones_A,objP,hk,hks,hi,hx,numV,Option.isSome_some,Option.isSome_none,hp,Tryz.f197,objP,List.map_append,belAll_append]) (by first | rfl | simp [bel_clA,bel_As,objP,List.map_append,belAll_append]) (by first | rfl | simp [bel_clA,bel_As,objP,List.map_append,belAll_append])
end
section
theorem w_shl1 {k:Nat}:ishl .u64 1 (k:Int)=((1#64 <<< k).toNat:Int):=w_shl (x:=1#64)
abbrev Ds:=List Nx × W64
def objS (s:Ds):List Ob:=objP s.1++[.cells 0 [.int .u64 s.2.toNat]]
theorem objS_eq (L:List Nx) (o:W64):objS (L,o)=[.cells 0 [.mp 2,.buf 1 L.length 0 L.length 1],.cells L.length (L.map encA),.map (enm 0 L),.cells 0 [.int .u64 o.toNat]]:=rfl
@[simp] theorem bel_objP (L:List Nx):belObs 3 (objP L)=true:=by
 simp [objP,belObs_cons,belO_cells,bel_As,bel_mapE,bel_clA,bel_As]
@[simp] theorem bel_objS (s:Ds):belObs 4 (objS s)=true:=by
 simp [objS,objP,belObs_cons,belO_cells,bel_As,bel_mapE,bel_clA,bel_As]
theorem len_objP (L:List Nx):(objP L).length=3:=rfl
theorem len_objS (s:Ds):(objS s).length=4:=rfl
def addD (s:Ds) (d:Nx):Ds:=((num s.1 d).1,s.2 ||| (1#64 <<< (num s.1 d).2))
theorem num_len (L:List Nx) (x:Nx):L.length≤(num L x).1.length∧(num L x).1.length≤L.length+1:=by
 unfold num
 split
 ·simp
 ·simp
theorem num_mem {L:List Nx} {x y:Nx} (h:y ∈ (num L x).1):y ∈ L∨y=x:=by
 unfold num at h
 split at h
 ·exact .inl h
 ·simpa using h
def cfgD:Cfg:={ lv:=[],ef:=[7],ord:=[],em:=[7],fl:=[5],ks:=some [3] }
attribute [local push_cast] cfg0 encA ones_A objS objP ib_or w_ofInt w_shl1
theorem pc219 {s:Ds} {d:Nx} (hL:∀y ∈ s.1,hgt y≤4000) (hx:hgt d≤4000) (hl:s.1.length≤4000000) :
  GCall Tryz.prog 219 [encA d,.ptr 3 0 0,.fp [.ptr 0 0 0]] (objS s) (.tup []) (objS (addD s d)):=by
 have h37:=pc197 hL hx hl
 obtain ⟨L,o⟩:=s
 simp only at hL hl h37
 rw [objS_eq]
 refine GC.walk tok mixed cfgD Tryz.func219 rfl Tryz.call219 ?_;simp (maxSteps:=2000000) -implicitDefEqProofs +contextual (disch:=first | assumption | omega | decide +kernel) only [push_cast,↓capI,seval,Nat.reduceLeDiff,Nat.reduceEqDiff,reduceCtorEq,↓reduceIte,Tryz.ntmps219,cfgD]
 refine callO.app [.cells 0 [.int .u64 o.toNat]] h37 rfl (by rw [len_objP,len_objP]) (by rw [len_objP];simp [bel_clA,bel_As]) (bel_objP L) rfl (bel_objP _) ?_
 generalize hn:num L d=r
 obtain ⟨L',k⟩:=r
 simp (maxSteps:=2000000) -implicitDefEqProofs +contextual (disch:=first | assumption | omega | decide +kernel) only [push_cast,↓capI,seval,Nat.reduceLeDiff,Nat.reduceEqDiff,reduceCtorEq,↓reduceIte,cfgD,addD,hn]
 refine ⟨?_,?_⟩
 ·intro i ver cs hi hg
  have hi3:i=3:=by
   simp only [memN] at hi
   split at hi
   ·rename_i h;exact (Nat.eq_of_beq_eq_true h).symm
   ·cases hi
  subst hi3
  exact hg
 refine endG.normal ([]) (by first | rfl | simp [bel_clA,bel_As,fzs_ok,getO,setO,fzs,fz,fzH,Nat.beq,cfg0,encA,ones_A,objS,objP,ib_or,w_ofInt,w_shl1,objS,objP]) (by simp) (by simp [bel_clA,bel_As,fzs_ok,imp,lenOK_iff,List.take_of_length_le,evRes,getT,getO,setO,fzs,fz,fzH,Nat.beq,retV,Res.then,ldT,ldR,mkV,getV,cfg0,encA,ones_A,objS,objP,ib_or,w_ofInt,w_shl1,Tryz.f219,objS,objP]) (by first | rfl | simp [bel_clA,bel_As,objS,objP]) (by first | rfl | simp [bel_clA,bel_As,objS,objP])
inductive Kt where
 | sq (a b:Nx)
 | st (a:Nx)
def ap:List Kt→Nx→Nx
 | [],d=>d
 | .sq _ b::ks,d=>ap ks (seqA d b)
 | .st a::ks,d=>ap ks (seqA d (.star a))
def cloF:List Kt→Nat
 | []=>219
 | .sq _ _::_=>229
 | .st _::_=>231
def cloC:List Kt→List V
 | []=>[.ptr 3 0 0,.fp [.ptr 0 0 0]]
 | .sq a b::ks=>[.fp [.fn (.func (cloF ks)) [] (cloC ks)],.fp [encA a,encA b]]
 | .st a::ks=>[.fp [.fn (.func (cloF ks)) [] (cloC ks)],.fp [encA a]]
theorem bel_cloC:∀ks,belAll 4 (cloC ks)=true
 | []=>rfl
 | .sq a b::ks=>by rw [cloC,belAll_cons,belAll_cons,bel_fp,bel_fp,belAll_cons,bel_fn,bel_cloC ks,belAll_cons,belAll_cons,bel_encA,bel_encA];rfl
 | .st a::ks=>by rw [cloC,belAll_cons,belAll_cons,bel_fp,bel_fp,belAll_cons,bel_fn,bel_cloC ks,belAll_cons,bel_encA];rfl
end
section
def cfgE:Cfg:={ lv:=[],ef:=[9],ord:=[],em:=[9],fl:=[],ks:=some [] }
theorem keeps_no {H H':List Ob}:KeepsC (some []) H H':=fun i ver cs hi=>by simp [memN] at hi
theorem pur_encA:∀x,purs (clA x)=true
 | .eps=>rfl
 | .any=>rfl
 | .one _=>rfl
 | .star a=>by simp [clA,purs,V.pur,pur_encA a]
 | .cat a b=>by simp [clA,purs,V.pur,pur_encA a,pur_encA b]
 | .alt a b=>by simp [clA,purs,V.pur,pur_encA a,pur_encA b]
theorem pur_As:∀(L:List Nx),purs (L.map encA)=true
 | []=>rfl
 | x::r=>by simp [purs,encA,V.pur,pur_encA x,pur_As r]
theorem pur_enm1:∀(L:List Nx) (i:Nat),purs ((enm i L).map (·.1))=true
 | [],_=>rfl
 | x::r,i=>by rw [enm,List.map_cons,purs,pur_enm1 r,encA,V.pur,V.pur,pur_encA x];rfl
theorem pur_enm2:∀(L:List Nx) (i:Nat),purs ((enm i L).map (·.2))=true
 | [],_=>rfl
 | x::r,i=>by rw [enm,List.map_cons,purs,pur_enm2 r];rfl
theorem pur_objS (s:Ds):pursO (objS s)=true:=by
 simp [objS,objP,pursO,Ob.pur,purs,V.pur,pur_As,pur_enm1,pur_enm2]
attribute [local push_cast] cfg0 encA ones_A
theorem pcClo:∀(ks:List Kt) (s:Ds) (d:Nx),(∀y ∈ s.1,hgt y≤4000)→hgt (ap ks d)≤4000→s.1.length≤4000000 →
  GCall Tryz.prog (cloF ks) (encA d::cloC ks) (objS s) (.tup []) (objS (addD s (ap ks d)))
 | [],s,d,hL,hx,hl=>pc219 hL hx hl
 | .sq a b::ks,s,d,hL,hx,hl=>by
  have ih:=pcClo ks s (seqA d b) hL hx hl
  have h58:=pc230 d b
  show GCall Tryz.prog 229 [encA d,.fp [.fn (.func (cloF ks)) [] (cloC ks)],.fp [encA a,encA b]] (objS s) (.tup []) (objS (addD s (ap ks (seqA d b))))
  have hb:=bel_objS (addD s (ap ks (seqA d b)))
  have hn:=len_objS s
  have hn2:=len_objS (addD s (ap ks (seqA d b)))
  generalize cloF ks=nf at ih ⊢
  generalize cloC ks=nc at ih ⊢
  generalize objS s=os at ih hn ⊢
  generalize objS (addD s (ap ks (seqA d b)))=os2 at ih hb hn2 ⊢
  generalize seqA d b=e at ih h58
  refine GC.walk tok mixed cfgE Tryz.func229 rfl Tryz.call229 ?_;simp (maxSteps:=2000000) -implicitDefEqProofs +contextual (disch:=first | assumption | omega | decide +kernel) only [push_cast,↓capI,seval,Nat.reduceLeDiff,Nat.reduceEqDiff,reduceCtorEq,↓reduceIte,Tryz.ntmps229,cfgE]
  refine callG.pc1 h58 ?_
  simp (maxSteps:=2000000) -implicitDefEqProofs +contextual (disch:=first | assumption | omega | decide +kernel) only [push_cast,↓capI,seval,Nat.reduceLeDiff,Nat.reduceEqDiff,reduceCtorEq,↓reduceIte,cfgE]
  refine ⟨.tup [],os2,.inl (by simpa [encA] using ih),?_⟩
  simp (maxSteps:=2000000) -implicitDefEqProofs +contextual (disch:=first | assumption | omega | decide +kernel) only [push_cast,↓capI,seval,Nat.reduceLeDiff,Nat.reduceEqDiff,reduceCtorEq,↓reduceIte,cfgE,keeps_no]
  exact endG.normal [] (by simp) (by omega) (by simp [evRes,retV,Tryz.f229]) rfl (by rw [hn2];exact hb)
 | .st a::ks,s,d,hL,hx,hl=>by
  have ih:=pcClo ks s (seqA d (.star a)) hL hx hl
  have h58:=pc230 d (.star a)
  show GCall Tryz.prog 231 [encA d,.fp [.fn (.func (cloF ks)) [] (cloC ks)],.fp [encA a]] (objS s) (.tup []) (objS (addD s (ap ks (seqA d (.star a)))))
  have hb:=bel_objS (addD s (ap ks (seqA d (.star a))))
  have hn:=len_objS s
  have hn2:=len_objS (addD s (ap ks (seqA d (.star a))))
  generalize cloF ks=nf at ih ⊢
  generalize cloC ks=nc at ih ⊢
  generalize objS s=os at ih hn ⊢
  generalize objS (addD s (ap ks (seqA d (.star a))))=os2 at ih hb hn2 ⊢
  generalize seqA d (.star a)=e at ih h58
  have h58':PC Tryz.prog 230 [encA d,.ifc 267 (.agg [encA a])] (encA e):=h58
  refine GC.walk tok mixed cfgE Tryz.func231 rfl Tryz.call231 ?_;simp (maxSteps:=2000000) -implicitDefEqProofs +contextual (disch:=first | assumption | omega | decide +kernel) only [push_cast,↓capI,seval,Nat.reduceLeDiff,Nat.reduceEqDiff,reduceCtorEq,↓reduceIte,Tryz.ntmps231,cfgE]
  refine callG.pc1 h58' ?_
  simp (maxSteps:=2000000) -implicitDefEqProofs +contextual (disch:=first | assumption | omega | decide +kernel) only [push_cast,↓capI,seval,Nat.reduceLeDiff,Nat.reduceEqDiff,reduceCtorEq,↓reduceIte,cfgE]
  refine ⟨.tup [],os2,.inl (by simpa [encA] using ih),?_⟩
  simp (maxSteps:=2000000) -implicitDefEqProofs +contextual (disch:=first | assumption | omega | decide +kernel) only [push_cast,↓capI,seval,Nat.reduceLeDiff,Nat.reduceEqDiff,reduceCtorEq,↓reduceIte,cfgE,keeps_no]
  exact endG.normal [] (by simp) (by omega) (by simp [evRes,retV,Tryz.f231]) rfl (by rw [hn2];exact hb)
def drv (sw:Int):Nx→List Nx
 | .eps=>[]
 | .any=>[.eps]
 | .one n=>if n=sw then [.eps] else []
 | .star a=>(drv sw a).map fun d=>seqA d (.star a)
 | .cat a b=>(drv sw a).map (fun d=>seqA d b)++if nul a=true then drv sw b else []
 | .alt a b=>drv sw a++drv sw b
def addL (s:Ds) (l:List Nx):Ds:=l.foldl addD s
theorem addL_len:∀(l:List Nx) (s:Ds),(addL s l).1.length≤s.1.length+l.length
 | [],s=>Nat.le_refl _
 | x::r,s=>by
  have:=addL_len r (addD s x)
  have h2:=(num_len s.1 x).2
  simp only [addL,List.foldl_cons,List.length_cons] at this ⊢
  simp only [addD] at this h2 ⊢
  omega
theorem addL_hgt:∀(l:List Nx) (s:Ds),(∀y ∈ s.1,hgt y≤4000)→(∀y ∈ l,hgt y≤4000)→∀y ∈ (addL s l).1,hgt y≤4000
 | [],s,h,_=>h
 | x::r,s,h,hl=>by
  refine addL_hgt r (addD s x) (fun y hy=>?_) (fun y hy=>hl y (by simp [hy]))
  rcases num_mem hy with hy | rfl
  ·exact h y hy
  ·exact hl _ (by simp)
theorem addL_append (a b:List Nx) (s:Ds):addL s (a++b)=addL (addL s a) b:=by simp [addL]
theorem ap_map (ks:List Kt) (k:Kt) (l:List Nx):l.map (ap (k::ks))=(l.map fun d=>match k with | .sq _ b=>seqA d b | .st a=>seqA d (.star a)).map (ap ks):=by
 rw [List.map_map]
 refine List.map_congr_left fun d _=>?_
 cases k<;>rfl
end
section
def DrvC (sw:Int) (x:Nx):Prop:=∀(ks:List Kt) (s:Ds),(∀y ∈ s.1,hgt y≤4000)→(∀y ∈ (drv sw x).map (ap ks),hgt y≤4000)→s.1.length+(drv sw x).length≤4000000 →
  GCall Tryz.prog 218 [encA x,.int .i64 sw,.fn (.func (cloF ks)) [] (cloC ks)] (objS s) (.tup []) (objS (addL s ((drv sw x).map (ap ks))))
attribute [local push_cast] cfg0 encA ones_A objS objP
theorem drv_eps (sw:Int):DrvC sw .eps:=by
 intro ks s hL hd hl
 have e:addL s ((drv sw .eps).map (ap ks))=s:=rfl
 rw [e]
 show GCall Tryz.prog 218 [.ifc 262 (.agg []),.int .i64 sw,.fn (.func (cloF ks)) [] (cloC ks)] (objS s) (.tup []) (objS s)
 generalize cloF ks=nf
 generalize cloC ks=nc
 obtain ⟨L,o⟩:=s
 rw [objS_eq]
 refine GC.walk tok mixed cfg0 Tryz.func218 rfl Tryz.call218 ?_;refine vms1 Tryz.ntmps218 ?_
 refine endG.normal ([_]) (by first | rfl | simp [bel_clA,bel_As,fzs_ok,getO,setO,fzs,fz,fzH,Nat.beq,cfg0,encA,ones_A,objS,objP,objS,objP]) (by simp) (by simp [bel_clA,bel_As,fzs_ok,imp,lenOK_iff,List.take_of_length_le,evRes,getT,getO,setO,fzs,fz,fzH,Nat.beq,retV,Res.then,ldT,ldR,mkV,getV,cfg0,encA,ones_A,objS,objP,Tryz.f218,objS,objP]) (by first | rfl | simp [bel_clA,bel_As,objS,objP]) (by first | rfl | simp [bel_clA,bel_As,objS,objP])
theorem drv_any (sw:Int):DrvC sw .any:=by
 intro ks s hL hd hl
 have hc:=pcClo ks s .eps hL (hd _ (by simp [drv])) (by omega)
 have hbn:=bel_cloC ks
 have e:addL s ((drv sw .any).map (ap ks))=addD s (ap ks .eps):=rfl
 rw [e]
 show GCall Tryz.prog 218 [.ifc 263 (.agg []),.int .i64 sw,.fn (.func (cloF ks)) [] (cloC ks)] (objS s) (.tup []) (objS (addD s (ap ks .eps)))
 have hc2:GCall Tryz.prog (cloF ks) (.ifc 262 (.agg [])::cloC ks) (objS s) (.tup []) (objS (addD s (ap ks .eps))):=hc
 clear hc
 generalize addD s (ap ks .eps)=s2 at hc2 ⊢
 generalize cloF ks=nf at hc2 ⊢
 generalize cloC ks=nc at hc2 hbn ⊢
 obtain ⟨L,o⟩:=s
 obtain ⟨L2,o2⟩:=s2
 have hb1:=bel_objS (L,o)
 have hb2:=bel_objS (L2,o2)
 rw [objS_eq] at hc2 hb1 ⊢
 rw [objS_eq] at hc2 hb2 ⊢
 refine GC.walk tok mixed cfg0 Tryz.func218 rfl Tryz.call218 ?_;refine vms1 Tryz.ntmps218 ?_
 refine callO.app [_,_] hc2 rfl rfl (by simp [bel_clA,bel_As,hbn]) hb1 rfl hb2 ?_
 refine vms0 ?_
 refine endG.normal ([_,_]) (by first | rfl | simp [bel_clA,bel_As,fzs_ok,getO,setO,fzs,fz,fzH,Nat.beq,cfg0,encA,ones_A,objS,objP,objS,objP]) (by simp) (by simp [bel_clA,bel_As,fzs_ok,imp,lenOK_iff,List.take_of_length_le,evRes,getT,getO,setO,fzs,fz,fzH,Nat.beq,retV,Res.then,ldT,ldR,mkV,getV,cfg0,encA,ones_A,objS,objP,Tryz.f218,objS,objP]) (by first | rfl | simp [bel_clA,bel_As,objS,objP]) (by first | rfl | simp [bel_clA,bel_As,objS,objP])
theorem drv_one (sw n:Int):DrvC sw (.one n):=by
 intro ks s hL hd hl
 by_cases h:n=sw
 ·subst h
  have hc:=pcClo ks s .eps hL (hd _ (by simp [drv])) (by omega)
  have hbn:=bel_cloC ks
  have e:addL s ((drv n (.one n)).map (ap ks))=addD s (ap ks .eps):=by rw [drv,if_pos rfl];rfl
  rw [e]
  show GCall Tryz.prog 218 [.ifc 265 (.agg [.int .i64 n]),.int .i64 n,.fn (.func (cloF ks)) [] (cloC ks)] (objS s) (.tup []) (objS (addD s (ap ks .eps)))
  have hc2:GCall Tryz.prog (cloF ks) (.ifc 262 (.agg [])::cloC ks) (objS s) (.tup []) (objS (addD s (ap ks .eps))):=hc
  clear hc
  generalize addD s (ap ks .eps)=s2 at hc2 ⊢
  generalize cloF ks=nf at hc2 ⊢
  generalize cloC ks=nc at hc2 hbn ⊢
  obtain ⟨L,o⟩:=s
  obtain ⟨L2,o2⟩:=s2
  have hb1:=bel_objS (L,o)
  have hb2:=bel_objS (L2,o2)
  rw [objS_eq] at hc2 hb1 ⊢
  rw [objS_eq] at hc2 hb2 ⊢
  refine GC.walk tok mixed cfg0 Tryz.func218 rfl Tryz.call218 ?_;refine vms1 Tryz.ntmps218 ?_
  refine callO.app [_,_] hc2 rfl rfl (by simp [bel_clA,bel_As,hbn]) hb1 rfl hb2 ?_
  refine vms0 ?_
  refine endG.normal ([_,_]) (by first | rfl | simp [bel_clA,bel_As,fzs_ok,getO,setO,fzs,fz,fzH,Nat.beq,cfg0,encA,ones_A,objS,objP,objS,objP]) (by simp) (by simp [bel_clA,bel_As,fzs_ok,imp,lenOK_iff,List.take_of_length_le,evRes,getT,getO,setO,fzs,fz,fzH,Nat.beq,retV,Res.then,ldT,ldR,mkV,getV,cfg0,encA,ones_A,objS,objP,Tryz.f218,objS,objP]) (by first | rfl | simp [bel_clA,bel_As,objS,objP]) (by first | rfl | simp [bel_clA,bel_As,objS,objP])
 ·have e:addL s ((drv sw (.one n)).map (ap ks))=s:=by rw [drv,if_neg h];rfl
  rw [e]
  show GCall Tryz.prog 218 [.ifc 265 (.agg [.int .i64 n]),.int .i64 sw,.fn (.func (cloF ks)) [] (cloC ks)] (objS s) (.tup []) (objS s)
  generalize cloF ks=nf
  generalize cloC ks=nc
  obtain ⟨L,o⟩:=s
  rw [objS_eq]
  refine GC.walk tok mixed cfg0 Tryz.func218 rfl Tryz.call218 ?_;refine vms1 Tryz.ntmps218 ?_
  refine endG.normal ([_,_]) (by first | rfl | simp [bel_clA,bel_As,fzs_ok,getO,setO,fzs,fz,fzH,Nat.beq,cfg0,encA,ones_A,objS,objP,objS,objP]) (by simp) (by simp [bel_clA,bel_As,fzs_ok,imp,lenOK_iff,List.take_of_length_le,evRes,getT,getO,setO,fzs,fz,fzH,Nat.beq,retV,Res.then,ldT,ldR,mkV,getV,cfg0,encA,ones_A,objS,objP,Tryz.f218,objS,objP]) (by first | rfl | simp [bel_clA,bel_As,objS,objP]) (by first | rfl | simp [bel_clA,bel_As,objS,objP])
theorem lnds_clA {f:V→V} {m:Nat} {H:List Ob} {x:Nx}:lndWs f m H (clA x)=clA x:=lndWs_lt _ (bel_clA x)
theorem drv_star (sw:Int) (a:Nx) (ih:DrvC sw a):DrvC sw (.star a):=by
 intro ks s hL hd hl
 have e:(drv sw (.star a)).map (ap ks)=(drv sw a).map (ap (.st a::ks)):=by rw [drv,ap_map]
 rw [e] at hd ⊢
 have i1:=ih (.st a::ks) s hL hd (by rw [drv,List.length_map] at hl;exact hl)
 have hbn:=bel_cloC ks
 have hp2:=pur_objS (addL s ((drv sw a).map (ap (.st a::ks))))
 show GCall Tryz.prog 218 [.ifc 267 (.agg [encA a]),.int .i64 sw,.fn (.func (cloF ks)) [] (cloC ks)] (objS s) (.tup []) (objS (addL s ((drv sw a).map (ap (.st a::ks)))))
 simp only [cloF,cloC] at i1
 generalize addL s ((drv sw a).map (ap (.st a::ks)))=s2 at i1 hp2 ⊢
 have i1':GCall Tryz.prog 218 [encA a,.int .i64 sw,.fn (.func 231) [] [.fp [.fn (.func (cloF ks)) [] (cloC ks)],.fp [encA a]]] (objS s) (.tup []) (objS s2):=i1
 clear i1
 generalize cloF ks=nf at i1' ⊢
 generalize cloC ks=nc at i1' hbn ⊢
 obtain ⟨L,o⟩:=s
 obtain ⟨L2,o2⟩:=s2
 have hb1:=bel_objS (L,o)
 have hb2:=bel_objS (L2,o2)
 rw [objS_eq] at i1' hb1 ⊢
 rw [objS_eq] at i1' hb2 hp2 ⊢
 refine GC.walk tok mixed cfg0 Tryz.func218 rfl Tryz.call218 ?_;refine vms1 Tryz.ntmps218 ?_
 refine callO.lend (v:=.tup []) (G:=[_,_,_,_]) (G':=[_,_,_,_]) [_,_] (by simpa [lnds,lnd,lndWs,lndW,lnds_clA,id_eq,List.map_cons,List.map_nil,getO,Nat.blt,Nat.ble,Nat.beq,List.drop_zero,List.nil_append,List.append_nil,List.cons_append,encA] using i1') rfl (by rfl) (by simp [lnds,lnd,lndWs,lndW,lnds_clA,id_eq,List.map_cons,List.map_nil,getO,Nat.blt,Nat.ble,Nat.beq,List.drop_zero,List.nil_append,List.append_nil,List.cons_append,encA,bel_clA,bel_As,hbn]) hb1 rfl rfl hb2 hp2 ?_
 refine vms0 ?_
 refine endG.normal ([_,_]) (by first | rfl | simp [bel_clA,bel_As,fzs_ok,getO,setO,fzs,fz,fzH,Nat.beq,cfg0,encA,ones_A,objS,objP,objS,objP]) (by simp) (by simp [bel_clA,bel_As,fzs_ok,imp,lenOK_iff,List.take_of_length_le,evRes,getT,getO,setO,fzs,fz,fzH,Nat.beq,retV,Res.then,ldT,ldR,mkV,getV,cfg0,encA,ones_A,objS,objP,Tryz.f218,objS,objP]) (by first | rfl | simp [bel_clA,bel_As,objS,objP]) (by first | rfl | simp [bel_clA,bel_As,objS,objP])
theorem drv_alt (sw:Int) (a b:Nx) (ia:DrvC sw a) (ib:DrvC sw b):DrvC sw (.alt a b):=by
 intro ks s hL hd hl
 rw [drv,List.map_append] at hd ⊢
 rw [drv,List.length_append] at hl
 rw [addL_append]
 have hl2:=addL_len ((drv sw a).map (ap ks)) s
 rw [List.length_map] at hl2
 have hL2:=addL_hgt ((drv sw a).map (ap ks)) s hL (fun y hy=>hd y (List.mem_append.2 (.inl hy)))
 have i1:=ia ks s hL (fun y hy=>hd y (List.mem_append.2 (.inl hy))) (by omega)
 generalize addL s ((drv sw a).map (ap ks))=s2 at i1 hL2 hl2 ⊢
 have i2:=ib ks s2 hL2 (fun y hy=>hd y (List.mem_append.2 (.inr hy))) (by omega)
 have hbn:=bel_cloC ks
 show GCall Tryz.prog 218 [.ifc 270 (.agg [encA a,encA b]),.int .i64 sw,.fn (.func (cloF ks)) [] (cloC ks)] (objS s) (.tup []) (objS (addL s2 ((drv sw b).map (ap ks))))
 generalize addL s2 ((drv sw b).map (ap ks))=s3 at i2 ⊢
 generalize cloF ks=nf at i1 i2 ⊢
 generalize cloC ks=nc at i1 i2 hbn ⊢
 obtain ⟨L,o⟩:=s
 obtain ⟨L2,o2⟩:=s2
 obtain ⟨L3,o3⟩:=s3
 have hb1:=bel_objS (L,o)
 have hb2:=bel_objS (L2,o2)
 have hb3:=bel_objS (L3,o3)
 rw [objS_eq] at i1 hb1 ⊢
 rw [objS_eq] at i1 i2 hb2
 rw [objS_eq] at i2 hb3 ⊢
 refine GC.walk tok mixed cfg0 Tryz.func218 rfl Tryz.call218 ?_;refine vms1 Tryz.ntmps218 ?_
 refine callO.app [_,_] i1 rfl rfl (by simp [bel_clA,bel_As,hbn]) hb1 rfl hb2 ?_
 refine vms0 ?_
 refine callO.app [_,_] i2 rfl rfl (by simp [bel_clA,bel_As,hbn]) hb2 rfl hb3 ?_
 refine vms0 ?_
 refine endG.normal ([_,_]) (by first | rfl | simp [bel_clA,bel_As,fzs_ok,getO,setO,fzs,fz,fzH,Nat.beq,cfg0,encA,ones_A,objS,objP,objS,objP]) (by simp) (by simp [bel_clA,bel_As,fzs_ok,imp,lenOK_iff,List.take_of_length_le,evRes,getT,getO,setO,fzs,fz,fzH,Nat.beq,retV,Res.then,ldT,ldR,mkV,getV,cfg0,encA,ones_A,objS,objP,Tryz.f218,objS,objP]) (by first | rfl | simp [bel_clA,bel_As,objS,objP]) (by first | rfl | simp [bel_clA,bel_As,objS,objP])
theorem drv_cat (sw:Int) (a b:Nx) (ia:DrvC sw a) (ib:DrvC sw b):DrvC sw (.cat a b):=by
 intro ks s hL hd hl
 have e:(drv sw (.cat a b)).map (ap ks)=(drv sw a).map (ap (.sq a b::ks))++(if nul a=true then drv sw b else []).map (ap ks):=by rw [drv,List.map_append,ap_map]
 rw [e] at hd ⊢
 rw [drv,List.length_append,List.length_map] at hl
 rw [addL_append]
 have hl2:=addL_len ((drv sw a).map (ap (.sq a b::ks))) s
 rw [List.length_map] at hl2
 have hL2:=addL_hgt ((drv sw a).map (ap (.sq a b::ks))) s hL (fun y hy=>hd y (List.mem_append.2 (.inl hy)))
 have i1:=ia (.sq a b::ks) s hL (fun y hy=>hd y (List.mem_append.2 (.inl hy))) (by omega)
 have hp2:=pur_objS (addL s ((drv sw a).map (ap (.sq a b::ks))))
 generalize addL s ((drv sw a).map (ap (.sq a b::ks)))=s2 at i1 hL2 hl2 hp2 ⊢
 have hbn:=bel_cloC ks
 have hnul:=pcNul a
 simp only [cloF,cloC] at i1
 have i1':GCall Tryz.prog 218 [encA a,.int .i64 sw,.fn (.func 229) [] [.fp [.fn (.func (cloF ks)) [] (cloC ks)],.fp [encA a,encA b]]] (objS s) (.tup []) (objS s2):=i1
 clear i1
 show GCall Tryz.prog 218 [.ifc 269 (.agg [encA a,encA b]),.int .i64 sw,.fn (.func (cloF ks)) [] (cloC ks)] (objS s) (.tup []) (objS (addL s2 ((if nul a=true then drv sw b else []).map (ap ks))))
 cases hna:nul a
 ·rw [hna] at hnul
  rw [if_neg (by decide)]
  rw [show addL s2 (([]:List Nx).map (ap ks))=s2 from rfl]
  generalize cloF ks=nf at i1' ⊢
  generalize cloC ks=nc at i1' hbn ⊢
  obtain ⟨L,o⟩:=s
  obtain ⟨L2,o2⟩:=s2
  have hb1:=bel_objS (L,o)
  have hb2:=bel_objS (L2,o2)
  rw [objS_eq] at i1' hb1 ⊢
  rw [objS_eq] at i1' hb2 hp2 ⊢
  refine GC.walk tok mixed cfg0 Tryz.func218 rfl Tryz.call218 ?_;refine vms1 Tryz.ntmps218 ?_
  refine callO.lend (v:=.tup []) (G:=[_,_,_,_]) (G':=[_,_,_,_]) [_,_] (by simpa [lnds,lnd,lndWs,lndW,lnds_clA,id_eq,List.map_cons,List.map_nil,getO,Nat.blt,Nat.ble,Nat.beq,List.drop_zero,List.nil_append,List.append_nil,List.cons_append,encA] using i1') rfl (by rfl) (by simp [lnds,lnd,lndWs,lndW,lnds_clA,id_eq,List.map_cons,List.map_nil,getO,Nat.blt,Nat.ble,Nat.beq,List.drop_zero,List.nil_append,List.append_nil,List.cons_append,encA,bel_clA,bel_As,hbn]) hb1 rfl rfl hb2 hp2 ?_
  refine vms0 ?_
  refine callI.of (mtA a) (callO.pc hnul ?_)
  refine vms0 ?_
  refine endG.normal ([_,_]) (by first | rfl | simp [bel_clA,bel_As,fzs_ok,getO,setO,fzs,fz,fzH,Nat.beq,cfg0,encA,ones_A,objS,objP,objS,objP]) (by simp) (by simp [bel_clA,bel_As,fzs_ok,imp,lenOK_iff,List.take_of_length_le,evRes,getT,getO,setO,fzs,fz,fzH,Nat.beq,retV,Res.then,ldT,ldR,mkV,getV,cfg0,encA,ones_A,objS,objP,Tryz.f218,objS,objP]) (by first | rfl | simp [bel_clA,bel_As,objS,objP]) (by first | rfl | simp [bel_clA,bel_As,objS,objP])
 ·rw [hna] at hnul
  rw [if_pos rfl]
  rw [hna,if_pos rfl] at hl hd
  have i2:=ib ks s2 hL2 (fun y hy=>hd y (List.mem_append.2 (.inr hy))) (by omega)
  generalize addL s2 ((drv sw b).map (ap ks))=s3 at i2 ⊢
  generalize cloF ks=nf at i1' i2 ⊢
  generalize cloC ks=nc at i1' i2 hbn ⊢
  obtain ⟨L,o⟩:=s
  obtain ⟨L2,o2⟩:=s2
  obtain ⟨L3,o3⟩:=s3
  have hb1:=bel_objS (L,o)
  have hb2:=bel_objS (L2,o2)
  have hb3:=bel_objS (L3,o3)
  rw [objS_eq] at i1' hb1 ⊢
  rw [objS_eq] at i1' i2 hb2 hp2
  rw [objS_eq] at i2 hb3 ⊢
  refine GC.walk tok mixed cfg0 Tryz.func218 rfl Tryz.call218 ?_;refine vms1 Tryz.ntmps218 ?_
  refine callO.lend (v:=.tup []) (G:=[_,_,_,_]) (G':=[_,_,_,_]) [_,_] (by simpa [lnds,lnd,lndWs,lndW,lnds_clA,id_eq,List.map_cons,List.map_nil,getO,Nat.blt,Nat.ble,Nat.beq,List.drop_zero,List.nil_append,List.append_nil,List.cons_append,encA] using i1') rfl (by rfl) (by simp [lnds,lnd,lndWs,lndW,lnds_clA,id_eq,List.map_cons,List.map_nil,getO,Nat.blt,Nat.ble,Nat.beq,List.drop_zero,List.nil_append,List.append_nil,List.cons_append,encA,bel_clA,bel_As,hbn]) hb1 rfl rfl hb2 hp2 ?_
  refine vms0 ?_
  refine callI.of (mtA a) (callO.pc hnul ?_)
  refine vms0 ?_
  refine callO.app [_,_] i2 rfl rfl (by simp [bel_clA,bel_As,hbn]) hb2 rfl hb3 ?_
  refine vms0 ?_
  refine endG.normal ([_,_]) (by first | rfl | simp [bel_clA,bel_As,fzs_ok,getO,setO,fzs,fz,fzH,Nat.beq,cfg0,encA,ones_A,objS,objP,objS,objP]) (by simp) (by simp [bel_clA,bel_As,fzs_ok,imp,lenOK_iff,List.take_of_length_le,evRes,getT,getO,setO,fzs,fz,fzH,Nat.beq,retV,Res.then,ldT,ldR,mkV,getV,cfg0,encA,ones_A,objS,objP,Tryz.f218,objS,objP]) (by first | rfl | simp [bel_clA,bel_As,objS,objP]) (by first | rfl | simp [bel_clA,bel_As,objS,objP])
theorem pc218 (sw:Int):∀x:Nx,DrvC sw x
 | .eps=>drv_eps sw
 | .any=>drv_any sw
 | .one n=>drv_one sw n
 | .star a=>drv_star sw a (pc218 sw a)
 | .cat a b=>drv_cat sw a b (pc218 sw a) (pc218 sw b)
 | .alt a b=>drv_alt sw a b (pc218 sw a) (pc218 sw b)
end
section
theorem bit_eq {x:W64} {i:Nat}:(((x >>> i &&& 1#64).toNat:Int)==1)=x.getLsbD i:=by
 have h:(x >>> i &&& 1#64)=if x.getLsbD i then 1#64 else 0#64:=by
  refine BitVec.eq_of_getLsbD_eq fun j hj=>?_
  rw [BitVec.getLsbD_and,BitVec.getLsbD_ushiftRight]
  by_cases h0:j=0
  ·subst h0;cases h:x.getLsbD i<;>simp [h]
  ·cases h:x.getLsbD i<;>simp [BitVec.getLsbD_one,h0]
 rw [h]
 cases x.getLsbD i<;>rfl
def stepI (sw:Int) (set:W64) (i:Nat) (s:Ds):Ds:=if set.getLsbD i=true then (match s.1[i]? with | some x=>addL s (drv sw x) | none=>s) else s
def stepN (sw:Int) (set:W64):Nat→Ds→Ds
 | 0,s=>s
 | n+1,s=>stepI sw set n (stepN sw set n s)
def stepS (sw:Int) (set:W64) (L:List Nx):Ds:=stepN sw set 64 (L,0#64)
theorem num_get {L:List Nx} {x:Nx} {i:Nat} {y:Nx} (h:L[i]? = some y):(num L x).1[i]? = some y:=by
 unfold num
 split
 ·exact h
 ·rw [List.getElem?_append_left (List.getElem?_eq_some_iff.1 h).1];exact h
theorem addL_get:∀(l:List Nx) (s:Ds) {i:Nat} {y:Nx},s.1[i]? = some y→(addL s l).1[i]? = some y
 | [],s,i,y,h=>h
 | x::r,s,i,y,h=>addL_get r (addD s x) (num_get h)
theorem stepI_get {sw:Int} {set:W64} {k:Nat} {s:Ds} {i:Nat} {y:Nx} (h:s.1[i]? = some y):(stepI sw set k s).1[i]? = some y:=by
 unfold stepI
 split
 ·split
  ·exact addL_get _ _ h
  ·exact h
 ·exact h
theorem stepN_get {sw:Int} {set:W64} {s:Ds} {i:Nat} {y:Nx} (h:s.1[i]? = some y):∀n,(stepN sw set n s).1[i]? = some y
 | 0=>h
 | n+1=>stepI_get (stepN_get h n)
structure Cls (D:List Nx):Prop where
 hgt:∀x ∈ D,hgt x≤4000
 clos:∀x ∈ D,∀sw,∀d ∈ drv sw x,d ∈ D
 dl:∀x ∈ D,∀sw,(drv sw x).length≤1000
 len:D.length≤30
def goodL (D L:List Nx):Prop:=L.Nodup∧∀x ∈ L,x ∈ D
theorem len_sub {α:Type} [DecidableEq α]:∀ {L D:List α},L.Nodup→(∀x ∈ L,x ∈ D)→L.length≤D.length
 | [],_,_,_=>Nat.zero_le _
 | x::r,D,hn,hs=>by
  have hn:=List.nodup_cons.1 hn
  have hx:=hs x (by simp)
  have h2:=len_sub (L:=r) (D:=D.erase x) hn.2 (fun y hy=>(List.mem_erase_of_ne (fun e=>hn.1 (by rw [←e];exact hy))).2 (hs y (by simp [hy])))
  rw [List.length_erase_of_mem hx] at h2
  have:=List.length_pos_of_mem hx
  rw [List.length_cons]
  omega
theorem goodL.len {D L:List Nx} (h:goodL D L):L.length≤D.length:=len_sub h.1 h.2
theorem idx_none {x:Nx}:∀ {L:List Nx},idx x L=none→x ∉ L
 | [],_=>by simp
 | y::r,h=>by
  simp only [idx] at h
  split at h
  ·cases h
  ·rename_i e
   rw [Option.map_eq_none_iff] at h
   have:=idx_none h
   simp [e,this]
theorem num_good {D L:List Nx} {x:Nx} (h:goodL D L) (hx:x ∈ D):goodL D (num L x).1:=by
 unfold num
 split
 ·exact h
 ·rename_i hi
  refine ⟨List.nodup_append.2 ⟨h.1,by simp,?_⟩,?_⟩
  ·intro a ha b hb
   simp at hb
   subst hb
   exact fun e=>idx_none hi (e ▸ ha)
  ·intro y hy
   rcases List.mem_append.1 hy with hy | hy
   ·exact h.2 y hy
   ·simp at hy;subst hy;exact hx
theorem addL_good {D:List Nx}:∀(l:List Nx) (s:Ds),goodL D s.1→(∀x ∈ l,x ∈ D)→goodL D (addL s l).1
 | [],s,h,_=>h
 | x::r,s,h,hl=>addL_good r (addD s x) (num_good h (hl x (by simp))) (fun y hy=>hl y (by simp [hy]))
theorem stepI_good {D:List Nx} (hD:Cls D) {sw:Int} {set:W64} {i:Nat} {s:Ds} (h:goodL D s.1):goodL D (stepI sw set i s).1:=by
 unfold stepI
 split
 ·split
  ·rename_i x hx
   exact addL_good _ _ h (hD.clos x (h.2 x (List.mem_of_getElem? hx)) sw)
  ·exact h
 ·exact h
theorem stepN_good {D:List Nx} (hD:Cls D) {sw:Int} {set:W64} {s:Ds} (h:goodL D s.1):∀n,goodL D (stepN sw set n s).1
 | 0=>h
 | n+1=>stepI_good hD (stepN_good hD h n)
attribute [local push_cast] cfg0 encA ones_A objS objP ib_and w_ofInt w_shr bit_eq lenE getV_mapO w_wrap
theorem pc198 {D L:List Nx} {sw:Int} {set:W64} (hD:Cls D) (hL:goodL D L) (hset:∀i,set.getLsbD i=true→i<L.length) :
  GCall Tryz.prog 198 [.ptr 0 0 0,.int .u64 set.toNat,.int .i64 sw] (objP L) (.int .u64 (stepS sw set L).2.toNat) (objP (stepS sw set L).1):=by
 refine GC.cutN tok mixed cfg0 0 Tryz.func198 rfl Tryz.call198 ?_
 simp (maxSteps:=2000000) -implicitDefEqProofs +contextual (disch:=first | assumption | omega | decide +kernel) only [push_cast,↓capI,seval,Nat.reduceLeDiff,Nat.reduceEqDiff,reduceCtorEq,↓reduceIte,BitVec.reduceOfInt,Tryz.ntmps198,cutAt_z,cutAt_s]
 refine cutK.gn (cut_fz (H:=objP L) (l:=[.ptr 0 0 0]) (tm2:=[.ptr 0 0 0,.int .u64 set.toNat,.int .i64 sw,.ptr 3 0 0,.dead,.dead,.int .u64 0,.dead,.dead,.dead,.dead,.dead,.dead,.dead,.dead,.dead,.dead,.dead,.dead,.dead,.dead,.dead,.dead,.dead,.dead,.dead,.dead,.dead,.dead]) (tm':=[.ptr 0 0 0,.int .u64 set.toNat,.int .i64 sw,.fp [.ptr 0 0 0],.dead,.dead,.int .u64 0,.dead,.dead,.dead,.dead,.dead,.dead,.dead,.dead,.dead,.dead,.dead,.dead,.dead,.dead,.dead,.dead,.dead,.dead,.dead,.dead,.dead,.dead]) (by rfl) (by simp [objP]) (bel_objP L) (by simp [wk]) (by simp [fzs,fz,len_objP,Nat.beq]) (by rw [len_objP];simp [bel_clA,bel_As,len_objS])) (cutK.go (cfg:=cfg0) tok mixed ?_)
 simp (maxSteps:=2000000) -implicitDefEqProofs +contextual (disch:=first | assumption | omega | decide +kernel) only [push_cast,↓capI,seval,Nat.reduceLeDiff,Nat.reduceEqDiff,reduceCtorEq,↓reduceIte,BitVec.reduceOfInt]
 refine T.lp tok mixed cfg0 (fun ((i:Nat))=>dd 1 (kp 3 (dd 3 (kp 1 (sv (.int .i64 (i:Int)) (dd 20 (nl))))))) (fun H0 ((i:Nat))=>objS (stepN sw set i (L,0#64))) (fun ((i:Nat))=>i≤64) (fun ((i:Nat))=>64-i) (0) ?_ ?_ ?_
 ·omega
 ·exact Gn.canon (J:=_) (by first | rfl | (simp [List.append_nil];done) | (simp [List.append_nil];rfl)) (by simp [wk,putT,kp,dd,sv,nl]) (by simp [List.length_append,len_objS]) (by simp [bel_clA,bel_As,len_objS,kp,dd,sv,nl]) (by simp [bel_clA,bel_As,len_objS])
 ·intro i hi
  have hg:=stepN_good hD (sw:=sw) (set:=set) (s:=(L,0#64)) hL i
  have hget:=fun k y h=>stepN_get (sw:=sw) (set:=set) (s:=(L,0#64)) (i:=k) (y:=y) h i
  have hnext:stepN sw set (i+1) (L,0#64)=stepI sw set i (stepN sw set i (L,0#64)):=rfl
  have hlast:i=64→stepS sw set L=stepN sw set i (L,0#64):=fun e=>by subst e;rfl
  generalize hs:stepN sw set i (L,0#64)=s at hg hget hnext hlast
  simp only [hs]
  obtain ⟨Li,oi⟩:=s
  rw [objS_eq]
  by_cases hlt:i<64
  ·cases hb:set.getLsbD i with
   | false =>
    have hst:stepI sw set i (Li,oi)=(Li,oi):=by rw [stepI,hb];rfl
    simp (maxSteps:=2000000) -implicitDefEqProofs +contextual (disch:=first | assumption | omega | decide +kernel) only [push_cast,↓capI,seval,Nat.reduceLeDiff,Nat.reduceEqDiff,reduceCtorEq,↓reduceIte,BitVec.reduceOfInt,hlt,hb]
    refine ⟨(i+1),by omega,by (try simp only);omega,?_⟩;exact Gn.canon (by first | rfl | (simp [List.append_nil,hnext,hst,objS_eq];rfl)) (by simp [wk,hnext,hst,objS_eq]) (by simp [List.length_append,len_objS]) (by simp [bel_clA,bel_As,len_objS]) (by simp [bel_clA,bel_As,len_objS])
   | true =>
    have hiL:=hset i hb
    have hx0:=hget i L[i] (List.getElem?_eq_getElem hiL)
    obtain ⟨hiLi,hxi⟩:=List.getElem?_eq_some_iff.1 hx0
    simp only at hiLi hxi
    have hxD:L[i] ∈ D:=hL.2 _ (List.getElem_mem hiL)
    have hdr:=hD.clos _ hxD sw
    have hlen:=hg.len
    have hll:=hD.len
    have hdl:=hD.dl _ hxD sw
    have h50:=pc218 sw L[i] [] (Li,oi) (fun y hy=>hD.hgt y (hg.2 y hy)) (fun y hy=>by
     obtain ⟨d,hd,rfl⟩:=List.mem_map.1 hy
     exact hD.hgt _ (hdr d hd)) (by simp only;simp only at hlen;omega)
    have hmap:(drv sw L[i]).map (ap [])=drv sw L[i]:=by
     rw [show (ap []:Nx→Nx)=id from rfl]
     exact List.map_id _
    rw [hmap] at h50
    have hst:stepI sw set i (Li,oi)=addL (Li,oi) (drv sw L[i]):=by rw [stepI,if_pos hb,hx0]
    rw [←hst] at h50
    generalize hr:stepI sw set i (Li,oi)=r at h50 hnext
    obtain ⟨Lr,or⟩:=r
    rw [objS_eq,objS_eq] at h50
    simp only [cloF,cloC,encA] at h50
    simp (maxSteps:=2000000) -implicitDefEqProofs +contextual (disch:=first | assumption | omega | decide +kernel) only [push_cast,↓capI,seval,Nat.reduceLeDiff,Nat.reduceEqDiff,reduceCtorEq,↓reduceIte,BitVec.reduceOfInt,hlt,hb,hiLi,hxi]
    refine ⟨.tup [],objS (Lr,or),.inl (by simpa [hxi,objS_eq] using h50),?_⟩
    simp (maxSteps:=2000000) -implicitDefEqProofs +contextual (disch:=first | assumption | omega | decide +kernel) only [push_cast,↓capI,seval,Nat.reduceLeDiff,Nat.reduceEqDiff,reduceCtorEq,↓reduceIte,BitVec.reduceOfInt]
    refine ⟨(i+1),by omega,by (try simp only);omega,?_⟩;exact Gn.canon (by first | rfl | (simp [List.append_nil,hnext,objS_eq];rfl)) (by simp [wk,hnext,objS_eq]) (by simp [List.length_append,len_objS]) (by simp [bel_clA,bel_As,len_objS]) (by simp [bel_clA,bel_As,len_objS])
  ·have h64:i=64:=by omega
   rw [hlast h64]
   simp (maxSteps:=2000000) -implicitDefEqProofs +contextual (disch:=first | assumption | omega | decide +kernel) only [push_cast,↓capI,seval,Nat.reduceLeDiff,Nat.reduceEqDiff,reduceCtorEq,↓reduceIte,BitVec.reduceOfInt,hlt]
   refine endG.ret ([_]) (by first | rfl | simp [bel_clA,bel_As,len_objS,fzs_ok,getO,setO,fzs,fz,fzH,Nat.beq,cfg0,encA,ones_A,objS,objP,ib_and,w_ofInt,w_shr,BitVec.reduceOfInt,bit_eq,lenE,getV_mapO,w_wrap,objP]) (by simp) (by simp [bel_clA,bel_As,len_objS,fzs_ok,imp,lenOK_iff,List.take_of_length_le,evRes,getT,getO,setO,fzs,fz,fzH,Nat.beq,retV,Res.then,ldT,ldR,mkV,getV,cfg0,encA,ones_A,objS,objP,ib_and,w_ofInt,w_shr,BitVec.reduceOfInt,bit_eq,lenE,getV_mapO,w_wrap,Tryz.f198,objP]) (by first | rfl | simp [bel_clA,bel_As,len_objS,objP]) (by first | rfl | simp [bel_clA,bel_As,len_objS,objP])
end
section
def accI (set:W64):Nat→List Nx→Bool
 | _,[]=>false
 | i,x::r=>(set.getLsbD i&&nul x)||accI set (i+1) r
def accS (set:W64) (L:List Nx):Bool:=accI set 0 L
attribute [local push_cast] cfg0 encA ones_A ib_and w_ofInt w_shr bit_eq lenE getV_map getV_mapO w_wrap Nat.mul_one
theorem pc199 {L:List Nx} {set:W64} (hl:L.length≤4000000):PC Tryz.prog 199 [.fp [.dead,.sl false (L.map encA) L.length],.int .u64 set.toNat] (.bool (accS set L)):=by
 refine PC.walk tok mixed cfg0 Tryz.func199 rfl Tryz.call199 (by simp [bel_clA,bel_As]) (by first | rfl | simp [bel_clA,bel_As]) ?_;simp (maxSteps:=2000000) -implicitDefEqProofs +contextual (disch:=first | assumption | omega | decide +kernel) only [push_cast,↓capI,seval,Nat.reduceLeDiff,Nat.reduceEqDiff,reduceCtorEq,↓reduceIte,BitVec.reduceOfInt,Tryz.ntmps199]
 refine T.lp tok mixed cfg0 (fun ((i:Nat))=>dd 1 (kp 1 (dd 8 (kp 2 (sv (.int .i64 (i:Int)) (dd 14 (nl))))))) (fun H0 ((i:Nat))=>H0) (fun ((i:Nat))=>i≤L.length∧accI set i (L.drop i)=accS set L) (fun ((i:Nat))=>L.length-i) (0) ?_ ?_ ?_
 ·exact ⟨by omega,rfl⟩
 ·exact Gn.canon (J:=_) (by first | rfl | (simp [List.append_nil];done) | (simp [List.append_nil];rfl)) (by simp [wk,putT,kp,dd,sv,nl]) (by simp [List.length_append]) (by simp [bel_clA,bel_As,kp,dd,sv,nl]) (by simp [bel_clA,bel_As])
 ·intro i hi
  obtain ⟨hi,hacc⟩:=hi
  by_cases hlt:i<L.length
  ·rw [List.drop_eq_getElem_cons hlt,accI] at hacc
   have hn:=pcNul L[i]
   cases hb:set.getLsbD i with
   | false =>
    rw [hb,Bool.false_and,Bool.false_or] at hacc
    simp (maxSteps:=2000000) -implicitDefEqProofs +contextual (disch:=first | assumption | omega | decide +kernel) only [push_cast,↓capI,seval,Nat.reduceLeDiff,Nat.reduceEqDiff,reduceCtorEq,↓reduceIte,BitVec.reduceOfInt,hlt,hb]
    refine ⟨(i+1),⟨by omega,hacc⟩,by (try simp only);omega,?_⟩;exact Gn.canon (by first | rfl | (simp [List.append_nil];rfl)) (by simp [wk]) (by simp [List.length_append]) (by simp [bel_clA,bel_As]) (by simp [bel_clA,bel_As])
   | true =>
    rw [hb,Bool.true_and] at hacc
    cases hnx:nul L[i] with
    | false =>
     rw [hnx,Bool.false_or] at hacc
     rw [hnx] at hn
     simp (maxSteps:=2000000) -implicitDefEqProofs +contextual (disch:=first | assumption | omega | decide +kernel) only [push_cast,↓capI,seval,Nat.reduceLeDiff,Nat.reduceEqDiff,reduceCtorEq,↓reduceIte,BitVec.reduceOfInt,hlt,hb]
     refine callI.of (mtA _) (callO.pc hn ?_)
     simp (maxSteps:=2000000) -implicitDefEqProofs +contextual (disch:=first | assumption | omega | decide +kernel) only [push_cast,↓capI,seval,Nat.reduceLeDiff,Nat.reduceEqDiff,reduceCtorEq,↓reduceIte,BitVec.reduceOfInt]
     refine ⟨(i+1),⟨by omega,hacc⟩,by (try simp only);omega,?_⟩;exact Gn.canon (by first | rfl | (simp [List.append_nil];rfl)) (by simp [wk]) (by simp [List.length_append]) (by simp [bel_clA,bel_As]) (by simp [bel_clA,bel_As])
    | true =>
     rw [hnx,Bool.true_or] at hacc
     rw [hnx] at hn
     simp (maxSteps:=2000000) -implicitDefEqProofs +contextual (disch:=first | assumption | omega | decide +kernel) only [push_cast,↓capI,seval,Nat.reduceLeDiff,Nat.reduceEqDiff,reduceCtorEq,↓reduceIte,BitVec.reduceOfInt,hlt,hb]
     refine callI.of (mtA _) (callO.pc hn ?_)
     simp (maxSteps:=2000000) -implicitDefEqProofs +contextual (disch:=first | assumption | omega | decide +kernel) only [push_cast,↓capI,seval,Nat.reduceLeDiff,Nat.reduceEqDiff,reduceCtorEq,↓reduceIte,BitVec.reduceOfInt]
     refine endK.ret ?_ (by first | rfl | simp [bel_clA,bel_As]);simp [evRes,getT,retV,Tryz.f199,hacc]
  ·have h64:i=L.length:=by omega
   subst h64
   rw [List.drop_eq_nil_of_le (Nat.le_refl _),accI] at hacc
   simp (maxSteps:=2000000) -implicitDefEqProofs +contextual (disch:=first | assumption | omega | decide +kernel) only [push_cast,↓capI,seval,Nat.reduceLeDiff,Nat.reduceEqDiff,reduceCtorEq,↓reduceIte,BitVec.reduceOfInt,hlt]
   refine endK.ret ?_ (by first | rfl | simp [bel_clA,bel_As]);simp [evRes,getT,retV,Tryz.f199,hacc]
end
section
theorem fzs_app {id ver:Nat} {l:List V}:∀ {a b:List V},fzs id ver l (a++b)=fzs id ver l a++fzs id ver l b
 | [],_=>rfl
 | x::a,b=>by rw [List.cons_append,fzs,fzs,List.cons_append,fzs_app]
def slI (l:List Int):V:=.sl false (l.map (V.int .i64)) l.length
def slR (l:List (List Int)):V:=.sl false (l.map slI) l.length
def slB (l:List Bool):V:=.sl false (l.map V.bool) l.length
structure Tb where
 next:List (List Int)
 acc:List Bool
def encT (t:Tb):List V:=[slR t.next,slB t.acc]
@[simp] theorem bel_ints {n:Nat} (l:List Int):belAll n (l.map (V.int .i64))=true:=belAll_map (fun _=>rfl) l
@[simp] theorem bel_bools {n:Nat} (l:List Bool):belAll n (l.map V.bool)=true:=belAll_map (fun _=>rfl) l
@[simp] theorem bel_slI {n:Nat} (l:List Int):(slI l).bel n=true:=by rw [slI,bel_sl];exact bel_ints l
@[simp] theorem bel_rows {n:Nat} (l:List (List Int)):belAll n (l.map slI)=true:=belAll_map (fun x=>bel_slI x) l
@[simp] theorem bel_slR {n:Nat} (l:List (List Int)):(slR l).bel n=true:=by rw [slR,bel_sl];exact bel_rows l
@[simp] theorem bel_slB {n:Nat} (l:List Bool):(slB l).bel n=true:=by rw [slB,bel_sl];exact bel_bools l
@[simp] theorem bel_encT {n:Nat} (t:Tb):belAll n (encT t)=true:=by rw [encT,belAll_cons,belAll_cons,bel_slR,bel_slB];rfl
abbrev u64 (x:W64):V:=.int .u64 x.toNat
@[simp] theorem bel_u64s {n:Nat} (l:List W64):belAll n (l.map u64)=true:=belAll_map (fun _=>rfl) l
theorem ones_ints {g:Bool} {p:Prop}:∀ {xs:List Int},ones g (xs.map (V.int .i64)) p=p
 | []=>rfl
 | x::xs=>by simp only [List.map_cons,ones,V.one];exact ones_ints
theorem ones_bools {g:Bool} {p:Prop}:∀ {xs:List Bool},ones g (xs.map V.bool) p=p
 | []=>rfl
 | x::xs=>by simp only [List.map_cons,ones,V.one];exact ones_bools
def idxW (x:W64):List W64→Option Nat
 | []=>none
 | y::r=>if x=y then some 0 else (idxW x r).map (· + 1)
def enk:Nat→List W64→List (V × V)
 | _,[]=>[]
 | i,x::r=>(u64 x,.int .i64 i)::enk (i+1) r
theorem keyW {x:W64}:keyOK tt 128 (u64 x):=⟨rfl,rfl⟩
theorem veqW {x y:W64}:veq (u64 x) (u64 y)=decide (x=y):=by
 show (kindEq .u64 .u64&&((x.toNat:Int)==(y.toNat:Int)))=decide (x=y)
 rw [w_eqb];rfl
theorem keysW {l:List W64}:∀i,keysOK tt 128 (enk i l):=by
 induction l with
 | nil=>intro i e he;simp [enk] at he
 | cons x r ih =>
  intro i e he
  simp only [enk,List.mem_cons] at he
  rcases he with rfl | he
  ·exact keyW
  ·exact ih (i+1) e he
theorem mHas_enk' {x:W64}:∀(l:List W64) (i:Nat),mHas (u64 x) (enk i l)=(idxW x l).isSome
 | [],_=>rfl
 | y::r,i=>by
  simp only [enk,mHas,veqW,idxW]
  by_cases e:x=y
  ·simp [e]
  ·simp [e,mHas_enk' r (i+1)]
theorem mGet_enk' {x:W64} (z:V):∀(l:List W64) (i:Nat),mGet z (u64 x) (enk i l)=numV i z (idxW x l)
 | [],_=>rfl
 | y::r,i=>by
  simp only [enk,mGet,veqW,idxW]
  by_cases e:x=y
  ·simp [e,numV]
  ·simp only [e,decide_false,mGet_enk' z r (i+1),if_false]
   cases idxW x r<;>simp [numV]
   omega
theorem mPut_enk' {x:W64}:∀(l:List W64) (i:Nat),idxW x l=none→mPut (u64 x) (.int .i64 ((i+l.length:Nat):Int)) (enk i l)=enk i (l++[x])
 | [],_,_=>rfl
 | y::r,i,hi=>by
  simp only [idxW] at hi
  by_cases e:x=y
  ·simp [e] at hi
  ·simp only [e,if_false,Option.map_eq_none_iff] at hi
   have:=mPut_enk' r (i+1) hi
   simp only [enk,mPut,veqW,e,decide_false,List.cons_append,List.length_cons]
   rw [←this,show i+(r.length+1)=i+1+r.length from by omega]
theorem mHas_enk {x:W64} {l:List W64}:mHas (.int .u64 x.toNat) (enk 0 l)=(idxW x l).isSome:=mHas_enk' l 0
theorem mGet_enk {x:W64} {l:List W64} {z:V}:mGet z (.int .u64 x.toNat) (enk 0 l)=numV 0 z (idxW x l):=mGet_enk' z l 0
theorem mPut_enk {x:W64} {l:List W64} (h:idxW x l=none):mPut (.int .u64 x.toNat) (.int .i64 (l.length:Int)) (enk 0 l)=enk 0 (l++[x]):=by
 have:=mPut_enk' l 0 h
 rw [Nat.zero_add] at this
 exact this
theorem bel_enk1 {n:Nat}:∀(l:List W64) (i:Nat),belAll n ((enk i l).map (·.1))=true
 | [],_=>rfl
 | x::r,i=>by rw [enk,List.map_cons,belAll_cons,bel_enk1 r];rfl
theorem bel_enk2 {n:Nat}:∀(l:List W64) (i:Nat),belAll n ((enk i l).map (·.2))=true
 | [],_=>rfl
 | x::r,i=>by rw [enk,List.map_cons,belAll_cons,bel_enk2 r];rfl
@[simp] theorem bel_mapK {n i:Nat} {l:List W64}:(Ob.map (enk i l)).bel n=true:=by simp only [Ob.bel,bel_enk1,bel_enk2];rfl
structure Rs where
 L:List Nx
 sets:List W64
 row:List Int
def rowI (set:W64) (sw:Nat) (s:Rs):Rs :=
 if (stepS sw set s.L).2=0#64 then ⟨(stepS sw set s.L).1,s.sets,s.row++[-1]⟩
 else match idxW (stepS sw set s.L).2 s.sets with
  | some k=>⟨(stepS sw set s.L).1,s.sets,s.row++[(k:Int)]⟩
  | none=>⟨(stepS sw set s.L).1,s.sets++[(stepS sw set s.L).2],s.row++[(s.sets.length:Int)]⟩
def rowN (set:W64) (L:List Nx) (sets:List W64):Nat→Rs
 | 0=>⟨L,sets,[]⟩
 | n+1=>rowI set n (rowN set L sets n)
structure Ds2 where
 L:List Nx
 sets:List W64
 rows:List (List Int)
 accs:List Bool
def detI (m i:Nat) (s:Ds2):Ds2 :=
 match s.sets[i]? with
 | some set=>⟨(rowN set s.L s.sets m).L,(rowN set s.L s.sets m).sets,s.rows++[(rowN set s.L s.sets m).row],s.accs++[accS set (rowN set s.L s.sets m).L]⟩
 | none=>s
def detN (m:Nat) (x:Nx):Nat→Ds2
 | 0=>⟨[x],[1#64],[],[]⟩
 | n+1=>detI m n (detN m x n)
def bitsIn (set:W64) (n:Nat):Prop:=∀i,set.getLsbD i=true→i<n
theorem bitsIn.le {set:W64} {n m:Nat} (h:bitsIn set n) (hm:n≤m):bitsIn set m:=fun i hi=>Nat.lt_of_lt_of_le (h i hi) hm
structure Rok (D:List Nx) (s:Rs):Prop where
 good:goodL D s.L
 bits:∀x ∈ s.sets,bitsIn x s.L.length
 nodup:s.sets.Nodup
theorem num_bits {s:Ds} {x:Nx} (h:bitsIn s.2 s.1.length):bitsIn (addD s x).2 (addD s x).1.length:=by
 intro i hi
 simp only [addD,BitVec.getLsbD_or,Bool.or_eq_true] at hi ⊢
 rcases hi with hi | hi
 ·exact Nat.lt_of_lt_of_le (h i hi) (num_len s.1 x).1
 ·have hk:i=(num s.1 x).2:=by
   simp only [BitVec.getLsbD_shiftLeft,Bool.and_eq_true,decide_eq_true_eq,Bool.not_eq_true',decide_eq_false_iff_not] at hi
   have:=hi.2
   rw [BitVec.getLsbD_one] at this
   simp at this
   omega
  have hn:(num s.1 x).2<(num s.1 x).1.length:=by
   have aux:∀(L:List Nx) (k:Nat),idx x L=some k→k<L.length:=by
    intro L
    induction L with
    | nil=>intro k h;simp [idx] at h
    | cons y r ih =>
     intro k h
     simp only [idx] at h
     split at h
     ·simp at h;subst h;simp
     ·rw [Option.map_eq_some_iff] at h
      obtain ⟨j,hj,rfl⟩:=h
      have:=ih j hj
      simp;omega
   unfold num
   split
   ·rename_i k hk;exact aux _ _ hk
   ·simp
  rw [hk];exact hn
theorem addL_bits:∀(l:List Nx) (s:Ds),bitsIn s.2 s.1.length→bitsIn (addL s l).2 (addL s l).1.length
 | [],_,h=>h
 | x::r,s,h=>addL_bits r (addD s x) (num_bits h)
theorem stepN_bits {sw:Int} {set:W64} {s:Ds} (h:bitsIn s.2 s.1.length):∀n,bitsIn (stepN sw set n s).2 (stepN sw set n s).1.length
 | 0=>h
 | n+1=>by
  rw [stepN,stepI]
  split
  ·split
   ·exact addL_bits _ _ (stepN_bits h n)
   ·exact stepN_bits h n
  ·exact stepN_bits h n
theorem addL_ge (l:List Nx) (s:Ds):s.1.length≤(addL s l).1.length:=by
 induction l generalizing s with
 | nil=>exact Nat.le_refl _
 | cons x r ih=>exact Nat.le_trans (num_len s.1 x).1 (ih (addD s x))
theorem stepN_ge {sw:Int} {set:W64} {s:Ds}:∀n,s.1.length≤(stepN sw set n s).1.length
 | 0=>Nat.le_refl _
 | n+1=>by
  refine Nat.le_trans (stepN_ge (sw:=sw) (set:=set) n) ?_
  rw [stepN,stepI]
  split
  ·split
   ·exact addL_ge _ _
   ·exact Nat.le_refl _
  ·exact Nat.le_refl _
theorem idxW_none {x:W64}:∀ {l:List W64},idxW x l=none→x ∉ l
 | [],_=>by simp
 | y::r,h=>by
  simp only [idxW] at h
  split at h
  ·cases h
  ·rename_i e
   rw [Option.map_eq_none_iff] at h
   have:=idxW_none h
   simp [e,this]
theorem stepS_ok {D:List Nx} (hD:Cls D) {sw:Int} {set:W64} {L:List Nx} (h:goodL D L):goodL D (stepS sw set L).1∧L.length≤(stepS sw set L).1.length∧bitsIn (stepS sw set L).2 (stepS sw set L).1.length :=
 ⟨stepN_good hD (s:=(L,0#64)) h 64,stepN_ge (s:=(L,0#64)) 64,stepN_bits (s:=(L,0#64)) (fun i hi=>by simp at hi) 64⟩
theorem rowI_ok {D:List Nx} (hD:Cls D) {set:W64} {sw:Nat} {s:Rs} (h:Rok D s):Rok D (rowI set sw s)∧s.L.length≤(rowI set sw s).L.length:=by
 obtain ⟨h1,h2,h3⟩:=stepS_ok hD (sw:=sw) (set:=set) h.good
 unfold rowI
 split
 ·exact ⟨⟨h1,fun x hx=>(h.bits x hx).le h2,h.nodup⟩,h2⟩
 ·split
  ·exact ⟨⟨h1,fun x hx=>(h.bits x hx).le h2,h.nodup⟩,h2⟩
  ·rename_i hi
   refine ⟨⟨h1,fun x hx=>?_,List.nodup_append.2 ⟨h.nodup,by simp,?_⟩⟩,h2⟩
   ·rcases List.mem_append.1 hx with hx | hx
    ·exact (h.bits x hx).le h2
    ·simp at hx;subst hx;exact h3
   ·intro a ha b hb
    simp at hb
    subst hb
    exact fun e=>idxW_none hi (e ▸ ha)
theorem rowN_ok {D:List Nx} (hD:Cls D) {set:W64} {L:List Nx} {sets:List W64} (h:Rok D ⟨L,sets,[]⟩):∀n,Rok D (rowN set L sets n)∧L.length≤(rowN set L sets n).L.length
 | 0=>⟨h,Nat.le_refl _⟩
 | n+1=>by
  have h1:=rowN_ok hD h (set:=set) n
  have h2:=rowI_ok hD (set:=set) (sw:=n) h1.1
  exact ⟨h2.1,Nat.le_trans h1.2 h2.2⟩
theorem rowN_len (set:W64) (L:List Nx) (sets:List W64):∀n,(rowN set L sets n).row.length=n
 | 0=>rfl
 | n+1=>by
  have:=rowN_len set L sets n
  simp only [rowN,rowI]
  split
  ·simp [this]
  ·split<;>simp [this]
theorem rowN_sets (set:W64) (L:List Nx) (sets:List W64):∀n,∃r,(rowN set L sets n).sets=sets++r
 | 0=>⟨[],by simp [rowN]⟩
 | n+1=>by
  obtain ⟨r,hr⟩:=rowN_sets set L sets n
  simp only [rowN,rowI]
  split
  ·exact ⟨r,hr⟩
  ·split
   ·exact ⟨r,hr⟩
   ·exact ⟨_,by rw [hr,List.append_assoc]⟩
theorem set_pad {row:List Int} {m j:Nat} {y:Int} (h:row.length=j) (hj:j<m):(row++List.replicate (m-j) (0:Int)).set j y=row++(y::List.replicate (m-(j+1)) 0):=by
 obtain ⟨k,hk⟩:∃k,m-j=k+1:=⟨m-j-1,by omega⟩
 rw [hk,show m-(j+1)=k from by omega,List.replicate_succ,←h]
 simp
theorem put_row1 {row:List Int} {m j:Nat} {y:Int} (h:row.length=j) (hj:j<m):putV ((row++List.replicate (m-j) (0:Int)).map (V.int .i64)) j [.int .i64 y]=(row++(y::List.replicate (m-(j+1)) 0)).map (V.int .i64):=by
 rw [put_map (f:=V.int .i64) _ _ (by rw [List.length_append,List.length_replicate];omega),set_pad h hj]
theorem put_row2 {row t:List Int} {j:Nat} {y z:Int} (h:row.length=j):putV ((row++(z::t)).map (V.int .i64)) j [.int .i64 y]=(row++(y::t)).map (V.int .i64):=by
 rw [put_map (f:=V.int .i64) _ _ (by rw [List.length_append,List.length_cons];omega)]
 congr 1
 subst h
 simp
theorem nat_len {N:Nat} {l:List Nat} (hn:l.Nodup) (h:∀x ∈ l,x<N):l.length≤N:=by
 have:=len_sub (D:=List.range N) hn (fun x hx=>List.mem_range.2 (h x hx))
 rwa [List.length_range] at this
theorem bits_lt {x:W64} {n:Nat} (h:bitsIn x n):x.toNat<2^n:=by
 refine Nat.lt_pow_two_of_testBit _ fun i hi=>?_
 cases hb:x.toNat.testBit i
 ·rfl
 ·have:=h i hb
  omega
theorem map_nodup {α β:Type} {f:α→β} (hf:∀a b,f a=f b→a=b):∀ {l:List α},l.Nodup→(l.map f).Nodup
 | [],_=>by simp
 | x::r,h=>by
  have h:=List.nodup_cons.1 h
  rw [List.map_cons,List.nodup_cons]
  refine ⟨fun hm=>?_,map_nodup hf h.2⟩
  obtain ⟨y,hy,e⟩:=List.mem_map.1 hm
  exact h.1 (hf _ _ e ▸ hy)
theorem Rok.len {D:List Nx} (hD:Cls D) {s:Rs} (h:Rok D s):s.sets.length≤2^30:=by
 have h1:=nat_len (N:=2^30) (l:=s.sets.map BitVec.toNat) (map_nodup (fun a b e=>BitVec.eq_of_toNat_eq e) h.nodup) (fun n hn=>by
  obtain ⟨x,hx,rfl⟩:=List.mem_map.1 hn
  have h2:=bits_lt (h.bits x hx)
  have h3:=h.good.len
  have h4:=hD.len
  exact Nat.lt_of_lt_of_le h2 (Nat.pow_le_pow_right (by omega) (by omega)))
 rwa [List.length_map] at h1
theorem detN_ok {D:List Nx} (hD:Cls D) {x:Nx} (hx:x ∈ D) {m:Nat}:∀n,Rok D ⟨(detN m x n).L,(detN m x n).sets,[]⟩
 | 0=>by
  refine ⟨⟨by simp [detN],fun y hy=>by simp [detN] at hy;subst hy;exact hx⟩,fun y hy=>?_,by simp [detN]⟩
  simp [detN] at hy
  subst hy
  intro i hi
  rw [BitVec.getLsbD_one] at hi
  simp at hi
  subst hi
  simp [detN]
 | n+1=>by
  have ih:=detN_ok hD hx (m:=m) n
  rw [detN,detI]
  split
  ·rename_i set hs
   have h1:=(rowN_ok hD (set:=set) ih m).1
   exact ⟨h1.good,h1.bits,h1.nodup⟩
  ·exact ih
theorem detI_stop {m i:Nat} {s:Ds2} (h:s.sets.length≤i):detI m i s=s:=by
 rw [detI,List.getElem?_eq_none h]
theorem detN_stop {m:Nat} {x:Nx} {i:Nat} (h:(detN m x i).sets.length≤i):∀k,detN m x (i+k)=detN m x i
 | 0=>rfl
 | k+1=>by
  rw [←Nat.add_assoc,detN,detI_stop (by rw [detN_stop h k];omega),detN_stop h k]
theorem detN_at {m:Nat} {x:Nx} {i j:Nat} (h:(detN m x i).sets.length≤i) (hj:i≤j):detN m x j=detN m x i:=by
 have:=detN_stop h (j-i)
 rwa [show i+(j-i)=j from by omega] at this
end
section
def gI (l:List Int) (i:Int):Int:=l.getD i.toNat 0
def gB (l:List Bool) (i:Int):Bool:=l.getD i.toNat false
structure okT (n m:Nat) (t:Tb):Prop where
 rows:t.next.length=n
 accs:t.acc.length=n
 row:∀r ∈ t.next,r.length=m
 rng:∀r ∈ t.next,∀x ∈ r,-1≤x∧x<(n:Int)
 pos:0<n
 big:n≤2^30
 cols:m≤16
 col1:0<m
def toL (out:List Bool) (row:List Int):Bool:=row.any fun x=>decide (0≤x)&&gB out x
def liveI (t:Tb) (q:Nat) (s:List Bool × Bool):List Bool × Bool :=
 if s.1.getD q false=false∧toL s.1 (t.next.getD q [])=true then (s.1.set q true,true) else s
def liveN (t:Tb) (o:List Bool):Nat→List Bool × Bool
 | 0=>(o,false)
 | n+1=>liveI t n (liveN t o n)
def pass (t:Tb) (o:List Bool):List Bool × Bool:=liveN t o t.next.length
def liveF (t:Tb):Nat→List Bool→List Bool
 | 0,o=>o
 | k+1,o=>if (pass t o).2=true then liveF t k (pass t o).1 else (pass t o).1
def cntF:List Bool→Nat
 | []=>0
 | b::r=>(if b then 0 else 1)+cntF r
def liveS (t:Tb):List Bool:=liveF t (cntF t.acc+1) t.acc
theorem cntF_set:∀ {o:List Bool} {q:Nat},q<o.length→o.getD q false=false→cntF (o.set q true)+1=cntF o
 | [],q,h,_=>by simp at h
 | b::r,0,_,h=>by
  simp at h
  subst h
  simp [cntF]
  omega
 | b::r,q+1,h,h2=>by
  have:=cntF_set (o:=r) (q:=q) (by simpa using h) (by simpa using h2)
  simp only [List.set_cons_succ,cntF]
  omega
theorem liveN_len (t:Tb) (o:List Bool):∀n,(liveN t o n).1.length=o.length
 | 0=>rfl
 | n+1=>by
  rw [liveN,liveI]
  split
  ·rw [List.length_set,liveN_len t o n]
  ·exact liveN_len t o n
theorem liveN_cnt (t:Tb) (o:List Bool) (hl:t.next.length≤o.length):∀n,n≤t.next.length→cntF (liveN t o n).1≤cntF o∧((liveN t o n).2=true→cntF (liveN t o n).1<cntF o)
 | 0,_=>⟨Nat.le_refl _,fun h=>by simp [liveN] at h⟩
 | n+1,hn=>by
  have ih:=liveN_cnt t o hl n (by omega)
  rw [liveN,liveI]
  split
  ·rename_i h
   have:=cntF_set (o:=(liveN t o n).1) (q:=n) (by rw [liveN_len];omega) h.1
   exact ⟨by simp only;omega,fun _=>by simp only;omega⟩
  ·exact ih
theorem liveF_any (t:Tb):∀(k:Nat) (o:List Bool),t.next.length≤o.length→cntF o<k→∀k',cntF o<k'→liveF t k o=liveF t k' o:=by
 intro k
 induction k with
 | zero=>intro o _ h;omega
 | succ k ih =>
  intro o hl hk k' hk'
  cases k' with
  | zero=>omega
  | succ k' =>
   have hc:=liveN_cnt t o hl t.next.length (Nat.le_refl _)
   have hlen:=liveN_len t o t.next.length
   rw [liveF,liveF]
   split
   ·rename_i h
    have h2:=hc.2 h
    exact ih (pass t o).1 (by rw [pass,hlen];exact hl) (by rw [pass];omega) k' (by rw [pass];omega)
   ·rfl
theorem liveF_step (t:Tb) {k:Nat} {o:List Bool} (hl:t.next.length≤o.length) (hk:cntF o<k) :
  ((pass t o).2=true→cntF (pass t o).1<cntF o∧liveF t (cntF o) (pass t o).1=liveF t k o)∧((pass t o).2=false→(pass t o).1=liveF t k o):=by
 cases k with
 | zero=>omega
 | succ k =>
  have hc:=liveN_cnt t o hl t.next.length (Nat.le_refl _)
  have hlen:=liveN_len t o t.next.length
  rw [liveF]
  refine ⟨fun h=>?_,fun h=>?_⟩
  ·rw [if_pos h]
   have h2:=hc.2 h
   exact ⟨h2,liveF_any t _ _ (by rw [pass,hlen];exact hl) (by rw [pass];omega) _ (by rw [pass];omega)⟩
  ·rw [if_neg (by rw [h];decide)]
theorem pass_len (t:Tb) (o:List Bool):(pass t o).1.length=o.length:=liveN_len t o _
theorem liveF_len (t:Tb):∀k o,(liveF t k o).length=o.length
 | 0,_=>rfl
 | k+1,o=>by
  rw [liveF]
  split
  ·rw [liveF_len,pass_len]
  ·exact pass_len t o
theorem liveS_len (t:Tb):(liveS t).length=t.acc.length:=liveF_len t _ _
def cls0 (t:Tb):List Int:=(List.range t.next.length).map fun q=>if (liveS t).getD q false=false then -1 else if t.acc.getD q false=true then 1 else 0
def sigO (cls row:List Int) (q:Nat):List Int:=cls.getD q 0::row.map fun x=>if 0≤x then gI cls x else -1
def idxL (x:List Int):List (List Int)→Option Nat
 | []=>none
 | y::r=>if x=y then some 0 else (idxL x r).map (· + 1)
def refI (t:Tb) (cls:List Int) (q:Nat) (s:List Int × List (List Int)):List Int × List (List Int) :=
 if cls.getD q 0<0 then (s.1++[-1],s.2)
 else match idxL (sigO cls (t.next.getD q []) q) s.2 with
  | some k=>(s.1++[(k:Int)],s.2)
  | none=>(s.1++[(s.2.length:Int)],s.2++[sigO cls (t.next.getD q []) q])
def refN (t:Tb) (cls:List Int):Nat→List Int × List (List Int)
 | 0=>([],[])
 | n+1=>refI t cls n (refN t cls n)
def ref (t:Tb) (cls:List Int):List Int × List (List Int):=refN t cls t.next.length
def parF (t:Tb):Nat→List Int→Nat→List Int
 | 0,c,_=>c
 | k+1,c,cnt=>if (ref t c).2.length=cnt then (ref t c).1 else parF t k (ref t c).1 (ref t c).2.length
def parS (t:Tb):List Int:=parF t (t.next.length+2) (cls0 t) 0
theorem refN_len (t:Tb) (cls:List Int):∀n,(refN t cls n).1.length=n
 | 0=>rfl
 | n+1=>by
  have:=refN_len t cls n
  rw [refN,refI]
  split
  ·simp [this]
  ·split<;>simp [this]
theorem idxL_none {x:List Int}:∀ {l:List (List Int)},idxL x l=none→x ∉ l
 | [],_=>by simp
 | y::r,h=>by
  simp only [idxL] at h
  split at h
  ·cases h
  ·rename_i e
   rw [Option.map_eq_none_iff] at h
   have:=idxL_none h
   simp [e,this]
theorem idxL_some {x:List Int}:∀ {l:List (List Int)} {k:Nat},idxL x l=some k→l[k]? = some x
 | [],k,h=>by simp [idxL] at h
 | y::r,k,h=>by
  simp only [idxL] at h
  split at h
  ·rename_i e;cases h;simp [e]
  ·rw [Option.map_eq_some_iff] at h
   obtain ⟨j,hj,rfl⟩:=h
   simpa using idxL_some hj
structure Cok (cls:List Int) (n:Nat) (s:List Int × List (List Int)):Prop where
 len:s.1.length=n
 nodup:s.2.Nodup
 rng:∀x ∈ s.1,-1≤x∧x<(s.2.length:Int)
 met:∀k,k<s.2.length→((k:Nat):Int) ∈ s.1
 sg:s.2.length≤n
theorem refN_ok (t:Tb) (cls:List Int):∀n,Cok cls n (refN t cls n)
 | 0=>⟨rfl,by simp [refN],fun x hx=>by simp [refN] at hx,fun k hk=>by simp [refN] at hk,Nat.le_refl _⟩
 | n+1=>by
  have ih:=refN_ok t cls n
  have hl:=refN_len t cls (n+1)
  rw [refN] at hl ⊢
  rw [refI] at hl ⊢
  split
  ·refine ⟨by simp [ih.len],ih.nodup,fun x hx=>?_,fun k hk=>List.mem_append.2 (.inl (ih.met k hk)),Nat.le_succ_of_le ih.sg⟩
   rcases List.mem_append.1 hx with hx | hx
   ·exact ih.rng x hx
   ·simp at hx;subst hx;omega
  ·split
   ·rename_i k hk
    have hk:=(List.getElem?_eq_some_iff.1 (idxL_some hk)).1
    refine ⟨by simp [ih.len],ih.nodup,fun x hx=>?_,fun k hk=>List.mem_append.2 (.inl (ih.met k hk)),Nat.le_succ_of_le ih.sg⟩
    rcases List.mem_append.1 hx with hx | hx
    ·exact ih.rng x hx
    ·simp at hx;subst hx;simp only;omega
   ·rename_i hk
    refine ⟨by simp [ih.len],List.nodup_append.2 ⟨ih.nodup,by simp,?_⟩,fun x hx=>?_,fun k hk=>?_,by simp;exact ih.sg⟩
    ·intro a ha b hb
     simp at hb
     subst hb
     exact fun e=>idxL_none hk (e ▸ ha)
    ·rcases List.mem_append.1 hx with hx | hx
     ·have:=ih.rng x hx
      simp only [List.length_append,List.length_singleton]
      omega
     ·simp at hx;subst hx;simp only [List.length_append,List.length_singleton];omega
    ·simp only [List.length_append,List.length_singleton] at hk
     by_cases h:k<(refN t cls n).2.length
     ·exact List.mem_append.2 (.inl (ih.met k h))
     ·exact List.mem_append.2 (.inr (by simp;omega))
theorem ref_len (t:Tb) (cls:List Int):(ref t cls).1.length=t.next.length:=refN_len t cls _
theorem ref_le (t:Tb) (cls:List Int):(ref t cls).2.length≤t.next.length:=(refN_ok t cls _).sg
theorem refN_sig (t:Tb) (cls:List Int):∀n q,q<n→¬cls.getD q 0<0→sigO cls (t.next.getD q []) q ∈ (refN t cls n).2
 | 0,q,h,_=>by omega
 | n+1,q,h,hc=>by
  rw [refN,refI]
  by_cases hq:q=n
  ·subst hq
   rw [if_neg hc]
   split
   ·rename_i k hk;exact List.mem_of_getElem? (idxL_some hk)
   ·simp
  ·have ih:=refN_sig t cls n q (by omega) hc
   split
   ·exact ih
   ·split
    ·exact ih
    ·exact List.mem_append.2 (.inl ih)
theorem ref_ge (t:Tb) (cls:List Int) (hl:cls.length=t.next.length) {cnt:Nat} (h:∀k,k<cnt→((k:Nat):Int) ∈ cls):cnt≤(ref t cls).2.length:=by
 have:=len_sub (L:=(List.range cnt).map fun (k:Nat)=>(k:Int)) (D:=(ref t cls).2.map fun s=>s.headD 0) (map_nodup (fun a b e=>by omega) List.nodup_range) (fun x hx=>by
  obtain ⟨k,hk,rfl⟩:=List.mem_map.1 hx
  rw [List.mem_range] at hk
  obtain ⟨q,hq,e⟩:=List.getElem_of_mem (h k hk)
  have hg:cls.getD q 0=(k:Int):=by rw [List.getD_eq_getElem?_getD,List.getElem?_eq_getElem hq];exact e
  have:=refN_sig t cls t.next.length q (by omega) (by rw [hg];omega)
  refine List.mem_map.2 ⟨_,this,?_⟩
  rw [sigO,hg];rfl)
 simpa using this
theorem parF_any (t:Tb):∀(k:Nat) (c:List Int) (cnt:Nat),c.length=t.next.length→(∀j,j<cnt→((j:Nat):Int) ∈ c)→t.next.length+1≤k+cnt→∀k',t.next.length+1≤k'+cnt→0<k→0<k'→parF t k c cnt=parF t k' c cnt:=by
 intro k
 induction k with
 | zero=>intro c cnt _ _ _ k' _ h;omega
 | succ k ih =>
  intro c cnt hl hm hk k' hk' _ h0'
  cases k' with
  | zero=>omega
  | succ k' =>
   rw [parF,parF]
   split
   ·rfl
   ·rename_i hne
    have h1:=ref_ge t c hl hm
    have h2:=ref_le t c
    have hok:=refN_ok t c t.next.length
    exact ih (ref t c).1 (ref t c).2.length (ref_len t c) hok.met (by omega) k' (by omega) (by omega) (by omega)
end
section
end
section
def suc (t:Tb) (q s:Int):Int:=if q<0∨s<0∨((t.next.getD q.toNat []).length:Int)≤s then -1 else gI (t.next.getD q.toNat []) s
def runA (t:Tb) (q:Int) (l:List Int):Int:=l.foldl (suc t) q
def accq (t:Tb) (q:Int):Bool:=decide (0≤q)&&gB t.acc q
theorem suc_rng {n m:Nat} {t:Tb} (ht:okT n m t) {q s:Int} (hq : -1≤q∧q<(n:Int)) : -1≤suc t q s∧suc t q s<(n:Int):=by
 unfold suc
 split
 ·have:=ht.pos;omega
 ·rename_i h
  have hl:=ht.rows
  have hqn:q.toNat<t.next.length:=by omega
  have hg:t.next.getD q.toNat []=t.next[q.toNat]:=lgetD hqn
  rw [hg] at h ⊢
  have hs:s.toNat<t.next[q.toNat].length:=by omega
  have hgs:gI t.next[q.toNat] s=t.next[q.toNat][s.toNat]:=lgetD hs
  rw [hgs]
  exact ht.rng _ (List.getElem_mem hqn) _ (List.getElem_mem hs)
end
end Go.Proofs.YtlbmbbaefncleaaGreatDoor.Px

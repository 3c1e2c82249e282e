/-
  Joined by a program from the texts Wds Rnp Fst R12 Fmg P13.
-/
import Derived.Test.YtlbmbbaefncleaaGreatDoorRb
import Derived.Test.YtlbmbbaefncleaaGreatDoorRg
import Derived.Test.YtlbmbbaefncleaaGreatDoorRe
import Derived.Test.YtlbmbbaefncleaaGreatDoorRi
import Derived.Test.YtlbmbbaefncleaaGreatDoorRh
set_option maxRecDepth 100000
set_option maxHeartbeats 4000000
set_option linter.all false
namespace Go.Proofs.YtlbmbbaefncleaaGreatDoor
open Go.Vm
theorem getD_u8 {s:List UInt8} {i:Nat} (h:i<s.length):s.getD i 0=s[i]:=by rw [List.getD_eq_getElem?_getD,List.getElem?_eq_getElem h];rfl
theorem u8_ne {a b:UInt8} (h:¬a=b):¬((a.toNat:Nat):Int)=((b.toNat:Nat):Int):=fun e=>h (UInt8.toNat_inj.1 (by omega))
attribute [local push_cast] cfg0 Nat.mul_one List.length_map
theorem pc85 (s:List UInt8) (hs:s.length≤20000):PC Tryz.prog 85 [.str s] (.sl false ((spl s).map V.str) (spl s).length):=by
 have hcnt:∀(s u:List UInt8),(splA u s).length≤s.length+1:=by
  intro s
  induction s with
  | nil=>intro u;simp [splA]
  | cons c s ih =>
   intro u
   rw [splA]
   split
   ·have:=ih [];simp only [List.length_cons];omega
   ·have:=ih (u++[c]);simp only [List.length_cons];omega
 refine PC.walk tok mixed cfg0 Tryz.func85 rfl Tryz.call85 (by simp [belAll_append]) (by first | rfl | simp [belAll_append]) ?_;refine vms1 Tryz.ntmps85 ?_
 refine T.lp tok mixed cfg0 (fun ((W,a,i,ver):List (List UInt8) × Nat × Nat × Nat)=>kp 1 (dd 2 (sv (.buf 0 ver 0 W.length 1) (sv (.int .i64 a) (sv (.int .i64 i) (dd 26 (nl))))))) (fun H0 ((W,a,i,ver):List (List UInt8) × Nat × Nat × Nat)=>[.cells ver (W.map V.str)]) (fun ((W,a,i,ver):List (List UInt8) × Nat × Nat × Nat)=>a≤i∧((i≤s.length∧spl s=W++splA ((s.drop a).take (i-a)) (s.drop i))∨(i=s.length+1∧spl s=W))) (fun ((W,a,i,ver):List (List UInt8) × Nat × Nat × Nat)=>s.length+1-i) (([],0,0,0)) ?_ ?_ ?_
 ·exact ⟨Nat.le_refl _,.inl ⟨Nat.zero_le _,by simp [splA_nil]⟩⟩
 ·refine (Gn.ownNil (t:=3) (sz:=1) rfl).trans ?_
  exact Gn.canon (J:=[]) (by first | rfl | (simp [List.append_nil];done) | (simp [List.append_nil];rfl)) (by simp [wk,putT,kp,dd,sv,nl]) (by simp [List.length_append]) (by simp [belAll_append,kp,dd,sv,nl]) (by simp [belAll_append])
 rintro ⟨W,a,i,ver⟩ ⟨hai,hc⟩
 (try simp only at hai hc)
 have hWl:W.length≤20001:=by
  have h1:=hcnt s []
  rw [splA_nil] at h1
  rcases hc with ⟨_,h⟩ | ⟨_,h⟩
  ·rw [h,List.length_append] at h1;omega
  ·rw [h] at h1;omega
 rcases hc with ⟨hi,hw⟩ | ⟨hi,hw⟩
 case inr =>
  subst hi
  rw [hw]
  have hn:¬((s.length+1:Nat):Int)≤(s.length:Int):=by omega
  refine vms1 hn ?_
  refine endK.gn (Gn.freeze (id:=0) rfl) ?_;refine endK.ret ?_ (by first | rfl | simp [belAll_append]);simp [belAll_append,fzs_ok,imp,lenOK_iff,List.take_of_length_le,evRes,getT,getO,setO,fzs,fz,fzH,Nat.beq,retV,Res.then,ldT,ldR,mkV,getV,tt_3,tt_5,tt_9,tt_78,cfg0,Nat.mul_one,List.length_map,Tryz.f85,List.take_of_length_le]
 by_cases hlt:i<s.length
 ·have hne:¬i=s.length:=by omega
  have hg:=getD_u8 hlt
  have hd:s.drop i=s[i]::s.drop (i+1):=List.drop_eq_getElem_cons hlt
  rw [hd,splA] at hw
  by_cases h32:s[i]=32
  ·rw [if_pos h32] at hw
   have h32n:((s[i].toNat:Nat):Int)=32:=by rw [h32];rfl
   refine vms3 hne hg h32n ?_
   refine ⟨(W++[(s.drop a).take (i-a)],i+1,i+1,ver+1),⟨Nat.le_refl _,.inl ⟨by (try simp only);omega,by rw [hw];simp⟩⟩,by simp only;omega,?_⟩
   exact Gn.canon (by first | rfl | (simp [List.append_nil];done) | (simp [List.append_nil];rfl)) (by simp [wk]) (by simp [List.length_append]) (by simp [belAll_append]) (by simp [belAll_append])
  ·rw [if_neg h32] at hw
   have h32n:¬((s[i].toNat:Nat):Int)=32:=u8_ne (b:=32) h32
   have he:(s.drop a).take (i+1-a)=(s.drop a).take (i-a)++[s[i]]:=by
    rw [show i+1-a=(i-a)+1 by omega,List.take_add_one,List.getElem?_drop,show a+(i-a)=i by omega,List.getElem?_eq_getElem hlt]
    rfl
   refine vms3 hne hg h32n ?_
   refine ⟨(W,a,i+1,ver),⟨by (try simp only);omega,.inl ⟨by (try simp only);omega,by rw [hw,he]⟩⟩,by (try simp only);omega,?_⟩;exact Gn.canon (by first | rfl | (simp [List.append_nil];rfl)) (by simp [wk]) (by simp [List.length_append]) (by simp [belAll_append]) (by simp [belAll_append])
 ·have hie:i=s.length:=by omega
  subst hie
  rw [List.drop_length,splA] at hw
  refine vms0 ?_
  refine ⟨(W++[(s.drop a).take (s.length-a)],s.length+1,s.length+1,ver+1),⟨Nat.le_refl _,.inr ⟨rfl,hw⟩⟩,by simp only;omega,?_⟩
  exact Gn.canon (by first | rfl | (simp [List.append_nil];done) | (simp [List.append_nil];rfl)) (by simp [wk]) (by simp [List.length_append]) (by simp [belAll_append]) (by simp [belAll_append])
end Go.Proofs.YtlbmbbaefncleaaGreatDoor
namespace Go.Proofs.YtlbmbbaefncleaaGreatDoor.Px
open Go.Vm
def fmtI (n:Int):List UInt8:=if 0≤n then dgs 9 n.toNat else 45::dgs 9 (-n).toNat
attribute [local push_cast] cfg0 take_rest ibeq_dec encDR
theorem fmtR1 (n:Int) (m:Nat) (hm:n=-(m:Int)) (h0:¬(0:Int)≤n) (h1:m<1000000000):PC Tryz.prog 45 [.int .i64 n] (.str (45::dgs 9 m)):=by
 have e1:IntKind.i64.wrap (n+1)=n+1:=IntWalk.i64_in _ ⟨by omega,by omega⟩
 have e2:IntKind.i64.wrap (0-(n+1))=0-(n+1):=IntWalk.i64_in _ ⟨by omega,by omega⟩
 have e3:IntKind.u64.wrap (0-(n+1))=0-(n+1):=IntWalk.u64_in _ ⟨by omega,by omega⟩
 have e4:(0:Int)-(n+1)+1=(m:Int):=by omega
 have hl:=dgs_len 9 m
 refine PC.walk tok mixed cfg0 Tryz.func45 rfl Tryz.call45 (by simp) (by first | rfl | simp) ?_;simp (maxSteps:=2000000) -implicitDefEqProofs +contextual (disch:=first | assumption | omega | decide +kernel) only [push_cast,↓capI,seval,Nat.reduceLeDiff,Nat.reduceEqDiff,reduceCtorEq,↓reduceIte,Tryz.ntmps45]
 rw [e4]
 refine callO.pc (pc64g 9 m (by omega) (by decide) (by decide)) ?_
 simp (maxSteps:=2000000) -implicitDefEqProofs +contextual (disch:=first | assumption | omega | decide +kernel) only [push_cast,↓capI,seval,Nat.reduceLeDiff,Nat.reduceEqDiff,reduceCtorEq,↓reduceIte]
 refine endK.retA ?_;simp [evRes,getT,retV,Tryz.f45]
theorem fmtR (n:Int) (h1 : -1000000000<n) (h2:n<1000000000):PC Tryz.prog 45 [.int .i64 n] (.str (fmtI n)):=by
 unfold fmtI
 split
 ·rename_i h
  obtain ⟨m,rfl⟩:=Int.eq_ofNat_of_zero_le h
  rw [Int.toNat_natCast]
  exact pc50g m (by omega)
 ·exact fmtR1 n _ (by omega) (by assumption) (by omega)
def refP (s:List UInt8):Int × Bool :=
 if s.head? = some 45 then (if (decR (s.drop 1)).2=true∧fmtI (-((decR (s.drop 1)).1:Int))=s then (-((decR (s.drop 1)).1:Int),true) else (0,false))
 else (if (decR s).2=true∧fmtI ((decR s).1:Int)=s then (((decR s).1:Int),true) else (0,false))
theorem decR_lt (s:List UInt8):(decR s).1<1000000000:=by
 unfold decR
 split
 ·decide
 ·split
  ·rename_i h _ v hv
   have:=valL_lt hv
   have hp:10^s.length≤10^9:=Nat.pow_le_pow_right (by omega) (by omega)
   simp only
   omega
  ·decide
theorem rdR0 (s:List UInt8) (hs:s.length≤4000000000) (hd:∀h:0<s.length,¬((s.getD 0 0).toNat:Int)=45) :
  PC Tryz.prog 86 [.str s] (encIB (if (decR s).2=true∧fmtI ((decR s).1:Int)=s then (((decR s).1:Int),true) else (0,false))):=by
 have h75:=pc135 s hs
 have hl:=decR_lt s
 generalize hr:decR s=r at h75 hl ⊢
 obtain ⟨v,b⟩:=r
 simp only at hl ⊢
 have h56:=fmtR (v:Int) (by omega) (by omega)
 cases b
 ·rw [if_neg (by simp)]
  by_cases h0:0<s.length
  ·have h45:=hd h0
   refine PC.walk tok mixed cfg0 Tryz.func86 rfl Tryz.call86 (by simp) (by first | rfl | simp) ?_;simp (maxSteps:=2000000) -implicitDefEqProofs +contextual (disch:=first | assumption | omega | decide +kernel) only [push_cast,↓capI,seval,Nat.reduceLeDiff,Nat.reduceEqDiff,reduceCtorEq,↓reduceIte,Tryz.ntmps86]
   (try simp (maxSteps:=2000000) -implicitDefEqProofs +contextual (disch:=first | assumption | omega | decide +kernel) only [push_cast,↓capI,seval,Nat.reduceLeDiff,Nat.reduceEqDiff,reduceCtorEq,↓reduceIte,h0,h45])
   refine callO.pc h75 ?_
   simp (maxSteps:=2000000) -implicitDefEqProofs +contextual (disch:=first | assumption | omega | decide +kernel) only [push_cast,↓capI,seval,Nat.reduceLeDiff,Nat.reduceEqDiff,reduceCtorEq,↓reduceIte]
   refine endK.retA ?_;simp [evRes,getT,retV,Tryz.f86,encIB]
  ·refine PC.walk tok mixed cfg0 Tryz.func86 rfl Tryz.call86 (by simp) (by first | rfl | simp) ?_;simp (maxSteps:=2000000) -implicitDefEqProofs +contextual (disch:=first | assumption | omega | decide +kernel) only [push_cast,↓capI,seval,Nat.reduceLeDiff,Nat.reduceEqDiff,reduceCtorEq,↓reduceIte,Tryz.ntmps86]
   (try simp (maxSteps:=2000000) -implicitDefEqProofs +contextual (disch:=first | assumption | omega | decide +kernel) only [push_cast,↓capI,seval,Nat.reduceLeDiff,Nat.reduceEqDiff,reduceCtorEq,↓reduceIte,h0])
   refine callO.pc h75 ?_
   simp (maxSteps:=2000000) -implicitDefEqProofs +contextual (disch:=first | assumption | omega | decide +kernel) only [push_cast,↓capI,seval,Nat.reduceLeDiff,Nat.reduceEqDiff,reduceCtorEq,↓reduceIte]
   refine endK.retA ?_;simp [evRes,getT,retV,Tryz.f86,encIB]
 ·by_cases he:fmtI (v:Int)=s
  ·rw [if_pos ⟨rfl,he⟩]
   by_cases h0:0<s.length
   ·have h45:=hd h0
    refine PC.walk tok mixed cfg0 Tryz.func86 rfl Tryz.call86 (by simp) (by first | rfl | simp) ?_;simp (maxSteps:=2000000) -implicitDefEqProofs +contextual (disch:=first | assumption | omega | decide +kernel) only [push_cast,↓capI,seval,Nat.reduceLeDiff,Nat.reduceEqDiff,reduceCtorEq,↓reduceIte,Tryz.ntmps86]
    (try simp (maxSteps:=2000000) -implicitDefEqProofs +contextual (disch:=first | assumption | omega | decide +kernel) only [push_cast,↓capI,seval,Nat.reduceLeDiff,Nat.reduceEqDiff,reduceCtorEq,↓reduceIte,h0,h45])
    refine callO.pc h75 ?_
    simp (maxSteps:=2000000) -implicitDefEqProofs +contextual (disch:=first | assumption | omega | decide +kernel) only [push_cast,↓capI,seval,Nat.reduceLeDiff,Nat.reduceEqDiff,reduceCtorEq,↓reduceIte]
    refine callO.pc h56 ?_
    simp (maxSteps:=2000000) -implicitDefEqProofs +contextual (disch:=first | assumption | omega | decide +kernel) only [push_cast,↓capI,seval,Nat.reduceLeDiff,Nat.reduceEqDiff,reduceCtorEq,↓reduceIte,he]
    refine endK.retA ?_;simp [evRes,getT,retV,Tryz.f86,encIB]
   ·refine PC.walk tok mixed cfg0 Tryz.func86 rfl Tryz.call86 (by simp) (by first | rfl | simp) ?_;simp (maxSteps:=2000000) -implicitDefEqProofs +contextual (disch:=first | assumption | omega | decide +kernel) only [push_cast,↓capI,seval,Nat.reduceLeDiff,Nat.reduceEqDiff,reduceCtorEq,↓reduceIte,Tryz.ntmps86]
    (try simp (maxSteps:=2000000) -implicitDefEqProofs +contextual (disch:=first | assumption | omega | decide +kernel) only [push_cast,↓capI,seval,Nat.reduceLeDiff,Nat.reduceEqDiff,reduceCtorEq,↓reduceIte,h0])
    refine callO.pc h75 ?_
    simp (maxSteps:=2000000) -implicitDefEqProofs +contextual (disch:=first | assumption | omega | decide +kernel) only [push_cast,↓capI,seval,Nat.reduceLeDiff,Nat.reduceEqDiff,reduceCtorEq,↓reduceIte]
    refine callO.pc h56 ?_
    simp (maxSteps:=2000000) -implicitDefEqProofs +contextual (disch:=first | assumption | omega | decide +kernel) only [push_cast,↓capI,seval,Nat.reduceLeDiff,Nat.reduceEqDiff,reduceCtorEq,↓reduceIte,he]
    refine endK.retA ?_;simp [evRes,getT,retV,Tryz.f86,encIB]
  ·rw [if_neg (fun h=>he h.2)]
   by_cases h0:0<s.length
   ·have h45:=hd h0
    refine PC.walk tok mixed cfg0 Tryz.func86 rfl Tryz.call86 (by simp) (by first | rfl | simp) ?_;simp (maxSteps:=2000000) -implicitDefEqProofs +contextual (disch:=first | assumption | omega | decide +kernel) only [push_cast,↓capI,seval,Nat.reduceLeDiff,Nat.reduceEqDiff,reduceCtorEq,↓reduceIte,Tryz.ntmps86]
    (try simp (maxSteps:=2000000) -implicitDefEqProofs +contextual (disch:=first | assumption | omega | decide +kernel) only [push_cast,↓capI,seval,Nat.reduceLeDiff,Nat.reduceEqDiff,reduceCtorEq,↓reduceIte,h0,h45])
    refine callO.pc h75 ?_
    simp (maxSteps:=2000000) -implicitDefEqProofs +contextual (disch:=first | assumption | omega | decide +kernel) only [push_cast,↓capI,seval,Nat.reduceLeDiff,Nat.reduceEqDiff,reduceCtorEq,↓reduceIte]
    refine callO.pc h56 ?_
    simp (maxSteps:=2000000) -implicitDefEqProofs +contextual (disch:=first | assumption | omega | decide +kernel) only [push_cast,↓capI,seval,Nat.reduceLeDiff,Nat.reduceEqDiff,reduceCtorEq,↓reduceIte,he]
    refine endK.retA ?_;simp [evRes,getT,retV,Tryz.f86,encIB]
   ·refine PC.walk tok mixed cfg0 Tryz.func86 rfl Tryz.call86 (by simp) (by first | rfl | simp) ?_;simp (maxSteps:=2000000) -implicitDefEqProofs +contextual (disch:=first | assumption | omega | decide +kernel) only [push_cast,↓capI,seval,Nat.reduceLeDiff,Nat.reduceEqDiff,reduceCtorEq,↓reduceIte,Tryz.ntmps86]
    (try simp (maxSteps:=2000000) -implicitDefEqProofs +contextual (disch:=first | assumption | omega | decide +kernel) only [push_cast,↓capI,seval,Nat.reduceLeDiff,Nat.reduceEqDiff,reduceCtorEq,↓reduceIte,h0])
    refine callO.pc h75 ?_
    simp (maxSteps:=2000000) -implicitDefEqProofs +contextual (disch:=first | assumption | omega | decide +kernel) only [push_cast,↓capI,seval,Nat.reduceLeDiff,Nat.reduceEqDiff,reduceCtorEq,↓reduceIte]
    refine callO.pc h56 ?_
    simp (maxSteps:=2000000) -implicitDefEqProofs +contextual (disch:=first | assumption | omega | decide +kernel) only [push_cast,↓capI,seval,Nat.reduceLeDiff,Nat.reduceEqDiff,reduceCtorEq,↓reduceIte,he]
    refine endK.retA ?_;simp [evRes,getT,retV,Tryz.f86,encIB]
theorem rdR1 (d:List UInt8) (hs:(45::d).length≤4000000000) :
  PC Tryz.prog 86 [.str (45::d)] (encIB (if (decR d).2=true∧fmtI (-((decR d).1:Int))=45::d then (-((decR d).1:Int),true) else (0,false))):=by
 have hs1:d.length≤4000000000:=by rw [List.length_cons] at hs;omega
 have h75:=pc135 d hs1
 have hl:=decR_lt d
 generalize hr:decR d=r at h75 hl ⊢
 obtain ⟨v,b⟩:=r
 simp only at hl ⊢
 have h56:=fmtR (-(v:Int)) (by omega) (by omega)
 have h0:0<(45::d).length:=by simp
 have h45:((((45:UInt8)::d).getD 0 0).toNat:Int)=45:=by rfl
 have hlen:(45::d).length=d.length+1:=rfl
 have h1:(d.length:Int)<((45::d).length:Nat):=by rw [hlen];omega
 have htk:(45::d).drop 1=d:=rfl
 have hneg:(0:Int)-(v:Int)=-(v:Int):=by omega
 generalize hS:(45::d:List UInt8)=S at hs h56 h0 h45 hlen h1 htk ⊢
 cases b
 ·rw [if_neg (by simp)]
  refine PC.walk tok mixed cfg0 Tryz.func86 rfl Tryz.call86 (by simp) (by first | rfl | simp) ?_;simp (maxSteps:=2000000) -implicitDefEqProofs +contextual (disch:=first | assumption | omega | decide +kernel) only [push_cast,↓capI,seval,Nat.reduceLeDiff,Nat.reduceEqDiff,reduceCtorEq,↓reduceIte,Tryz.ntmps86]
  simp (maxSteps:=2000000) -implicitDefEqProofs +contextual (disch:=first | assumption | omega | decide +kernel) only [push_cast,↓capI,seval,Nat.reduceLeDiff,Nat.reduceEqDiff,reduceCtorEq,↓reduceIte,h0,h45]
  rw [htk]
  refine callO.pc h75 ?_
  simp (maxSteps:=2000000) -implicitDefEqProofs +contextual (disch:=first | assumption | omega | decide +kernel) only [push_cast,↓capI,seval,Nat.reduceLeDiff,Nat.reduceEqDiff,reduceCtorEq,↓reduceIte,h1,hneg]
  refine endK.retA ?_;simp [evRes,getT,retV,Tryz.f86,encIB]
 ·by_cases he:fmtI (-(v:Int))=S
  ·rw [if_pos ⟨rfl,he⟩]
   refine PC.walk tok mixed cfg0 Tryz.func86 rfl Tryz.call86 (by simp) (by first | rfl | simp) ?_;simp (maxSteps:=2000000) -implicitDefEqProofs +contextual (disch:=first | assumption | omega | decide +kernel) only [push_cast,↓capI,seval,Nat.reduceLeDiff,Nat.reduceEqDiff,reduceCtorEq,↓reduceIte,Tryz.ntmps86]
   simp (maxSteps:=2000000) -implicitDefEqProofs +contextual (disch:=first | assumption | omega | decide +kernel) only [push_cast,↓capI,seval,Nat.reduceLeDiff,Nat.reduceEqDiff,reduceCtorEq,↓reduceIte,h0,h45]
   rw [htk]
   refine callO.pc h75 ?_
   simp (maxSteps:=2000000) -implicitDefEqProofs +contextual (disch:=first | assumption | omega | decide +kernel) only [push_cast,↓capI,seval,Nat.reduceLeDiff,Nat.reduceEqDiff,reduceCtorEq,↓reduceIte,h1,hneg]
   refine callO.pc h56 ?_
   simp (maxSteps:=2000000) -implicitDefEqProofs +contextual (disch:=first | assumption | omega | decide +kernel) only [push_cast,↓capI,seval,Nat.reduceLeDiff,Nat.reduceEqDiff,reduceCtorEq,↓reduceIte,he]
   refine endK.retA ?_;simp [evRes,getT,retV,Tryz.f86,encIB]
  ·rw [if_neg (fun h=>he h.2)]
   refine PC.walk tok mixed cfg0 Tryz.func86 rfl Tryz.call86 (by simp) (by first | rfl | simp) ?_;simp (maxSteps:=2000000) -implicitDefEqProofs +contextual (disch:=first | assumption | omega | decide +kernel) only [push_cast,↓capI,seval,Nat.reduceLeDiff,Nat.reduceEqDiff,reduceCtorEq,↓reduceIte,Tryz.ntmps86]
   simp (maxSteps:=2000000) -implicitDefEqProofs +contextual (disch:=first | assumption | omega | decide +kernel) only [push_cast,↓capI,seval,Nat.reduceLeDiff,Nat.reduceEqDiff,reduceCtorEq,↓reduceIte,h0,h45]
   rw [htk]
   refine callO.pc h75 ?_
   simp (maxSteps:=2000000) -implicitDefEqProofs +contextual (disch:=first | assumption | omega | decide +kernel) only [push_cast,↓capI,seval,Nat.reduceLeDiff,Nat.reduceEqDiff,reduceCtorEq,↓reduceIte,h1,hneg]
   refine callO.pc h56 ?_
   simp (maxSteps:=2000000) -implicitDefEqProofs +contextual (disch:=first | assumption | omega | decide +kernel) only [push_cast,↓capI,seval,Nat.reduceLeDiff,Nat.reduceEqDiff,reduceCtorEq,↓reduceIte,he]
   refine endK.retA ?_;simp [evRes,getT,retV,Tryz.f86,encIB]
theorem rdR (s:List UInt8) (hs:s.length≤4000000000):PC Tryz.prog 86 [.str s] (encIB (refP s)):=by
 unfold refP
 cases s with
 | nil=>exact rdR0 [] hs (fun h=>by cases h)
 | cons c d =>
  rw [List.head?_cons]
  by_cases h:c=45
  ·subst h
   rw [if_pos rfl,List.drop_one,List.tail_cons]
   exact rdR1 d hs
  ·rw [if_neg (by simpa using h)]
   refine rdR0 (c::d) hs (fun _ e=>h ?_)
   rw [List.getD_cons_zero] at e
   apply UInt8.toNat_inj.1
   have:(45:UInt8).toNat=45:=rfl
   omega
theorem fmt_nn (v:Nat):fmtI (v:Int)=dgs 9 v:=by
 rw [fmtI,if_pos (by omega),Int.toNat_natCast]
theorem dgs_iff {d:List UInt8} {v:Nat} (hl:d.length≤9) (h:valL d 0=some v) (hv:v<1000000000):dgs 9 v=d↔canonD d=true:=by
 have hdig:∀(d:List UInt8) (u r:Nat),valL d u=some r→∀c,c ∈ d→isDig c=true:=by
  intro d
  induction d with
  | nil=>intro u r _ c hc;cases hc
  | cons x d ih =>
   intro u r h c hc
   rw [valL] at h
   split at h
   ·rename_i hx
    rcases List.mem_cons.1 hc with rfl | hc
    ·exact hx
    ·exact ih _ _ h c hc
   ·cases h
 constructor
 ·intro e
  rw [←e]
  exact dgs_canon v hv
 ·intro hc
  exact dgs_val 9 d v (by intro e;subst e;cases hc) hl (hdig _ _ _ h) hc h
theorem ref_parse (s:List UInt8):refP s=parseI s:=by
 have key:∀d:List UInt8,9<d.length∨canonD d=false∨(d.length≤9∧canonD d=true):=by
  intro d
  cases hc:canonD d
  ·exact .inr (.inl rfl)
  ·by_cases h:9<d.length
   ·exact .inl h
   ·exact .inr (.inr ⟨by omega,rfl⟩)
 have dec:∀d:List UInt8,d.length≤9→1≤d.length→decR d=match valL d 0 with | some v=>(v,true) | none=>(0,false):=by
  intro d h1 h2
  rw [decR,if_neg (by omega)]
  cases valL d 0<;>rfl
 have big:∀d:List UInt8,(9<d.length∨d.length<1)→decR d=(0,false):=by
  intro d h
  rw [decR,if_pos (by omega)]
 have lt:∀(d:List UInt8) (v:Nat),d.length≤9→valL d 0=some v→v<1000000000:=by
  intro d v h1 h2
  have h3:=valL_lt h2
  have hp:10^d.length≤10^9:=Nat.pow_le_pow_right (by omega) h1
  omega
 cases s with
 | nil=>decide
 | cons c d =>
  by_cases h:c=45
  ·subst h
   have hb:begins (45::d) [45]=true:=by rw [begins_cons];rfl
   have e1:refP (45::d)=if (decR d).2=true∧fmtI (-((decR d).1:Int))=45::d then (-((decR d).1:Int),true) else (0,false):=by
    rw [refP,List.head?_cons,if_pos rfl]
    rfl
   have e2:parseI (45::d)=if 9<d.length∨canonD d=false then (0,false) else match valL d 0 with | some v=>if v=0 then (0,false) else (-(v:Int),true) | none=>(0,false):=by
    rw [parseI]
    exact (if_pos hb)
   rw [e1,e2]
   clear e1 e2
   by_cases h1:d.length<1
   ·have:d=[]:=List.length_eq_zero_iff.1 (by omega)
    subst this
    decide
   by_cases h9:9<d.length
   ·rw [big d (.inl h9),if_pos (Or.inl h9)]
    simp
   have hd:=dec d (by omega) (by omega)
   cases hv:valL d 0 with
   | none =>
    rw [hv] at hd
    rw [hd]
    simp
   | some v =>
    rw [hv] at hd
    simp only at hd
    rw [hd]
    have hlt:=lt d v (by omega) hv
    have hi:=dgs_iff (by omega) hv hlt
    simp only [true_and]
    by_cases h0:v=0
    ·subst h0
     have e:¬fmtI (-((0:Nat):Int))=45::d:=by
      intro e
      have:fmtI (-((0:Nat):Int))=[48]:=by decide
      rw [this] at e
      simp at e
     rw [if_neg e,if_pos rfl]
     split<;>rfl
    ·have e:fmtI (-(v:Int))=45::dgs 9 v:=by
      rw [fmtI,if_neg (by omega),Int.neg_neg,Int.toNat_natCast]
     rw [if_neg h0]
     by_cases hc:canonD d=true
     ·rw [if_pos (by rw [e,hi.2 hc]),if_neg (by rw [hc];simp;omega)]
     ·rw [if_neg (fun g=>hc (hi.1 (by rw [e] at g;exact (List.cons.inj g).2))),if_pos (Or.inr (by simpa using hc))]
  ·have hb:begins (c::d) [45]=false:=by rw [begins_cons];simpa using h
   have e1:refP (c::d)=if (decR (c::d)).2=true∧fmtI ((decR (c::d)).1:Int)=c::d then (((decR (c::d)).1:Int),true) else (0,false):=by
    rw [refP,List.head?_cons]
    exact (if_neg (by simpa using h))
   have e2:parseI (c::d)=if 9<(c::d).length∨canonD (c::d)=false then (0,false) else match valL (c::d) 0 with | some v=>((v:Int),true) | none=>(0,false):=by
    rw [parseI]
    exact (if_neg (by rw [hb];simp))
   rw [e1,e2]
   clear e1 e2
   by_cases h9:9<(c::d).length
   ·rw [big _ (.inl h9),if_pos (Or.inl h9)]
    simp
   have hd:=dec (c::d) (by omega) (by simp)
   cases hv:valL (c::d) 0 with
   | none =>
    rw [hv] at hd
    rw [hd]
    simp
   | some v =>
    rw [hv] at hd
    simp only at hd
    rw [hd]
    have hlt:=lt _ v (by omega) hv
    have hi:=dgs_iff (by omega) hv hlt
    simp only [true_and]
    rw [fmt_nn]
    by_cases hc:canonD (c::d)=true
    ·rw [if_pos (hi.2 hc),if_neg (by rw [hc];rintro (g | g);exact h9 g;cases g)]
    ·rw [if_neg (fun g=>hc (hi.1 g)),if_pos (Or.inr (by simpa using hc))]
theorem pc86g (s:List UInt8) (hs:s.length≤4000000000):PC Tryz.prog 86 [.str s] (encIB (parseI s)):=by
 rw [←ref_parse]
 exact rdR s hs
end Go.Proofs.YtlbmbbaefncleaaGreatDoor.Px
namespace Go.Proofs.YtlbmbbaefncleaaGreatDoor
open Go.Vm
section
attribute [local push_cast] cfg0 Px.take_rest ibeq_dec
theorem pc42 (n:Int):PC Tryz.prog 42 [.int .i64 n] (.bool (hostB n)):=by
 refine PC.walk tok mixed cfg0 Tryz.func42 rfl Tryz.call42 (by simp) (by first | rfl | simp) ?_;refine vms1 Tryz.ntmps42 ?_
 refine ⟨fun h1=>?_,fun h1=>?_⟩
 ·refine endK.retA ?_;simp [evRes,getT,retV,Tryz.f42,hostB,h1]
 ·refine endK.retA ?_;simp [evRes,getT,retV,Tryz.f42,hostB,h1]
theorem pc50 (s:List UInt8) (hs:s.length≤20000):PC Tryz.prog 50 [.str s] (encTit (titE s)):=by
 have h85:=pc85 s hs
 have hle:∀w ∈ spl s,w.length≤s.length:=fun w hw=>spl_le hw
 have hln:(spl s).length≤20001:=by
  have h1:=spl_count s
  have h2:s.count 32≤s.length:=List.count_le_length
  omega
 unfold titE
 generalize spl s=L at h85 hle hln ⊢
 by_cases h3:L.length=3
 case neg =>
  rw [titW_no h3]
  refine PC.walk tok mixed cfg0 Tryz.func50 rfl Tryz.call50 (by simp) (by first | rfl | simp) ?_;refine vms1 Tryz.ntmps50 ?_
  refine callO.pc h85 ?_
  refine vms1 h3 ?_
  refine endK.retA ?_;simp [fzs_ok,imp,lenOK_iff,List.take_of_length_le,evRes,getT,getO,setO,fzs,fz,fzH,Nat.beq,retV,Res.then,ldT,ldR,mkV,getV,tt_3,tt_4,tt_5,tt_9,tt_54,tt_58,tt_60,tt_78,cfg0,Px.take_rest,ibeq_dec,Tryz.f50,encTit]
 match L,h3,h85,hle with
 | [w,a,b],_,h85,hle =>
 have p1:=Px.pc86g a (by have:=hle a (by simp);omega)
 have p2:=Px.pc86g b (by have:=hle b (by simp);omega)
 simp only [List.map_cons,List.map_nil,List.length_cons,List.length_nil] at h85
 by_cases hw:w=[114,117,108,101]
 case neg =>
  have e:titW [w,a,b]=(0,0,5):=by rw [titW,if_neg hw]
  rw [e]
  refine PC.walk tok mixed cfg0 Tryz.func50 rfl Tryz.call50 (by simp) (by first | rfl | simp) ?_;refine vms1 Tryz.ntmps50 ?_
  refine callO.pc h85 ?_
  refine vms1 hw ?_
  refine endK.retA ?_;simp [fzs_ok,imp,lenOK_iff,List.take_of_length_le,evRes,getT,getO,setO,fzs,fz,fzH,Nat.beq,retV,Res.then,ldT,ldR,mkV,getV,tt_3,tt_4,tt_5,tt_9,tt_54,tt_58,tt_60,tt_78,cfg0,Px.take_rest,ibeq_dec,Tryz.f50,encTit]
 rw [titW,if_pos hw]
 generalize Px.parseI a=x at p1 ⊢
 generalize Px.parseI b=y at p2 ⊢
 obtain ⟨f,fo⟩:=x
 obtain ⟨t,to⟩:=y
 rw [Px.encIB] at p1 p2
 simp only at p1 p2 ⊢
 cases fo
 ·rw [if_neg (by simp)]
  refine PC.walk tok mixed cfg0 Tryz.func50 rfl Tryz.call50 (by simp) (by first | rfl | simp) ?_;refine vms1 Tryz.ntmps50 ?_
  refine callO.pc h85 ?_
  refine vms1 hw ?_
  refine callO.pc p1 ?_
  refine vms0 ?_
  refine callO.pc p2 ?_
  refine vms0 ?_
  refine endK.retA ?_;simp [fzs_ok,imp,lenOK_iff,List.take_of_length_le,evRes,getT,getO,setO,fzs,fz,fzH,Nat.beq,retV,Res.then,ldT,ldR,mkV,getV,tt_3,tt_4,tt_5,tt_9,tt_54,tt_58,tt_60,tt_78,cfg0,Px.take_rest,ibeq_dec,Tryz.f50,encTit]
 cases to
 ·rw [if_neg (by simp)]
  refine PC.walk tok mixed cfg0 Tryz.func50 rfl Tryz.call50 (by simp) (by first | rfl | simp) ?_;refine vms1 Tryz.ntmps50 ?_
  refine callO.pc h85 ?_
  refine vms1 hw ?_
  refine callO.pc p1 ?_
  refine vms0 ?_
  refine callO.pc p2 ?_
  refine vms0 ?_
  refine endK.retA ?_;simp [fzs_ok,imp,lenOK_iff,List.take_of_length_le,evRes,getT,getO,setO,fzs,fz,fzH,Nat.beq,retV,Res.then,ldT,ldR,mkV,getV,tt_3,tt_4,tt_5,tt_9,tt_54,tt_58,tt_60,tt_78,cfg0,Px.take_rest,ibeq_dec,Tryz.f50,encTit]
 rw [if_pos ⟨rfl,rfl⟩]
 cases hf:hostB f
 ·rw [if_neg (by simp)]
  refine PC.walk tok mixed cfg0 Tryz.func50 rfl Tryz.call50 (by simp) (by first | rfl | simp) ?_;refine vms1 Tryz.ntmps50 ?_
  refine callO.pc h85 ?_
  refine vms1 hw ?_
  refine callO.pc p1 ?_
  refine vms0 ?_
  refine callO.pc p2 ?_
  refine vms0 ?_
  refine callO.pc (pc42 f) ?_
  refine vms1 hf ?_
  refine endK.retA ?_;simp [fzs_ok,imp,lenOK_iff,List.take_of_length_le,evRes,getT,getO,setO,fzs,fz,fzH,Nat.beq,retV,Res.then,ldT,ldR,mkV,getV,tt_3,tt_4,tt_5,tt_9,tt_54,tt_58,tt_60,tt_78,cfg0,Px.take_rest,ibeq_dec,Tryz.f50,encTit]
 cases ht:hostB t
 ·rw [if_neg (by simp)]
  refine PC.walk tok mixed cfg0 Tryz.func50 rfl Tryz.call50 (by simp) (by first | rfl | simp) ?_;refine vms1 Tryz.ntmps50 ?_
  refine callO.pc h85 ?_
  refine vms1 hw ?_
  refine callO.pc p1 ?_
  refine vms0 ?_
  refine callO.pc p2 ?_
  refine vms0 ?_
  refine callO.pc (pc42 f) ?_
  refine vms1 hf ?_
  refine callO.pc (pc42 t) ?_
  refine vms1 ht ?_
  refine endK.retA ?_;simp [fzs_ok,imp,lenOK_iff,List.take_of_length_le,evRes,getT,getO,setO,fzs,fz,fzH,Nat.beq,retV,Res.then,ldT,ldR,mkV,getV,tt_3,tt_4,tt_5,tt_9,tt_54,tt_58,tt_60,tt_78,cfg0,Px.take_rest,ibeq_dec,Tryz.f50,encTit]
 rw [if_pos ⟨rfl,rfl⟩]
 refine PC.walk tok mixed cfg0 Tryz.func50 rfl Tryz.call50 (by simp) (by first | rfl | simp) ?_;refine vms1 Tryz.ntmps50 ?_
 refine callO.pc h85 ?_
 refine vms1 hw ?_
 refine callO.pc p1 ?_
 refine vms0 ?_
 refine callO.pc p2 ?_
 refine vms0 ?_
 refine callO.pc (pc42 f) ?_
 refine vms1 hf ?_
 refine callO.pc (pc42 t) ?_
 refine vms1 ht ?_
 refine endK.retA ?_;simp [fzs_ok,imp,lenOK_iff,List.take_of_length_le,evRes,getT,getO,setO,fzs,fz,fzH,Nat.beq,retV,Res.then,ldT,ldR,mkV,getV,tt_3,tt_4,tt_5,tt_9,tt_54,tt_58,tt_60,tt_78,cfg0,Px.take_rest,ibeq_dec,Tryz.f50,encTit]
end
section
theorem lenG (r:Rg):(encG r).length=4:=rfl
theorem gfp_lenG (xs:List (Rg)) (i:Nat) (h:i<xs.length) (m:Nat) (hm:m≤4):getV ((xs.flatMap encG).drop (i*4)) 0 m=getV (encG xs[i]) 0 m:=get_flat_part lenG xs i h m hm
theorem gfd_lenG (xs:List (Rg)) (i:Nat) (h:i<xs.length) (o m:Nat) (hm:o+m≤4):getV (((xs.flatMap encG).drop (i*4)).drop o) 0 m=getV (encG xs[i]) o m:=get_flat_drop lenG xs i h o m hm
theorem lfl_lenG (xs:List (Rg)):(xs.flatMap encG).length=xs.length*4:=len_flat lenG xs
attribute [local push_cast] encG slG cfg0 ibeq_dec gfp_lenG gfd_lenG lfl_lenG Nat.mul_one
end
section
def GoodG (g:Rg):Prop:=∃(p:List Pd.Nd) (q:List Px.Nd),(p.length≤4000000∧q.length≤4000000)∧(g.p=Pd.slN p∧g.q=Px.slN q)∧Pd.fmtL p g.ps g.pe∧Px.fmtL q g.qs g.qe
theorem good_len {g:Rg} (h:GoodG g):g.ps.length≤100000000∧g.qs.length≤100000000:=by
 obtain ⟨p,q,⟨l1,l2⟩,_,h1,h2⟩:=h
 constructor
 ·rcases h1.2 with ⟨_,x,_,e,hs⟩ | ⟨_,hs⟩
  ·rw [hs]
   have:=Pd.tx_len x
   rw [←e] at this
   omega
  ·rw [hs];exact Nat.zero_le _
 ·rcases h2.2 with ⟨_,x,_,e,_,hs⟩ | ⟨_,hs⟩
  ·rw [hs]
   have:=Px.tx_len x
   rw [←e] at this
   omega
  ·rw [hs];exact Nat.zero_le _
theorem good_bel:∀ {G:List Rg},(∀g ∈ G,GoodG g)→∀n,belAll n (G.flatMap encG)=true
 | [],_,_=>rfl
 | g::G,h,n=>by
  obtain ⟨p,q,_,⟨e1,e2⟩,_,_⟩:=h g (List.mem_cons_self ..)
  rw [List.flatMap_cons,belAll_append,good_bel (fun g hg=>h g (List.mem_cons_of_mem _ hg)) n,encG,e1,e2]
  simp [belAll_cons,belAll_nil,Pd.bel_slN,Px.bel_slN,bel_int]
theorem fmt11 {G:List Rg} (hl:G.length≤32) (h:∀g ∈ G,GoodG g):PC Tryz.prog 11 [slG G] (.tup [.str (fmtG G).1,.int .i64 (fmtG G).2]):=by
 refine pc11 G hl (fun g hg=>good_len (h g hg)) (good_bel h 0) (fun g hg=>?_) pc34 (fun g hg _=>?_) (fun g hg _ _=>?_)
 ·obtain ⟨p,q,_,⟨e1,e2⟩,_,_⟩:=h g hg
  rw [e1,e2]
  exact ⟨rfl,rfl⟩
 ·obtain ⟨p,q,⟨l1,_⟩,⟨e1,_⟩,h1,_⟩:=h g hg
  rw [e1]
  exact Pd.pc35 p l1 _ _ h1
 ·obtain ⟨p,q,⟨_,l2⟩,⟨_,e2⟩,_,h2⟩:=h g hg
  rw [e2]
  exact Px.pc36 q l2 _ _ h2
attribute [local push_cast] encR slR cfg0 ibeq_dec lfl_lenR Nat.mul_one
theorem good_T {r:Tr} (h:okT r):GoodG (gT r):=by
 obtain ⟨_,⟨h2,h3⟩,h4,h5⟩:=h
 have c1:=Pd.tree_checkP h2 h3
 have c2:=Px.tree_checkP h4 h5
 exact ⟨Pd.flat r.p,Px.flat r.q,⟨by omega,by omega⟩,⟨rfl,rfl⟩,⟨c1.symm,.inl ⟨c1,r.p,h2,rfl,rfl⟩⟩,c2.symm,.inl ⟨c2,r.q,h4,rfl,h5,rfl⟩⟩
theorem bad_T:∀ {T:List Tr},(∀r ∈ T,okT r)→badG (T.map gT)=0
 | [],_=>rfl
 | r::T,h=>by
  obtain ⟨⟨h1,h2⟩,_⟩:=h r (List.mem_cons_self ..)
  have hc:chkG (gT r)=0:=by
   have hh:(hostB (gT r).f&&hostB (gT r).t)=true:=by
    show (hostB r.f&&hostB r.t)=true
    rw [h1,h2];rfl
   rw [chkG,if_pos hh]
   rfl
  rw [List.map_cons,badG,if_pos hc]
  exact bad_T fun r hr=>h r (List.mem_cons_of_mem _ hr)
theorem fmt_T {T:List Tr} (h:∀r ∈ T,okT r) (hl:(txT T).length≤16384):fmtG (T.map gT)=(txT T,0):=by
 rw [fmtG,bad_T h,if_neg (by simp),if_neg (by rw [txT] at hl;omega)]
 rfl
theorem slG_slR {G:List Rg} {l:List Ru} (h1:G.length=l.length) (h2:G.flatMap encG=l.flatMap encR):slG G=slR l:=by
 rw [slG,slR,h1,h2]
theorem slG_T (T:List Tr):slG (T.map gT)=slR (T.map ruT):=by
 refine slG_slR (by simp) ?_
 induction T with
 | nil=>rfl
 | cons r T ih =>
  rw [List.map_cons,List.map_cons,List.flatMap_cons,List.flatMap_cons,ih]
  rfl
end
section
def encPol (r:List Ru × Int × Int):V:=.tup [if r.2.2=0 then slR r.1 else .sl true [] 0,.int .i64 r.2.1,.int .i64 r.2.2]
@[simp] theorem bel_pol {n:Nat} (r:List Ru × Int × Int):(encPol r).bel n=true:=by
 unfold encPol
 split<;>simp [bel_slR]
def parV:Ph→List V
 | .a=>[]
 | .b f t=>[.int .i64 f,.int .i64 t,.sl true [] 0,.sl true [] 0]
 | .c f t p=>[.int .i64 f,.int .i64 t,Pd.slN p,.sl true [] 0]
def parN:Ph→Nat
 | .a=>0
 | .b _ _=>1
 | .c _ _ _=>1
@[simp] theorem bel_par {n:Nat} (ph:Ph):belAll n (parV ph)=true:=by
 cases ph with
 | a=>rfl
 | b f t=>rfl
 | c f t p=>simp [parV,belAll_cons,belAll_nil,Pd.bel_slN,bel_int,bel_sl]
theorem cut_len {c:UInt8}:∀ {s:List UInt8},(cutC c s).1.length≤s.length∧((cutC c s).2.2=true→(cutC c s).2.1.length<s.length)
 | []=>⟨by simp [cutC],by simp [cutC]⟩
 | x::s=>by
  obtain ⟨a,b⟩:=@cut_len c s
  rw [cutC]
  split
  ·exact ⟨by simp,fun _=>by simp⟩
  ·refine ⟨by simpa using a,fun h=>?_⟩
   have:=b h
   simp only [List.length_cons];omega
theorem put_at {y:V}:∀ {a b:List V} {i:Nat},putV (a++b) (a.length+i) [y]=a++putV b i [y]
 | [],b,i=>by rw [List.nil_append,List.nil_append,List.length_nil,Nat.zero_add]
 | x::a,b,i=>by
  rw [List.cons_append,List.length_cons,show a.length+1+i=(a.length+i)+1 by omega]
  show x::putV (a++b) (a.length+i) [y]=_
  rw [put_at]
  rfl
theorem put2 {d:List Ru} {x0 x1 x2 x3 y:V}:putV (d.flatMap encR++[x0,x1,x2,x3]) (d.length*4+2) [y]=d.flatMap encR++[x0,x1,y,x3]:=by
 rw [←len_flat lenR d,put_at]
 rfl
theorem put3 {d:List Ru} {x0 x1 x2 x3 y:V}:putV (d.flatMap encR++[x0,x1,x2,x3]) (d.length*4+3) [y]=d.flatMap encR++[x0,x1,x2,y]:=by
 rw [←len_flat lenR d,put_at]
 rfl
theorem m3_0 (n:Nat):((3*n:Nat):Int).tmod 3=0:=by rw [Int.tmod_eq_emod_of_nonneg (by omega)];omega
theorem m3_1 (n:Nat):((3*n+1:Nat):Int).tmod 3=1:=by rw [Int.tmod_eq_emod_of_nonneg (by omega)];omega
theorem m3_2 (n:Nat):((3*n+2:Nat):Int).tmod 3=2:=by rw [Int.tmod_eq_emod_of_nonneg (by omega)];omega
attribute [local push_cast] encR cfg0 ibeq_dec lfl_lenR Nat.mul_one Pd.slM_nil Px.slM_nil
theorem pc13 (s:List UInt8) (hs:s.length≤4000000000):PC Tryz.prog 13 [.str s] (encPol (polP s)):=by
 refine PC.walk tok mixed cfg0 Tryz.func13 rfl Tryz.call13 (by simp [Pd.bel_slN,Px.bel_slN,Pd.bel_slM,Px.bel_slM,Pd.bel_MI,Px.bel_MI,belAll_append]) (bel_pol _) ?_;refine vms1 Tryz.ntmps13 ?_
 by_cases hl:16384<s.length
 ·have hl2:(16384:Int)<(s.length:Int):=by omega
  rw [polP,if_pos hl]
  refine vms1 hl2 ?_
  refine endK.ret ?_ (by first | rfl | simp [Pd.bel_slN,Px.bel_slN,Pd.bel_slM,Px.bel_slM,Pd.bel_MI,Px.bel_MI,belAll_append]);simp [evRes,getT,retV,Tryz.f13,encPol]
 rw [polP,if_neg hl]
 have hl2:¬(16384:Int)<(s.length:Int):=by omega
 refine vms1 hl2 ?_
 refine T.lp tok mixed cfg0 (fun ((k,n,d,ph,q,ver):Nat × Nat × List Ru × Ph × List UInt8 × Nat)=>sv (.str q) (dd 1 (kp 3 (sv (.buf 0 ver 0 (d.length+parN ph) 4) (sv (.int .i64 n) (dd 78 (nl))))))) (fun H0 ((k,n,d,ph,q,ver):Nat × Nat × List Ru × Ph × List UInt8 × Nat)=>[.cells ver (d.flatMap encR++parV ph)]) (fun ((k,n,d,ph,q,ver):Nat × Nat × List Ru × Ph × List UInt8 × Nat)=>(q.length<k∧n+q.length≤s.length∧n=3*d.length+phN ph∧d.length≤40000)∧polF k n d ph q=polF (s.length+1) 0 [] .a s) (fun ((k,n,d,ph,q,ver):Nat × Nat × List Ru × Ph × List UInt8 × Nat)=>q.length) ((s.length+1,0,[],.a,s,0)) ?_ ?_ ?_
 ·exact ⟨⟨Nat.lt_succ_self _,by simp,rfl,by simp⟩,rfl⟩
 ·refine (Gn.ownNil (t:=5) (sz:=4) rfl).trans ?_
  exact Gn.canon (J:=[]) (by first | rfl | (simp [List.append_nil,parV,Pd.slN,Px.slN];done) | (simp [List.append_nil,parV,Pd.slN,Px.slN];rfl)) (by simp [wk,parN,parV,Pd.slN,Px.slN,putT,kp,dd,sv,nl]) (by simp [List.length_append,parN,parV]) (by simp [Pd.bel_slN,Px.bel_slN,Pd.bel_slM,Px.bel_slM,Pd.bel_MI,Px.bel_MI,belAll_append,kp,dd,sv,nl]) (by simp [Pd.bel_slN,Px.bel_slN,Pd.bel_slM,Px.bel_slM,Pd.bel_MI,Px.bel_MI,belAll_append])
 rintro ⟨k,n,d,ph,q,ver⟩ ⟨⟨hk,hn,hph,hd⟩,hp⟩
 (try simp only at hk hn hph hd hp)
 obtain ⟨k,rfl⟩:∃g,k=g+1:=⟨k-1,by omega⟩
 rw [polF] at hp
 by_cases hq:q=[]
 ·rw [if_pos hq] at hp
  subst hq
  rw [←hp]
  cases ph with
  | a =>
   have h3:=m3_0 d.length
   rw [phN,Nat.add_zero] at hph
   rw [←hph] at h3
   refine vms1 h3 ?_
   refine endK.gn (Gn.freeze (id:=0) rfl) ?_;refine endK.ret ?_ (by first | rfl | simp [Pd.bel_slN,Px.bel_slN,Pd.bel_slM,Px.bel_slM,Pd.bel_MI,Px.bel_MI,belAll_append]);simp [Pd.bel_slN,Px.bel_slN,Pd.bel_slM,Px.bel_slM,Pd.bel_MI,Px.bel_MI,belAll_append,fzs_ok,imp,lenOK_iff,List.take_of_length_le,evRes,getT,getO,setO,fzs,fz,fzH,Nat.beq,retV,Res.then,ldT,ldR,mkV,getV,tt_3,tt_4,tt_5,tt_9,tt_22,tt_25,tt_54,tt_58,tt_60,encR,cfg0,ibeq_dec,len_flat lenR,Nat.mul_one,Pd.slM_nil,Px.slM_nil,Tryz.f13,encPol,endP,slR,parV,parN]
  | b f t =>
   have h3:=m3_1 d.length
   rw [phN] at hph
   rw [←hph] at h3
   refine vms1 h3 ?_
   refine endK.ret ?_ (by first | rfl | simp [Pd.bel_slN,Px.bel_slN,Pd.bel_slM,Px.bel_slM,Pd.bel_MI,Px.bel_MI,belAll_append]);simp [Pd.bel_slN,Px.bel_slN,Pd.bel_slM,Px.bel_slM,Pd.bel_MI,Px.bel_MI,belAll_append,fzs_ok,imp,lenOK_iff,List.take_of_length_le,evRes,getT,getO,setO,fzs,fz,fzH,Nat.beq,retV,Res.then,ldT,ldR,mkV,getV,tt_3,tt_4,tt_5,tt_9,tt_22,tt_25,tt_54,tt_58,tt_60,encR,cfg0,ibeq_dec,len_flat lenR,Nat.mul_one,Pd.slM_nil,Px.slM_nil,Tryz.f13,encPol,endP]
  | c f t p =>
   have h3:=m3_2 d.length
   rw [phN] at hph
   rw [←hph] at h3
   refine vms1 h3 ?_
   refine endK.ret ?_ (by first | rfl | simp [Pd.bel_slN,Px.bel_slN,Pd.bel_slM,Px.bel_slM,Pd.bel_MI,Px.bel_MI,belAll_append]);simp [Pd.bel_slN,Px.bel_slN,Pd.bel_slM,Px.bel_slM,Pd.bel_MI,Px.bel_MI,belAll_append,fzs_ok,imp,lenOK_iff,List.take_of_length_le,evRes,getT,getO,setO,fzs,fz,fzH,Nat.beq,retV,Res.then,ldT,ldR,mkV,getV,tt_3,tt_4,tt_5,tt_9,tt_22,tt_25,tt_54,tt_58,tt_60,encR,cfg0,ibeq_dec,len_flat lenR,Nat.mul_one,Pd.slM_nil,Px.slM_nil,Tryz.f13,encPol,endP]
 rw [if_neg hq] at hp
 have h46:=pc46 q 10 (by omega)
 obtain ⟨c1,c2⟩:=@cut_len 10 q
 generalize cutC 10 q=r at hp h46 c1 c2
 obtain ⟨tx,rs,ok⟩:=r
 simp only at hp c1 c2
 cases ok with
 | false =>
  rw [if_neg (by decide)] at hp
  rw [←hp]
  refine vms1 hq ?_
  refine callO.pc h46 ?_
  simp (maxSteps:=2000000) -implicitDefEqProofs +contextual (disch:=first | assumption | omega | decide +kernel) only [push_cast,↓capI,seval,Nat.reduceLeDiff,Nat.reduceEqDiff,reduceCtorEq,↓reduceIte,encCut]
  refine endK.ret ?_ (by first | rfl | simp [Pd.bel_slN,Px.bel_slN,Pd.bel_slM,Px.bel_slM,Pd.bel_MI,Px.bel_MI,belAll_append]);simp [Pd.bel_slN,Px.bel_slN,Pd.bel_slM,Px.bel_slM,Pd.bel_MI,Px.bel_MI,belAll_append,fzs_ok,imp,lenOK_iff,List.take_of_length_le,evRes,getT,getO,setO,fzs,fz,fzH,Nat.beq,retV,Res.then,ldT,ldR,mkV,getV,tt_3,tt_4,tt_5,tt_9,tt_22,tt_25,tt_54,tt_58,tt_60,encR,cfg0,ibeq_dec,len_flat lenR,Nat.mul_one,Pd.slM_nil,Px.slM_nil,Tryz.f13,encPol]
 | true =>
 rw [if_pos rfl] at hp
 have c3:=c2 rfl
 cases ph with
 | a =>
  have h3:=m3_0 d.length
  rw [phN,Nat.add_zero] at hph
  rw [←hph] at h3
  rw [stepP] at hp
  by_cases h32:32≤d.length
  ·rw [if_pos h32] at hp
   rw [if_neg (by simp)] at hp
   rw [←hp]
   refine vms1 hq ?_
   refine callO.pc h46 ?_
   simp (maxSteps:=2000000) -implicitDefEqProofs +contextual (disch:=first | assumption | omega | decide +kernel) only [push_cast,↓capI,seval,Nat.reduceLeDiff,Nat.reduceEqDiff,reduceCtorEq,↓reduceIte,encCut,h3,h32,parN]
   refine endK.ret ?_ (by first | rfl | simp [Pd.bel_slN,Px.bel_slN,Pd.bel_slM,Px.bel_slM,Pd.bel_MI,Px.bel_MI,belAll_append]);simp [Pd.bel_slN,Px.bel_slN,Pd.bel_slM,Px.bel_slM,Pd.bel_MI,Px.bel_MI,belAll_append,fzs_ok,imp,lenOK_iff,List.take_of_length_le,evRes,getT,getO,setO,fzs,fz,fzH,Nat.beq,retV,Res.then,ldT,ldR,mkV,getV,tt_3,tt_4,tt_5,tt_9,tt_22,tt_25,tt_54,tt_58,tt_60,encR,cfg0,ibeq_dec,len_flat lenR,Nat.mul_one,Pd.slM_nil,Px.slM_nil,Tryz.f13,encPol]
  rw [if_neg h32] at hp
  have h47:=pc47 tx (by omega)
  rw [encTit] at h47
  generalize titE tx=e at h47 hp
  obtain ⟨f,t,e⟩:=e
  simp only at h47 hp
  refine vms1 hq ?_
  refine callO.pc h46 ?_
  simp (maxSteps:=2000000) -implicitDefEqProofs +contextual (disch:=first | assumption | omega | decide +kernel) only [push_cast,↓capI,seval,Nat.reduceLeDiff,Nat.reduceEqDiff,reduceCtorEq,↓reduceIte,encCut,h3,h32,parN,parV]
  refine callO.pc h47 ?_
  by_cases he:e=0
  ·subst he
   rw [if_pos rfl] at hp
   refine vms0 ?_
   refine ⟨(k,n+1,d,.b f t,rs,ver+1),⟨⟨by simp only;omega,by simp only;omega,by simp only [phN];omega,hd⟩,hp⟩,by simp only;omega,?_⟩
   exact Gn.canon (by first | rfl | (simp [List.append_nil,parV,Pd.slN,Px.slN,parV];done) | (simp [List.append_nil,parV,Pd.slN,Px.slN,parV];rfl)) (by simp [wk,parN,parV,Pd.slN,Px.slN,parN]) (by simp [List.length_append,parN,parV]) (by simp [Pd.bel_slN,Px.bel_slN,Pd.bel_slM,Px.bel_slM,Pd.bel_MI,Px.bel_MI,belAll_append]) (by simp [Pd.bel_slN,Px.bel_slN,Pd.bel_slM,Px.bel_slM,Pd.bel_MI,Px.bel_MI,belAll_append])
  ·rw [if_neg he] at hp
   rw [←hp]
   refine vms1 he ?_
   refine endK.ret ?_ (by first | rfl | simp [Pd.bel_slN,Px.bel_slN,Pd.bel_slM,Px.bel_slM,Pd.bel_MI,Px.bel_MI,belAll_append]);simp [Pd.bel_slN,Px.bel_slN,Pd.bel_slM,Px.bel_slM,Pd.bel_MI,Px.bel_MI,belAll_append,fzs_ok,imp,lenOK_iff,List.take_of_length_le,evRes,getT,getO,setO,fzs,fz,fzH,Nat.beq,retV,Res.then,ldT,ldR,mkV,getV,tt_3,tt_4,tt_5,tt_9,tt_22,tt_25,tt_54,tt_58,tt_60,encR,cfg0,ibeq_dec,len_flat lenR,Nat.mul_one,Pd.slM_nil,Px.slM_nil,Tryz.f13,encPol,he]
 | b f t =>
  have h3:=m3_1 d.length
  rw [phN] at hph
  rw [←hph] at h3
  rw [stepP] at hp
  have h48:=Pd.pc48 tx
  rw [Pd.encMI] at h48
  rcases Pd.parP_cases tx with ⟨p,hok,h24,htx,ep⟩ | ⟨e1,e2⟩
  ·rw [ep] at h48 hp
   simp only [if_true] at h48 hp
   rw [Pd.slM_cons (Pd.flat_ne p)] at h48
   refine vms1 hq ?_
   refine callO.pc h46 ?_
   simp (maxSteps:=2000000) -implicitDefEqProofs +contextual (disch:=first | assumption | omega | decide +kernel) only [push_cast,↓capI,seval,Nat.reduceLeDiff,Nat.reduceEqDiff,reduceCtorEq,↓reduceIte,encCut,h3,parN,parV]
   refine callO.pc h48 ?_
   simp (maxSteps:=2000000) -implicitDefEqProofs +contextual (disch:=first | assumption | omega | decide +kernel) only [push_cast,↓capI,seval,Nat.reduceLeDiff,Nat.reduceEqDiff,reduceCtorEq,↓reduceIte,Pd.slN,Int.add_sub_cancel,Int.toNat_natCast,put2]
   refine ⟨(k,n+1,d,.c f t (Pd.flat p),rs,ver),⟨⟨by simp only;omega,by simp only;omega,by simp only [phN];omega,hd⟩,hp⟩,by simp only;omega,?_⟩
   exact Gn.canon (by first | rfl | (simp [List.append_nil,parV,Pd.slN,Px.slN,parV];done) | (simp [List.append_nil,parV,Pd.slN,Px.slN,parV];rfl)) (by simp [wk,parN,parV,Pd.slN,Px.slN,parN]) (by simp [List.length_append,parN,parV]) (by simp [Pd.bel_slN,Px.bel_slN,Pd.bel_slM,Px.bel_slM,Pd.bel_MI,Px.bel_MI,belAll_append]) (by simp [Pd.bel_slN,Px.bel_slN,Pd.bel_slM,Px.bel_slM,Pd.bel_MI,Px.bel_MI,belAll_append])
  ·rw [e1] at h48
   rw [if_neg e2] at hp
   rw [←hp]
   refine vms1 hq ?_
   refine callO.pc h46 ?_
   simp (maxSteps:=2000000) -implicitDefEqProofs +contextual (disch:=first | assumption | omega | decide +kernel) only [push_cast,↓capI,seval,Nat.reduceLeDiff,Nat.reduceEqDiff,reduceCtorEq,↓reduceIte,encCut,h3,parN,parV]
   refine callO.pc h48 ?_
   simp (maxSteps:=2000000) -implicitDefEqProofs +contextual (disch:=first | assumption | omega | decide +kernel) only [push_cast,↓capI,seval,Nat.reduceLeDiff,Nat.reduceEqDiff,reduceCtorEq,↓reduceIte,e2]
   refine endK.ret ?_ (by first | rfl | simp [Pd.bel_slN,Px.bel_slN,Pd.bel_slM,Px.bel_slM,Pd.bel_MI,Px.bel_MI,belAll_append]);simp [Pd.bel_slN,Px.bel_slN,Pd.bel_slM,Px.bel_slM,Pd.bel_MI,Px.bel_MI,belAll_append,fzs_ok,imp,lenOK_iff,List.take_of_length_le,evRes,getT,getO,setO,fzs,fz,fzH,Nat.beq,retV,Res.then,ldT,ldR,mkV,getV,tt_3,tt_4,tt_5,tt_9,tt_22,tt_25,tt_54,tt_58,tt_60,encR,cfg0,ibeq_dec,len_flat lenR,Nat.mul_one,Pd.slM_nil,Px.slM_nil,Tryz.f13,encPol,e2]
 | c f t p =>
  have h3:=m3_2 d.length
  rw [phN] at hph
  rw [←hph] at h3
  rw [stepP] at hp
  have h49:=Px.pc49 tx
  rw [Px.encMI] at h49
  rcases Px.parP_cases tx with ⟨x,hok,h24,htx,ep⟩ | ⟨e1,e2⟩
  ·rw [ep] at h49 hp
   simp only [if_true] at h49 hp
   rw [Px.slM_cons (Px.flat_ne x)] at h49
   refine vms1 hq ?_
   refine callO.pc h46 ?_
   simp (maxSteps:=2000000) -implicitDefEqProofs +contextual (disch:=first | assumption | omega | decide +kernel) only [push_cast,↓capI,seval,Nat.reduceLeDiff,Nat.reduceEqDiff,reduceCtorEq,↓reduceIte,encCut,h3,parN,parV]
   refine callO.pc h49 ?_
   simp (maxSteps:=2000000) -implicitDefEqProofs +contextual (disch:=first | assumption | omega | decide +kernel) only [push_cast,↓capI,seval,Nat.reduceLeDiff,Nat.reduceEqDiff,reduceCtorEq,↓reduceIte,Px.slN,Pd.slN,Int.add_sub_cancel,Int.toNat_natCast,put3]
   refine ⟨(k,n+1,d++[⟨f,t,p,Px.flat x⟩],.a,rs,ver),⟨⟨by simp only;omega,by simp only;omega,by simp [phN];omega,by simp;omega⟩,hp⟩,by simp only;omega,?_⟩
   exact Gn.canon (by first | rfl | (simp [List.append_nil,parV,Pd.slN,Px.slN,parV,encR];done) | (simp [List.append_nil,parV,Pd.slN,Px.slN,parV,encR];rfl)) (by simp [wk,parN,parV,Pd.slN,Px.slN,parN]) (by simp [List.length_append,parN,parV]) (by simp [Pd.bel_slN,Px.bel_slN,Pd.bel_slM,Px.bel_slM,Pd.bel_MI,Px.bel_MI,belAll_append]) (by simp [Pd.bel_slN,Px.bel_slN,Pd.bel_slM,Px.bel_slM,Pd.bel_MI,Px.bel_MI,belAll_append])
  ·rw [e1] at h49
   rw [if_neg e2] at hp
   rw [←hp]
   refine vms1 hq ?_
   refine callO.pc h46 ?_
   simp (maxSteps:=2000000) -implicitDefEqProofs +contextual (disch:=first | assumption | omega | decide +kernel) only [push_cast,↓capI,seval,Nat.reduceLeDiff,Nat.reduceEqDiff,reduceCtorEq,↓reduceIte,encCut,h3,parN,parV]
   refine callO.pc h49 ?_
   simp (maxSteps:=2000000) -implicitDefEqProofs +contextual (disch:=first | assumption | omega | decide +kernel) only [push_cast,↓capI,seval,Nat.reduceLeDiff,Nat.reduceEqDiff,reduceCtorEq,↓reduceIte,e2]
   refine endK.ret ?_ (by first | rfl | simp [Pd.bel_slN,Px.bel_slN,Pd.bel_slM,Px.bel_slM,Pd.bel_MI,Px.bel_MI,belAll_append]);simp [Pd.bel_slN,Px.bel_slN,Pd.bel_slM,Px.bel_slM,Pd.bel_MI,Px.bel_MI,belAll_append,fzs_ok,imp,lenOK_iff,List.take_of_length_le,evRes,getT,getO,setO,fzs,fz,fzH,Nat.beq,retV,Res.then,ldT,ldR,mkV,getV,tt_3,tt_4,tt_5,tt_9,tt_22,tt_25,tt_54,tt_58,tt_60,encR,cfg0,ibeq_dec,len_flat lenR,Nat.mul_one,Pd.slM_nil,Px.slM_nil,Tryz.f13,encPol,e2]
end
end Go.Proofs.YtlbmbbaefncleaaGreatDoor

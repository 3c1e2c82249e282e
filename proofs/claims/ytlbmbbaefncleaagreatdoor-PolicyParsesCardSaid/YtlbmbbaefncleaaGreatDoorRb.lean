/-
  Joined by a program from the texts PxScan PxExt Txl Cut Split.
-/
import Derived.Test.YtlbmbbaefncleaaGreatDoorRa
import Derived.Test.YtlbmbbaefncleaaGreatDoorSg
import Derived.Laws.Externs
import Derived.Lib.Bytealg
set_option maxRecDepth 100000
set_option maxHeartbeats 4000000
set_option linter.all false
namespace Go.Proofs.YtlbmbbaefncleaaGreatDoor.Px
open Go.Vm
section
theorem take_rest {α:Type} {l:List α} {i:Nat}:(l.drop i).take (l.length-i)=l.drop i:=List.take_of_length_le (by rw [List.length_drop];exact Nat.le_refl _)
theorem ibeq_dec {a b:Int}:(a==b)=decide (a=b):=by rw [Bool.eq_iff_iff,beq_iff_eq,decide_eq_true_eq]
def begins (s p:List UInt8):Bool:=decide (p.length≤s.length)&&(s.take p.length==p)
def cutP (s p:List UInt8):List UInt8 × Bool:=if begins s p=true then (s.drop p.length,true) else (s,false)
def encSB (r:List UInt8 × Bool):V:=.tup [.str r.1,.bool r.2]
theorem begins_le {s p:List UInt8} (h:begins s p=true):p.length≤s.length:=by
 simp only [begins,Bool.and_eq_true,decide_eq_true_eq] at h;exact h.1
attribute [local push_cast] cfg0 take_rest ibeq_dec
theorem pc190 (s p:List UInt8):PC Tryz.prog 190 [.str s,.str p] (.bool (begins s p)):=by
 refine PC.walk tok mixed cfg0 Tryz.func190 rfl Tryz.call190 (by simp) (by first | rfl | simp) ?_;refine vms1 Tryz.ntmps190 ?_
 refine ⟨fun h=>?_,fun h=>?_⟩
 ·refine endK.retA ?_;simp [evRes,getT,retV,Tryz.f190,begins,h]
 ·refine endK.retA ?_;simp [evRes,getT,retV,Tryz.f190,begins,h]
theorem pc163 (s p:List UInt8):PC Tryz.prog 163 [.str s,.str p] (.bool (begins s p)):=by
 refine PC.walk tok mixed cfg0 Tryz.func163 rfl Tryz.call163 (by simp) (by first | rfl | simp) ?_;refine vms1 Tryz.ntmps163 ?_
 refine callO.pc (pc190 s p) ?_
 refine vms0 ?_
 refine endK.retA ?_;simp [evRes,getT,retV,Tryz.f163]
theorem pc214 (s p:List UInt8):PC Tryz.prog 214 [.str s,.str p] (encSB (cutP s p)):=by
 refine PC.walk tok mixed cfg0 Tryz.func214 rfl Tryz.call214 (by simp) (by first | rfl | simp) ?_;refine vms1 Tryz.ntmps214 ?_
 refine callO.pc (pc190 s p) ?_
 cases h:begins s p
 ·refine vms0 ?_
  refine endK.retA ?_;simp [evRes,getT,retV,Tryz.f214,encSB,cutP,h]
 ·have hl:=begins_le h
  refine vms0 ?_
  refine endK.retA ?_;simp [evRes,getT,retV,Tryz.f214,encSB,cutP,h]
theorem pc192 (s p:List UInt8):PC Tryz.prog 192 [.str s,.str p] (encSB (cutP s p)):=by
 refine PC.walk tok mixed cfg0 Tryz.func192 rfl Tryz.call192 (by simp) (by first | rfl | simp) ?_;refine vms1 Tryz.ntmps192 ?_
 refine callO.pc (pc214 s p) ?_
 simp (maxSteps:=2000000) -implicitDefEqProofs +contextual (disch:=first | assumption | omega | decide +kernel) only [push_cast,↓capI,seval,Nat.reduceLeDiff,Nat.reduceEqDiff,reduceCtorEq,↓reduceIte,encSB]
 refine endK.retA ?_;simp [evRes,getT,retV,Tryz.f192,encSB]
theorem pc169 (s p:List UInt8):GCall Tryz.prog 169 [.ptr 0 0 0,.str p] [.cells 0 [.str s]] (.bool (begins s p)) [.cells 0 [.str (cutP s p).1]]:=by
 refine GC.walk tok mixed cfg0 Tryz.func169 rfl Tryz.call169 ?_;refine vms1 Tryz.ntmps169 ?_
 refine callO.pc (pc192 s p) ?_
 cases h:begins s p
 ·have e:cutP s p=(s,false):=by simp [cutP,h]
  rw [e]
  simp (maxSteps:=2000000) -implicitDefEqProofs +contextual (disch:=first | assumption | omega | decide +kernel) only [push_cast,↓capI,seval,Nat.reduceLeDiff,Nat.reduceEqDiff,reduceCtorEq,↓reduceIte,encSB]
  refine endG.ret ([]) (by first | rfl | simp [fzs_ok,getO,setO,fzs,fz,fzH,Nat.beq,tt_136,tt_138,tt_3,tt_4,tt_5,tt_9,tt_128,tt_200,tt_203,tt_205,tt_231,tt_327,tt_251,cfg0,take_rest,ibeq_dec]) (by simp) (by simp [fzs_ok,imp,lenOK_iff,List.take_of_length_le,evRes,getT,getO,setO,fzs,fz,fzH,Nat.beq,retV,Res.then,ldT,ldR,mkV,getV,tt_136,tt_138,tt_3,tt_4,tt_5,tt_9,tt_128,tt_200,tt_203,tt_205,tt_231,tt_327,tt_251,cfg0,take_rest,ibeq_dec,Tryz.f169]) (by first | rfl | simp) (by first | rfl | simp)
 ·have e:cutP s p=(s.drop p.length,true):=by simp [cutP,h]
  rw [e]
  simp (maxSteps:=2000000) -implicitDefEqProofs +contextual (disch:=first | assumption | omega | decide +kernel) only [push_cast,↓capI,seval,Nat.reduceLeDiff,Nat.reduceEqDiff,reduceCtorEq,↓reduceIte,encSB]
  refine endG.ret ([]) (by first | rfl | simp [fzs_ok,getO,setO,fzs,fz,fzH,Nat.beq,tt_136,tt_138,tt_3,tt_4,tt_5,tt_9,tt_128,tt_200,tt_203,tt_205,tt_231,tt_327,tt_251,cfg0,take_rest,ibeq_dec]) (by simp) (by simp [fzs_ok,imp,lenOK_iff,List.take_of_length_le,evRes,getT,getO,setO,fzs,fz,fzH,Nat.beq,retV,Res.then,ldT,ldR,mkV,getV,tt_136,tt_138,tt_3,tt_4,tt_5,tt_9,tt_128,tt_200,tt_203,tt_205,tt_231,tt_327,tt_251,cfg0,take_rest,ibeq_dec,Tryz.f169]) (by first | rfl | simp) (by first | rfl | simp)
theorem pc165 (s:List UInt8) (i:Int) (r:List V) (hr:belAll 1 r=true):GCall Tryz.prog 165 [.ptr 0 0 0] [.cells 0 (.str s::.int .i64 i::r)] (.bool (decide (i=s.length))) [.cells 0 (.str s::.int .i64 i::r)]:=by
 refine GC.walk tok mixed cfg0 Tryz.func165 rfl Tryz.call165 ?_;refine vms1 Tryz.ntmps165 ?_
 refine endG.ret ([]) (by first | rfl | simp [fzs_ok,getO,setO,fzs,fz,fzH,Nat.beq,tt_136,tt_138,tt_3,tt_4,tt_5,tt_9,tt_128,tt_200,tt_203,tt_205,tt_231,tt_327,tt_251,cfg0,take_rest,ibeq_dec,hr]) (by simp) (by simp [fzs_ok,imp,lenOK_iff,List.take_of_length_le,evRes,getT,getO,setO,fzs,fz,fzH,Nat.beq,retV,Res.then,ldT,ldR,mkV,getV,tt_136,tt_138,tt_3,tt_4,tt_5,tt_9,tt_128,tt_200,tt_203,tt_205,tt_231,tt_327,tt_251,cfg0,take_rest,ibeq_dec,Tryz.f165,hr]) (by first | rfl | simp [hr]) (by first | rfl | simp [hr])
theorem pc128 (s p:List UInt8) (i:Nat) (r:List V) (hr:belAll 1 r=true) (hi:i≤s.length) (hs:s.length≤4000000000) (hp:p.length≤4000000000):GCall Tryz.prog 128 [.ptr 0 0 0,.str p] [.cells 0 (.str s::.int .i64 i::r)] (.bool (begins (s.drop i) p))
  [.cells 0 (.str s::.int .i64 (if begins (s.drop i) p=true then (i:Int)+p.length else i)::r)]:=by
 refine GC.walk tok mixed cfg0 Tryz.func128 rfl Tryz.call128 ?_;refine vms1 Tryz.ntmps128 ?_
 refine callG.pc1 (pc163 (s.drop i) p) ?_
 cases h:begins (s.drop i) p
 ·refine vms0 ?_
  refine endG.ret ([]) (by first | rfl | simp [fzs_ok,getO,setO,fzs,fz,fzH,Nat.beq,tt_136,tt_138,tt_3,tt_4,tt_5,tt_9,tt_128,tt_200,tt_203,tt_205,tt_231,tt_327,tt_251,cfg0,take_rest,ibeq_dec,hr]) (by simp) (by simp [fzs_ok,imp,lenOK_iff,List.take_of_length_le,evRes,getT,getO,setO,fzs,fz,fzH,Nat.beq,retV,Res.then,ldT,ldR,mkV,getV,tt_136,tt_138,tt_3,tt_4,tt_5,tt_9,tt_128,tt_200,tt_203,tt_205,tt_231,tt_327,tt_251,cfg0,take_rest,ibeq_dec,Tryz.f128,hr]) (by first | rfl | simp [hr]) (by first | rfl | simp [hr])
 ·refine vms0 ?_
  refine endG.ret ([]) (by first | rfl | simp [fzs_ok,getO,setO,fzs,fz,fzH,Nat.beq,tt_136,tt_138,tt_3,tt_4,tt_5,tt_9,tt_128,tt_200,tt_203,tt_205,tt_231,tt_327,tt_251,cfg0,take_rest,ibeq_dec,hr]) (by simp) (by simp [fzs_ok,imp,lenOK_iff,List.take_of_length_le,evRes,getT,getO,setO,fzs,fz,fzH,Nat.beq,retV,Res.then,ldT,ldR,mkV,getV,tt_136,tt_138,tt_3,tt_4,tt_5,tt_9,tt_128,tt_200,tt_203,tt_205,tt_231,tt_327,tt_251,cfg0,take_rest,ibeq_dec,Tryz.f128,hr]) (by first | rfl | simp [hr]) (by first | rfl | simp [hr])
end
section
def idxGo (c:Int):List UInt8→Nat→Int
 | [],_=>-1
 | x::l,i=>if (x.toNat:Int)=c then i else idxGo c l (i+1)
def idxB (s:List UInt8) (c:Int):Int:=idxGo c s 0
theorem find_idx {s:List UInt8} {c:UInt8}:∀ {i:Nat},i≤s.length→(match (List.range' i (s.length-i)).find? (fun j=>s[j]! == c) with | some j=>(j:Int) | none=>-1)=idxGo c.toNat (s.drop i) i:=by
 intro i hi
 generalize hk:s.length-i=k
 induction k generalizing i with
 | zero =>
  rw [List.drop_of_length_le (by omega)]
  rfl
 | succ k ih =>
  have h:i<s.length:=by omega
  rw [List.drop_eq_getElem_cons h,List.range'_succ,List.find?_cons,idxGo,List.getElem!_eq_getElem?_getD,List.getElem?_eq_getElem h,Option.getD_some]
  by_cases he:s[i]=c
  ·simp [he]
  ·have h1:(s[i]==c)=false:=by simpa using he
   have h2:¬(s[i].toNat:Int)=(c.toNat:Int):=by
    intro e
    exact he (UInt8.toNat_inj.1 (by omega))
   rw [h1,if_neg h2]
   exact ih (by omega) (by omega)
theorem firstIdx_eq {s:List UInt8} {c:Int} (hc:0≤c∧c≤255):firstIdx ⟨s.toArray⟩ c.toNat.toUInt8=idxB s c:=by
 have hg:∀i:Nat,(⟨s.toArray⟩:ByteArray)[i]! = s[i]!:=by
  intro i
  have hs:(⟨s.toArray⟩:ByteArray).size=s.length:=by simp [ByteArray.size]
  by_cases h:i<s.length
  ·rw [getElem!_pos (⟨s.toArray⟩:ByteArray) i (by rw [hs];exact h),getElem!_pos s i h]
   rfl
  ·rw [getElem!_neg (⟨s.toArray⟩:ByteArray) i (by rw [hs];exact h),getElem!_neg s i h]
 have hcc:((c.toNat.toUInt8).toNat:Int)=c:=by
  rw [Nat.toUInt8_eq,UInt8.toNat_ofNat']
  omega
 have hs:(⟨s.toArray⟩:ByteArray).size=s.length:=by simp [ByteArray.size]
 have:=find_idx (s:=s) (c:=c.toNat.toUInt8) (i:=0) (Nat.zero_le _)
 rw [hcc,List.drop_zero,Nat.sub_zero,←List.range_eq_range'] at this
 rw [firstIdx,hs,idxB,←this]
 simp only [hg]
 rfl
theorem x104 (s:List UInt8) (c:Int) (hc:0≤c∧c≤255):XCall Tryz.prog 185 [.str s,.int .u8 c] (.int .i64 (idxB s c)):=by
 intro own w β vals h
 match vals,h with
 | [a,b],h =>
  simp only [VRs,VR,and_true] at h
  obtain ⟨rfl,rfl⟩:=h
  refine ⟨.int .i64 (idxB s c),?_,by simp only [VR]⟩
  rw [run_callFunc_extern (fn:=Tryz.f185) (e:=Extern.BytealgIndexByte.indexByte) Tryz.func185 (by kernel_rfl) (by kernel_rfl) (by kernel_rfl) (by rfl)]
  rw [run_indexByte_string,firstIdx_eq hc]
  rfl
 | [],h=>simp [VRs] at h
 | [_],h=>simp [VRs] at h
 | _::_::_::_,h=>simp [VRs] at h
attribute [local push_cast] cfg0 take_rest ibeq_dec
theorem pc156 (s:List UInt8) (c:Int) (hc:0≤c∧c≤255):PC Tryz.prog 156 [.str s,.int .u8 c] (.int .i64 (idxB s c)):=by
 refine PC.walk tok mixed cfg0 Tryz.func156 rfl Tryz.call156 (by simp) (by first | rfl | simp) ?_;refine vms1 Tryz.ntmps156 ?_
 refine callO.ext (x104 s c hc) ?_
 refine vms0 ?_
 refine endK.retA ?_;simp [evRes,getT,retV,Tryz.f156]
theorem pc191 (s:List UInt8) (c:Int) (hc:0≤c∧c≤255):PC Tryz.prog 191 [.str s,.int .u8 c] (.int .i64 (idxB s c)):=by
 refine PC.walk tok mixed cfg0 Tryz.func191 rfl Tryz.call191 (by simp) (by first | rfl | simp) ?_;refine vms1 Tryz.ntmps191 ?_
 refine callO.pc (pc156 s c hc) ?_
 refine vms0 ?_
 refine endK.retA ?_;simp [evRes,getT,retV,Tryz.f191]
end
end Go.Proofs.YtlbmbbaefncleaaGreatDoor.Px
namespace Go.Proofs.YtlbmbbaefncleaaGreatDoor
open Go.Vm
section
def cutC (c:UInt8):List UInt8→List UInt8 × List UInt8 × Bool
 | []=>([],[],false)
 | x::s=>if x=c then ([],s,true) else (x::(cutC c s).1,(cutC c s).2.1,(cutC c s).2.2)
theorem cut_join {c:UInt8}:∀ {s:List UInt8},(cutC c s).2.2=true→s=(cutC c s).1++c::(cutC c s).2.1
 | [],h=>by cases h
 | x::s,h=>by
  rw [cutC] at h ⊢
  by_cases hx:x=c
  ·subst hx
   rw [if_pos rfl]
   rfl
  ·rw [if_neg hx] at h ⊢
   simp only [List.cons_append]
   rw [←cut_join (s:=s) h]
def spl:List UInt8→List (List UInt8)
 | []=>[[]]
 | c::s=>if c=32 then []::spl s else match spl s with
  | w::ws=>(c::w)::ws
  | []=>[[c]]
theorem spl_ne:∀s,spl s≠[]
 | []=>by simp [spl]
 | c::s=>by
  rw [spl]
  split
  ·simp
  ·split<;>simp
def jnw:List (List UInt8)→List UInt8
 | []=>[]
 | w::ws=>w++(match ws with | []=>[] | _::_=>32::jnw ws)
theorem jnw_cons (w:List UInt8) {ws:List (List UInt8)} (h:ws≠[]):jnw (w::ws)=w++32::jnw ws:=by
 cases ws with
 | nil=>exact absurd rfl h
 | cons v vs=>rw [jnw]
theorem jnw_spl:∀s,jnw (spl s)=s
 | []=>rfl
 | c::s=>by
  have ih:=jnw_spl s
  rw [spl]
  split
  ·rename_i h
   rw [jnw_cons _ (spl_ne s),ih,h]
   rfl
  ·cases hs:spl s with
   | nil=>exact absurd hs (spl_ne s)
   | cons w ws =>
    rw [hs] at ih
    rw [←ih]
    cases ws with
    | nil=>simp [jnw]
    | cons v vs=>simp [jnw]
theorem spl_le:∀ {s w:List UInt8},w ∈ spl s→w.length≤s.length
 | [],w,h=>by simp [spl] at h;subst h;exact Nat.le_refl _
 | c::s,w,h=>by
  rw [spl] at h
  split at h
  ·rcases List.mem_cons.1 h with rfl | h
   ·exact Nat.zero_le _
   ·exact Nat.le_trans (spl_le h) (by simp)
  ·cases hs:spl s with
   | nil=>exact absurd hs (spl_ne s)
   | cons v vs =>
    rw [hs] at h
    have ih:∀u,u ∈ v::vs→u.length≤s.length:=fun u hu=>spl_le (hs ▸ hu)
    rcases List.mem_cons.1 h with rfl | h
    ·have:=ih v (List.mem_cons_self ..)
     simp only [List.length_cons];omega
    ·exact Nat.le_trans (ih w (List.mem_cons_of_mem _ h)) (by simp)
def splA:List UInt8→List UInt8→List (List UInt8)
 | u,[]=>[u]
 | u,c::s=>if c=32 then u::splA [] s else splA (u++[c]) s
theorem splA_spl:∀(s u:List UInt8),splA u s=match spl s with | w::ws=>(u++w)::ws | []=>[u]
 | [],u=>by simp [splA,spl]
 | c::s,u=>by
  rw [splA,spl]
  split
  ·simp only [List.append_nil,List.cons.injEq,true_and]
   rw [splA_spl s []]
   cases h:spl s with
   | nil=>exact absurd h (spl_ne s)
   | cons w ws=>simp
  ·rw [splA_spl s (u++[c])]
   cases h:spl s with
   | nil=>exact absurd h (spl_ne s)
   | cons w ws=>simp
theorem splA_nil (s:List UInt8):splA [] s=spl s:=by
 rw [splA_spl]
 cases h:spl s with
 | nil=>exact absurd h (spl_ne s)
 | cons w ws=>simp
end
section
def encCut (r:List UInt8 × List UInt8 × Bool):V:=.tup [.str r.1,.str r.2.1,.bool r.2.2]
@[simp] theorem bel_cut {n:Nat} {r:List UInt8 × List UInt8 × Bool}:(encCut r).bel n=true:=rfl
theorem cut_no {c:UInt8}:∀ {s:List UInt8} {i:Nat},(cutC c s).2.2=false→Px.idxGo c.toNat s i=-1∧(cutC c s).1=s∧(cutC c s).2.1=[]
 | [],i,_=>⟨rfl,rfl,rfl⟩
 | x::s,i,h=>by
  rw [cutC] at h ⊢
  by_cases hx:x=c
  ·rw [if_pos hx] at h;cases h
  ·rw [if_neg hx] at h ⊢
   obtain ⟨h1,h2,h3⟩:=cut_no (s:=s) (i:=i+1) h
   have hn:¬(x.toNat:Int)=c.toNat:=fun e=>hx (UInt8.toNat_inj.1 (by omega))
   exact ⟨by rw [Px.idxGo,if_neg hn];exact h1,by simp only [h2],h3⟩
theorem cut_yes {c:UInt8}:∀ {s:List UInt8} {i:Nat},(cutC c s).2.2=true→Px.idxGo c.toNat s i=i+((cutC c s).1.length:Int)∧s=(cutC c s).1++c::(cutC c s).2.1
 | [],i,h=>by cases h
 | x::s,i,h=>by
  rw [cutC] at h ⊢
  by_cases hx:x=c
  ·subst hx
   rw [if_pos rfl,Px.idxGo,if_pos rfl]
   exact ⟨by simp,rfl⟩
  ·rw [if_neg hx] at h ⊢
   obtain ⟨h1,h2⟩:=cut_yes (s:=s) (i:=i+1) h
   have hn:¬(x.toNat:Int)=c.toNat:=fun e=>hx (UInt8.toNat_inj.1 (by omega))
   refine ⟨by rw [Px.idxGo,if_neg hn,h1];simp only [List.length_cons];omega,?_⟩
   simp only [List.cons_append]
   rw [←h2]
theorem getD1 {c:UInt8}:([c]:List UInt8).getD 0 0=c:=rfl
attribute [local push_cast] cfg0 Px.take_rest ibeq_dec getD1
theorem pc125 (s:List UInt8) (c:UInt8):PC Tryz.prog 125 [.str s,.str [c]] (.int .i64 (Px.idxB s c.toNat)):=by
 have hc:(0:Int)≤c.toNat∧(c.toNat:Int)≤255:=by have:=c.toNat_lt;omega
 by_cases he:[c]=s
 ·subst he
  have hi:Px.idxB [c] c.toNat=0:=by rw [Px.idxB,Px.idxGo,if_pos rfl];rfl
  rw [hi]
  refine PC.walk tok mixed cfg0 Tryz.func125 rfl Tryz.call125 (by simp) (by first | rfl | simp) ?_;refine vms1 Tryz.ntmps125 ?_
  refine endK.retA ?_;simp [evRes,getT,retV,Tryz.f125]
 ·refine PC.walk tok mixed cfg0 Tryz.func125 rfl Tryz.call125 (by simp) (by first | rfl | simp) ?_;refine vms1 Tryz.ntmps125 ?_
  refine callO.pc (Px.pc156 s c.toNat hc) ?_
  refine vms0 ?_
  refine endK.retA ?_;simp [evRes,getT,retV,Tryz.f125]
theorem pc80 (s:List UInt8) (c:UInt8) (hs:s.length≤4000000000):PC Tryz.prog 80 [.str s,.str [c]] (encCut (cutC c s)):=by
 have h57:=pc125 s c
 unfold Px.idxB at h57
 cases h:(cutC c s).2.2
 ·obtain ⟨h1,h2,h3⟩:=cut_no (i:=0) h
  rw [h1] at h57
  refine PC.walk tok mixed cfg0 Tryz.func80 rfl Tryz.call80 (by simp) (by first | rfl | simp) ?_;refine vms1 Tryz.ntmps80 ?_
  refine callO.pc h57 ?_
  refine vms0 ?_
  refine endK.retA ?_;simp [evRes,getT,retV,Tryz.f80,encCut,h,h2,h3]
 ·obtain ⟨h1,h2⟩:=cut_yes (i:=0) h
  rw [h1] at h57
  generalize hr:cutC c s=r at h57 h h2 ⊢
  obtain ⟨a,b,f⟩:=r
  simp only at h h2 h57 ⊢
  subst h
  subst h2
  have hl:(a++c::b).length=a.length+b.length+1:=by simp;omega
  have e0:((0:Nat):Int)+(a.length:Int)=(a.length:Int):=by omega
  rw [e0] at h57
  refine PC.walk tok mixed cfg0 Tryz.func80 rfl Tryz.call80 (by simp) (by first | rfl | simp) ?_;refine vms1 Tryz.ntmps80 ?_
  refine callO.pc h57 ?_
  refine vms1 hl ?_
  have q1:((a.length:Int)+(b.length:Int)+1).toNat-((a.length:Int)+1).toNat=b.length:=by omega
  have q2:((a.length:Int)+1).toNat=a.length+1:=by omega
  have q3:(a++c::b).drop (a.length+1)=b:=by
   have:a++c::b=(a++[c])++b:=by simp
   rw [this,List.drop_left' (by simp)]
  have q4:(a++c::b).take (a.length-0)=a:=by simp
  rw [q1,q2,q3,q4]
  refine endK.retA ?_;simp [evRes,getT,retV,Tryz.f80,encCut]
theorem pc46 (s:List UInt8) (c:UInt8) (hs:s.length≤4000000000):PC Tryz.prog 46 [.str s,.str [c]] (encCut (cutC c s)):=by
 refine PC.walk tok mixed cfg0 Tryz.func46 rfl Tryz.call46 (by simp) (by first | rfl | simp) ?_;refine vms1 Tryz.ntmps46 ?_
 refine callO.pc (pc80 s c hs) ?_
 simp (maxSteps:=2000000) -implicitDefEqProofs +contextual (disch:=first | assumption | omega | decide +kernel) only [push_cast,↓capI,seval,Nat.reduceLeDiff,Nat.reduceEqDiff,reduceCtorEq,↓reduceIte,encCut]
 refine endK.retA ?_;simp [evRes,getT,retV,Tryz.f46,encCut]
end
section
def rowS (ws:List (List UInt8)) (k:Nat):List V:=ws.map V.str++List.replicate k (.str [])
@[simp] theorem bel_row {n k:Nat} (ws:List (List UInt8)):belAll n (rowS ws k)=true:=by
 rw [rowS,belAll_append,belAll_map (fun _=>rfl) ws,Bool.true_and]
 refine belAll_iff.2 fun x hx=>?_
 rw [List.eq_of_mem_replicate hx]
 rfl
theorem len_row {k:Nat} (ws:List (List UInt8)):(rowS ws k).length=ws.length+k:=by simp [rowS]
theorem put_row {k:Nat} (w:List UInt8):∀(ws:List (List UInt8)),putV (rowS ws (k+1)) ws.length [.str w]=rowS (ws++[w]) k
 | []=>by simp [rowS,List.replicate_succ,putV]
 | x::ws=>by
  have:=put_row (k:=k) w ws
  simp only [rowS,List.map_cons,List.cons_append,List.length_cons,putV] at this ⊢
  rw [this]
@[simp] theorem bel_strs {n:Nat} (ws:List (List UInt8)):belAll n (ws.map V.str)=true:=belAll_map (fun _=>rfl) ws
theorem x189 (s:List UInt8) (c:UInt8):XCall Tryz.prog 189 [.str s,.int .u8 c.toNat] (.int .i64 (s.count c)):=by
 intro own w β vals h
 match vals,h with
 | [a,b],h =>
  simp only [VRs,VR,and_true] at h
  obtain ⟨rfl,rfl⟩:=h
  refine ⟨.int .i64 (s.count c),?_,by simp only [VR]⟩
  rw [run_callFunc_extern (fn:=Tryz.f189) (e:=Extern.BytealgCount.count) Tryz.func189 (by kernel_rfl) (by kernel_rfl) (by kernel_rfl) (by rfl)]
  rw [Lib.run_countString]
  have:(c.toNat:Int).toNat.toUInt8=c:=by simp
  simp [Lib.countByte,this]
 | [],h=>simp [VRs] at h
 | [_],h=>simp [VRs] at h
 | _::_::_::_,h=>simp [VRs] at h
attribute [local push_cast] cfg0 Px.take_rest ibeq_dec getD1
theorem pc161 (s:List UInt8) (c:UInt8):PC Tryz.prog 161 [.str s,.str [c]] (.int .i64 (s.count c)):=by
 refine PC.walk tok mixed cfg0 Tryz.func161 rfl Tryz.call161 (by simp) (by first | rfl | simp) ?_;refine vms1 Tryz.ntmps161 ?_
 refine callO.ext (x189 s c) ?_
 refine vms0 ?_
 refine endK.retA ?_;simp [evRes,getT,retV,Tryz.f161]
theorem pc162 (s:List UInt8) (c:UInt8):PC Tryz.prog 162 [.str s,.str [c]] (.int .i64 (Px.idxB s c.toNat)):=by
 refine PC.walk tok mixed cfg0 Tryz.func162 rfl Tryz.call162 (by simp) (by first | rfl | simp) ?_;refine vms1 Tryz.ntmps162 ?_
 refine callO.pc (pc125 s c) ?_
 refine vms0 ?_
 refine endK.retA ?_;simp [evRes,getT,retV,Tryz.f162]
theorem spl_count:∀s,(spl s).length=s.count 32+1
 | []=>rfl
 | c::s=>by
  have ih:=spl_count s
  rw [spl]
  by_cases h:c=32
  ·subst h
   rw [if_pos rfl,List.length_cons,ih,List.count_cons_self]
  ·rw [if_neg h,List.count_cons_of_ne (fun e=>h (by first | exact e | exact e.symm))]
   cases hs:spl s with
   | nil=>exact absurd hs (spl_ne s)
   | cons w ws=>rw [hs] at ih;simpa using ih
theorem spl_cut:∀s,spl s=if (cutC 32 s).2.2=true then (cutC 32 s).1::spl (cutC 32 s).2.1 else [s]
 | []=>rfl
 | c::s=>by
  have ih:=spl_cut s
  rw [spl,cutC]
  by_cases h:c=32
  ·rw [if_pos h,if_pos h];rfl
  ·rw [if_neg h,if_neg h]
   cases hb:(cutC 32 s).2.2
   ·rw [hb,if_neg (by simp)] at ih
    rw [ih]
    simp
   ·rw [hb,if_pos rfl] at ih
    rw [ih]
    simp
theorem cut_count:∀s:List UInt8,((cutC 32 s).2.2=false→s.count 32=0)∧((cutC 32 s).2.2=true→s.count 32=(cutC 32 s).2.1.count 32+1)
 | []=>⟨fun _=>rfl,fun h=>by cases h⟩
 | c::s=>by
  have ih:=cut_count s
  rw [cutC]
  by_cases h:c=32
  ·subst h
   rw [if_pos rfl,List.count_cons_self]
   exact ⟨(fun h=>by cases h),fun _=>rfl⟩
  ·rw [if_neg h,List.count_cons_of_ne (fun e=>h (by first | exact e | exact e.symm))]
   exact ih
theorem pc126 (s:List UInt8) (hs:s.length≤20000):PC Tryz.prog 126 [.str s,.str [32],.int .i64 0,.int .i64 (-1)] (.sl false ((spl s).map V.str) (spl s).length):=by
 have hc:=spl_count s
 have hcl:s.count 32≤s.length:=List.count_le_length
 have h82:=pc161 s 32
 generalize hN:s.count 32=N at hc hcl h82
 have hmin:¬(s.length:Int)+1<(N:Int)+1:=by omega
 have hT:((N:Int)+1).toNat=N+1:=by omega
 refine PC.walk tok mixed cfg0 Tryz.func126 rfl Tryz.call126 (by simp) (by first | rfl | simp) ?_;refine vms1 Tryz.ntmps126 ?_
 refine callO.pc h82 ?_
 simp (maxSteps:=2000000) -implicitDefEqProofs +contextual (disch:=first | assumption | omega | decide +kernel) only [push_cast,↓capI,seval,Nat.reduceLeDiff,Nat.reduceEqDiff,reduceCtorEq,↓reduceIte,hmin,hT,Int.add_sub_cancel]
 refine T.lp tok mixed cfg0 (fun ((i,r,ws):Nat × List UInt8 × List (List UInt8))=>sv (.str r) (kp 3 (dd 5 (kp 1 (sv (.int .i64 i) (dd 55 (nl))))))) (fun H0 ((i,r,ws):Nat × List UInt8 × List (List UInt8))=>[.cells 0 (rowS ws (N+1-i))]) (fun ((i,r,ws):Nat × List UInt8 × List (List UInt8))=>ws.length=i∧ws++spl r=spl s∧i+r.count 32=N∧r.length≤20000) (fun ((i,r,ws):Nat × List UInt8 × List (List UInt8))=>N-i) ((0,s,[])) ?_ ?_ ?_
 ·exact ⟨rfl,rfl,by omega,hs⟩
 ·exact Gn.canon (J:=[]) (by first | rfl | (simp [List.append_nil];done) | (simp [List.append_nil];rfl)) (by simp [wk,putT,kp,dd,sv,nl]) (by simp [List.length_append]) (by simp [kp,dd,sv,nl]) (by simp)
 rintro ⟨i,r,ws⟩ ⟨hw,hsp,hcn,hr⟩
 (try simp only at hw hsp hcn hr)
 have hiN:i≤N:=by omega
 refine vms0 ?_
 refine ⟨fun hlt=>?_,fun hge=>?_⟩
 ·have hf:(cutC 32 r).2.2=true:=by
   cases h:(cutC 32 r).2.2
   ·have:=(cut_count r).1 h;omega
   ·rfl
  have h83:=pc162 r 32
  have hcnt:=(cut_count r).2 hf
  have hcut:=spl_cut r
  rw [if_pos hf] at hcut
  obtain ⟨h1,h2⟩:=cut_yes (c:=32) (i:=0) hf
  unfold Px.idxB at h83
  rw [h1] at h83
  generalize cutC 32 r=q at h83 h2 hcut hcnt
  obtain ⟨a,b,f⟩:=q
  simp only at h83 h2 hcut hcnt
  have e0:((0:Nat):Int)+(a.length:Int)=(a.length:Int):=by omega
  rw [e0] at h83
  have hrl:r.length=a.length+b.length+1:=by rw [h2];simp;omega
  have q1:(r.length:Int).toNat-((a.length:Int)+1).toNat=b.length:=by omega
  have q2:((a.length:Int)+1).toNat=a.length+1:=by omega
  have q3:r.drop (a.length+1)=b:=by
   have:a++32::b=(a++[32])++b:=by simp
   rw [h2,this,List.drop_left' (by simp)]
  have q4:r.take a.length=a:=by rw [h2];simp
  have q5:b.take (r.length-(a.length+1))=b:=List.take_of_length_le (by omega)
  have ek:N+1-i=(N-i)+1:=by omega
  have hal:a.length≤20000:=by omega
  subst hw
  refine callO.pc h83 ?_
  have q6:List.take (((a.length:Int)+(b.length:Int)+1).toNat-(a.length+1)) b=b:=List.take_of_length_le (by omega)
  simp (maxSteps:=2000000) -implicitDefEqProofs +contextual (disch:=first | assumption | omega | decide +kernel) only [push_cast,↓capI,seval,Nat.reduceLeDiff,Nat.reduceEqDiff,reduceCtorEq,↓reduceIte,hrl,q2,q3,q4,q6,ek,put_row,len_row,Int.add_zero,Nat.sub_zero,Nat.mul_one]
  refine ⟨(ws.length+1,b,ws++[a]),⟨by simp,by rw [List.append_assoc,←hsp,hcut];rfl,by simp only;omega,by simp only;omega⟩,by (try simp only);omega,?_⟩;exact Gn.canon (by first | rfl | (simp [List.append_nil,Nat.add_sub_add_right];rfl)) (by simp [wk,Nat.add_sub_add_right]) (by simp [List.length_append]) (by simp) (by simp)
 ·have hiN2:i=N:=by omega
  subst hiN2
  have hc0:r.count 32=0:=by omega
  have hf:(cutC 32 r).2.2=false:=by
   cases h:(cutC 32 r).2.2
   ·rfl
   ·have:=(cut_count r).2 h;omega
  have hcut:=spl_cut r
  rw [hf,if_neg (by simp)] at hcut
  rw [hcut] at hsp
  rw [←hsp]
  subst hw
  have ek:ws.length+1-ws.length=0+1:=by omega
  simp (maxSteps:=2000000) -implicitDefEqProofs +contextual (disch:=first | assumption | omega | decide +kernel) only [push_cast,↓capI,seval,Nat.reduceLeDiff,Nat.reduceEqDiff,reduceCtorEq,↓reduceIte,ek,put_row,len_row,Nat.mul_one]
  have e1:((ws.length:Int)+1).toNat-0=ws.length+1:=by omega
  rw [e1]
  have hre:rowS (ws++[r]) 0=(ws++[r]).map V.str:=by simp [rowS]
  rw [hre]
  refine endK.gn (Gn.freeze (id:=0) rfl) ?_
  have hlen:(ws++[r]).length=ws.length+1:=by simp
  have htk:List.take (ws.length+1) ((ws++[r]).map V.str)=(ws++[r]).map V.str:=List.take_of_length_le (by rw [List.length_map,hlen];exact Nat.le_refl _)
  rw [←hlen] at htk ⊢
  generalize ws++[r]=L at htk ⊢
  refine endK.ret ?_ (by simp)
  simp [evRes,getT,retV,Tryz.f126,fzs,fz,Nat.beq,htk]
theorem pc81 (s:List UInt8) (hs:s.length≤20000):PC Tryz.prog 81 [.str s,.str [32]] (.sl false ((spl s).map V.str) (spl s).length):=by
 refine PC.walk tok mixed cfg0 Tryz.func81 rfl Tryz.call81 (by simp) (by first | rfl | simp) ?_;refine vms1 Tryz.ntmps81 ?_
 refine callO.pc (pc126 s hs) ?_
 refine vms0 ?_
 refine endK.retA ?_;simp [evRes,getT,retV,Tryz.f81]
end
end Go.Proofs.YtlbmbbaefncleaaGreatDoor

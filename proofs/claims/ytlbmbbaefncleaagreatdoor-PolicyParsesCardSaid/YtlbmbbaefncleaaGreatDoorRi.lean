/-
  Joined by a program from the texts Pol Aw0 Aw Awf Tit.
-/
import Derived.Test.YtlbmbbaefncleaaGreatDoorRb
import Derived.Test.YtlbmbbaefncleaaGreatDoorRc
import Derived.Test.YtlbmbbaefncleaaGreatDoorRd
import Derived.Test.YtlbmbbaefncleaaGreatDoorRg
import Derived.Test.YtlbmbbaefncleaaGreatDoorRh
import Derived.Test.YtlbmbbaefncleaaGreatDoorRa
import Derived.Test.YtlbmbbaefncleaaGreatDoorSl
set_option maxRecDepth 100000
set_option maxHeartbeats 4000000
set_option linter.all false
namespace Go.Proofs.YtlbmbbaefncleaaGreatDoor.Pd
open Go.Vm
theorem parP_cases (s:List UInt8):(∃p,okP p∧(flat p).length≤24∧tx p=s∧parP s=(flat p,0))∨((parP s).1=[]∧(parP s).2≠0):=by
  rw [parP]
  split
  · exact .inr ⟨rfl,by simp⟩
  rename_i h
  have heat:=pOr_eats (s.length+1) s
  cases hx:pOr (s.length+1) s with
  | none=>exact .inr ⟨rfl,by simp [parQ]⟩
  | some q =>
    obtain ⟨p,t⟩:=q
    obtain ⟨hlen,hok⟩:=heat p _ hx
    cases t with
    | cons c u=>exact .inr ⟨rfl,by simp [parQ]⟩
    | nil =>
      rw [parQ]
      split
      · exact .inr ⟨rfl,by simp⟩
      split
      · rename_i h24 ht
        exact .inl ⟨p,hok,by omega,ht,rfl⟩
      · exact .inr ⟨rfl,by simp⟩
end Go.Proofs.YtlbmbbaefncleaaGreatDoor.Pd
namespace Go.Proofs.YtlbmbbaefncleaaGreatDoor.Px
open Go.Vm
theorem parP_cases (s:List UInt8):(∃p,okP 1000000000 p∧(flat p).length≤24∧tx p=s∧parP s=(flat p,0))∨((parP s).1=[]∧(parP s).2≠0):=by
  rw [parP]
  split
  · exact .inr ⟨rfl,by simp⟩
  rename_i h
  have heat:=pOr_eats (s.length+1) s
  cases hx:pOr (s.length+1) s with
  | none=>exact .inr ⟨rfl,by simp [parQ]⟩
  | some q =>
    obtain ⟨p,t⟩:=q
    obtain ⟨hlen,hok⟩:=heat p _ hx
    cases t with
    | cons c u=>exact .inr ⟨rfl,by simp [parQ]⟩
    | nil =>
      rw [parQ]
      split
      · exact .inr ⟨rfl,by simp⟩
      split
      · rename_i h24 ht
        exact .inl ⟨p,hok,by omega,ht,rfl⟩
      · exact .inr ⟨rfl,by simp⟩
end Go.Proofs.YtlbmbbaefncleaaGreatDoor.Px
namespace Go.Proofs.YtlbmbbaefncleaaGreatDoor
open Go.Vm
structure Tr where
  f:Int
  t:Int
  p:Pd.Pr
  q:Px.Pr
def okT (r:Tr):Prop:=(hostB r.f=true∧hostB r.t=true)∧(Pd.okP r.p∧(Pd.flat r.p).length≤24)∧Px.okP 1000000000 r.q∧(Px.flat r.q).length≤24
def ruT (r:Tr):Ru:=⟨r.f,r.t,Pd.flat r.p,Px.flat r.q⟩
def gT (r:Tr):Rg:=⟨r.f,r.t,Pd.slN (Pd.flat r.p),Px.slN (Px.flat r.q),Pd.tx r.p,Px.tx r.q,0,0⟩
def txT (T:List Tr):List UInt8:=txtG (T.map gT)
theorem txT_cons (r:Tr) (T:List Tr):txT (r::T)=headG (gT r)++10::(Pd.tx r.p++10::(Px.tx r.q++10::txT T)):=by
  simp [txT,txtG,lineG,gT]
inductive Ph
  | a
  | b (f t:Int)
  | c (f t:Int) (p:List Pd.Nd)
def phN:Ph→Nat
  | .a=>0
  | .b _ _=>1
  | .c _ _ _=>2
def titW:List (List UInt8)→Int × Int × Int
  | [w,a,b]=>if w=[114,117,108,101] then
      (if (Px.parseI a).2=true∧(Px.parseI b).2=true then
        (if hostB (Px.parseI a).1=true∧hostB (Px.parseI b).1=true then ((Px.parseI a).1,(Px.parseI b).1,0) else (0,0,9))
       else (0,0,5))
    else (0,0,5)
  | _=>(0,0,5)
def titE (s:List UInt8):Int × Int × Int:=titW (spl s)
def stepP (d:List Ru):Ph→List UInt8→Int × List Ru × Ph
  | .a,s=>if 32≤d.length then (12,d,.a) else ((titE s).2.2,d,.b (titE s).1 (titE s).2.1)
  | .b f t,s=>((Pd.parP s).2,d,.c f t (Pd.parP s).1)
  | .c f t p,s=>((Px.parP s).2,d++[⟨f,t,p,(Px.parP s).1⟩],.a)
def endP (d:List Ru):Ph→List Ru × Int × Int
  | .a=>(d,0,0)
  | _=>([],0,3)
def polF:Nat→Nat→List Ru→Ph→List UInt8→List Ru × Int × Int
  | 0,_,_,_,_=>([],0,0)
  | k+1,n,d,ph,s =>
    if s=[] then endP d ph
    else if (cutC 10 s).2.2=true then
      (if (stepP d ph (cutC 10 s).1).1=0 then polF k (n+1) (stepP d ph (cutC 10 s).1).2.1 (stepP d ph (cutC 10 s).1).2.2 (cutC 10 s).2.1
       else ([],((n+1:Nat):Int),(stepP d ph (cutC 10 s).1).1))
    else ([],((n+1:Nat):Int),5)
def polP (s:List UInt8):List Ru × Int × Int:=if 16384<s.length then ([],0,4) else polF (s.length+1) 0 [] .a s
def Gd (d l:List Ru) (s:List UInt8):Ph→Prop
  | .a=>∃T:List Tr,(∀r ∈ T,okT r)∧l=d++T.map ruT∧txT T=s∧d.length+T.length≤32
  | .b f t=>∃(p:Pd.Pr) (q:Px.Pr) (T:List Tr),(Pd.okP p∧(Pd.flat p).length≤24)∧(Px.okP 1000000000 q∧(Px.flat q).length≤24)∧(∀r ∈ T,okT r) ∧
      l=d++⟨f,t,Pd.flat p,Px.flat q⟩::T.map ruT∧Pd.tx p++10::(Px.tx q++10::txT T)=s∧d.length+1+T.length≤32
  | .c f t pn=>∃(q:Px.Pr) (T:List Tr),(Px.okP 1000000000 q∧(Px.flat q).length≤24)∧(∀r ∈ T,okT r) ∧
      l=d++⟨f,t,pn,Px.flat q⟩::T.map ruT∧Px.tx q++10::txT T=s∧d.length+1+T.length≤32
theorem valL_dig:∀ {d:List UInt8} {v r:Nat},Px.valL d v=some r→∀c,c ∈ d→Px.isDig c=true
  | [],_,_,_,c,hc=>by cases hc
  | x::d,v,r,h,c,hc=>by
    rw [Px.valL] at h
    split at h
    · rename_i hx
      rcases List.mem_cons.1 hc with rfl | hc
      · exact hx
      · exact valL_dig h c hc
    · cases h
theorem host_text {a:List UInt8} (h:(Px.parseI a).2=true) (hh:hostB (Px.parseI a).1=true):decH (Px.parseI a).1=a:=by
  obtain ⟨h0,h16⟩:=hostB_iff.1 hh
  unfold Px.parseI at h h0 h16 ⊢
  split at h
  · rename_i hb
    rw [if_pos hb] at h0 h16 ⊢
    split at h
    · simp at h
    rename_i hc
    rw [if_neg hc] at h0 h16 ⊢
    cases hv:Px.valL (a.drop 1) 0 with
    | none=>rw [hv] at h;simp at h
    | some v =>
      rw [hv] at h h0
      simp only at h h0
      split at h
      · simp at h
      · rename_i hv0
        rw [if_neg hv0] at h0
        simp only at h0
        omega
  · rename_i hb
    rw [if_neg hb] at h0 h16 ⊢
    split at h
    · simp at h
    rename_i hc
    rw [if_neg hc] at h0 h16 ⊢
    cases hv:Px.valL a 0 with
    | none=>rw [hv] at h;simp at h
    | some v =>
      rw [hv] at h0 h16
      simp only at h0 h16 ⊢
      have hcan:Px.canonD a=true:=by
        cases hq:Px.canonD a
        · exact absurd (.inr hq) hc
        · rfl
      have hdig:=valL_dig hv
      have e:=Px.dgs_val 9 a v (by intro e;subst e;cases hcan) (by omega) hdig hcan hv
      have hv16:v<16:=by omega
      rw [←e]
      have hall:∀v:Fin 16,decH ((v.1:Nat):Int)=Px.dgs 9 v.1:=by decide +kernel
      exact hall ⟨v,hv16⟩
theorem tit_inv {s:List UInt8} (h:(titE s).2.2=0):(hostB (titE s).1=true∧hostB (titE s).2.1=true)∧∀r:Rg,r.f=(titE s).1→r.t=(titE s).2.1→headG r=s:=by
  have hj:=jnw_spl s
  unfold titE at h ⊢
  match hs:spl s,h with
  | [w,a,b],h =>
    rw [hs] at hj
    rw [titW] at h ⊢
    split at h
    · rename_i hw
      rw [if_pos hw]
      split at h
      · rename_i hp
        rw [if_pos hp]
        split at h
        · rename_i hh
          rw [if_pos hh]
          refine ⟨hh,fun r hf ht=>?_⟩
          have ea:=host_text hp.1 hh.1
          have eb:=host_text hp.2 hh.2
          rw [←hj,headG,hf,ht,ea,eb,hw]
          simp [jnw]
        · simp at h
      · simp at h
    · simp at h
  | [],h=>simp [titW] at h
  | [_],h=>simp [titW] at h
  | [_,_],h=>simp [titW] at h
  | _::_::_::_::_,h=>simp [titW] at h
theorem pol_inv:∀(k n:Nat) (d:List Ru) (ph:Ph) (s:List UInt8) (l:List Ru) (a:Int),s.length<k→(match ph with | .a=>d.length≤32 | _=>d.length<32) →
    polF k n d ph s=(l,a,0)→a=0∧Gd d l s ph
  | 0,_,_,_,_,_,_,hk,_,_=>absurd hk (Nat.not_lt_zero _)
  | k+1,n,d,ph,s,l,a,hk,hd,e=>by
    rw [polF] at e
    split at e
    · rename_i hs
      subst hs
      cases ph with
      | a =>
        simp only [endP,Prod.mk.injEq] at e
        refine ⟨e.2.1.symm,[],(fun r hr=>by cases hr),?_,rfl,hd⟩
        rw [←e.1];simp
      | b f t=>simp [endP] at e
      | c f t p=>simp [endP] at e
    split at e
    case isFalse=>simp at e
    rename_i hs hc
    have hj:=cut_join hc
    have hl:(cutC 10 s).2.1.length<k:=by
      have:=congrArg List.length hj
      rw [List.length_append,List.length_cons] at this
      omega
    generalize (cutC 10 s).1=u at e hj
    generalize (cutC 10 s).2.1=v at e hj hl
    split at e
    case isFalse=>rename_i h0;simp only [Prod.mk.injEq] at e;exact absurd e.2.2 h0
    rename_i h0
    cases ph with
    | a =>
      simp only at hd
      rw [stepP] at h0 e
      split at h0
      · simp at h0
      rename_i h32
      rw [if_neg h32] at e
      simp only at h0 e
      obtain ⟨ha,p,q,T,hp,hq,hT,hl2,ht,hn⟩:=pol_inv k (n+1) d (.b (titE u).1 (titE u).2.1) v l a hl (by simp only;omega) e
      obtain ⟨hh,hx⟩:=tit_inv h0
      refine ⟨ha,⟨(titE u).1,(titE u).2.1,p,q⟩::T,?_,hl2,?_,by rw [List.length_cons];omega⟩
      · intro r hr
        rcases List.mem_cons.1 hr with rfl | hr
        · exact ⟨hh,hp,hq⟩
        · exact hT r hr
      · rw [txT_cons,hx _ rfl rfl,hj,←ht]
    | b f t =>
      simp only at hd
      rw [stepP] at h0 e
      simp only at h0 e
      obtain ⟨ha,q,T,hq,hT,hl2,ht,hn⟩:=pol_inv k (n+1) d (.c f t (Pd.parP u).1) v l a hl (by simp only;omega) e
      rcases Pd.parP_cases u with ⟨p,hok,h24,htx,ep⟩ | ⟨_,e2⟩
      · rw [ep] at hl2
        exact ⟨ha,p,q,T,⟨hok,h24⟩,hq,hT,hl2,by rw [hj,←ht,htx],hn⟩
      · exact absurd h0 e2
    | c f t p =>
      simp only at hd
      rw [stepP] at h0 e
      simp only at h0 e
      obtain ⟨ha,T,hT,hl2,ht,hn⟩:=pol_inv k (n+1) (d++[⟨f,t,p,(Px.parP u).1⟩]) .a v l a hl (by simp only [List.length_append,List.length_singleton];omega) e
      rcases Px.parP_cases u with ⟨q,hok,h24,htx,ep⟩ | ⟨_,e2⟩
      · rw [ep] at hl2
        refine ⟨ha,q,T,⟨hok,h24⟩,hT,by rw [hl2];simp,by rw [hj,←ht,htx],?_⟩
        rw [List.length_append,List.length_singleton] at hn
        exact hn
      · exact absurd h0 e2
theorem polF_bad:∀(k n:Nat) (d:List Ru) (ph:Ph) (s:List UInt8),(polF k n d ph s).2.2≠0→(polF k n d ph s).1=[]
  | 0,_,_,_,_,_=>rfl
  | k+1,n,d,ph,s,h=>by
    rw [polF] at h ⊢
    split
    · rename_i hs
      rw [if_pos hs] at h
      cases ph with
      | a=>exact absurd rfl h
      | b f t=>rfl
      | c f t p=>rfl
    rename_i hs
    rw [if_neg hs] at h
    split
    · rename_i hc
      rw [if_pos hc] at h
      split
      · rename_i h0
        rw [if_pos h0] at h
        exact polF_bad k _ _ _ _ h
      · rfl
    · rfl
theorem polP_cases (s:List UInt8):((polP s).1=[]∧(polP s).2.2≠0)∨∃T:List Tr,(∀r ∈ T,okT r)∧T.length≤32∧txT T=s∧s.length≤16384∧polP s=(T.map ruT,0,0):=by
  by_cases h:16384<s.length
  · exact .inl (by rw [polP,if_pos h];exact ⟨rfl,by simp⟩)
  by_cases h0:(polF (s.length+1) 0 [] .a s).2.2=0
  · obtain ⟨ha,T,hT,hl,ht,hn⟩:=pol_inv (s.length+1) 0 [] .a s (polF (s.length+1) 0 [] .a s).1 (polF (s.length+1) 0 [] .a s).2.1 (Nat.lt_succ_self _) (Nat.zero_le _) (by rw [←h0])
    refine .inr ⟨T,hT,by simpa using hn,ht,by omega,?_⟩
    rw [polP,if_neg h]
    refine Prod.ext ?_ (Prod.ext ha h0)
    rw [hl,List.nil_append]
  · exact .inl (by rw [polP,if_neg h];exact ⟨polF_bad _ _ _ _ _ h0,h0⟩)
end Go.Proofs.YtlbmbbaefncleaaGreatDoor
namespace Go.Proofs.YtlbmbbaefncleaaGreatDoor
open Go.Vm
section
theorem mixed':Tryz.prog.follows .mixedOrders=true:=by kernel_rfl
noncomputable def tbl:(k:Nat)→Option (FnAt Tryz.prog k)
 | 9=>some ⟨Tryz.f9,_,Tryz.func9,rfl,Tryz.call9⟩
 | 10=>some ⟨Tryz.f10,_,Tryz.func10,rfl,Tryz.call10⟩
 | 11=>some ⟨Tryz.f11,_,Tryz.func11,rfl,Tryz.call11⟩
 | 12=>some ⟨Tryz.f12,_,Tryz.func12,rfl,Tryz.call12⟩
 | 13=>some ⟨Tryz.f13,_,Tryz.func13,rfl,Tryz.call13⟩
 | 14=>some ⟨Tryz.f14,_,Tryz.func14,rfl,Tryz.call14⟩
 | 15=>some ⟨Tryz.f15,_,Tryz.func15,rfl,Tryz.call15⟩
 | 16=>some ⟨Tryz.f16,_,Tryz.func16,rfl,Tryz.call16⟩
 | 17=>some ⟨Tryz.f17,_,Tryz.func17,rfl,Tryz.call17⟩
 | 18=>some ⟨Tryz.f18,_,Tryz.func18,rfl,Tryz.call18⟩
 | 19=>some ⟨Tryz.f19,_,Tryz.func19,rfl,Tryz.call19⟩
 | 20=>some ⟨Tryz.f20,_,Tryz.func20,rfl,Tryz.call20⟩
 | 21=>some ⟨Tryz.f21,_,Tryz.func21,rfl,Tryz.call21⟩
 | 22=>some ⟨Tryz.f22,_,Tryz.func22,rfl,Tryz.call22⟩
 | 23=>some ⟨Tryz.f23,_,Tryz.func23,rfl,Tryz.call23⟩
 | 24=>some ⟨Tryz.f24,_,Tryz.func24,rfl,Tryz.call24⟩
 | 25=>some ⟨Tryz.f25,_,Tryz.func25,rfl,Tryz.call25⟩
 | 26=>some ⟨Tryz.f26,_,Tryz.func26,rfl,Tryz.call26⟩
 | 27=>some ⟨Tryz.f27,_,Tryz.func27,rfl,Tryz.call27⟩
 | 28=>some ⟨Tryz.f28,_,Tryz.func28,rfl,Tryz.call28⟩
 | 29=>some ⟨Tryz.f29,_,Tryz.func29,rfl,Tryz.call29⟩
 | 30=>some ⟨Tryz.f30,_,Tryz.func30,rfl,Tryz.call30⟩
 | 31=>some ⟨Tryz.f31,_,Tryz.func31,rfl,Tryz.call31⟩
 | 32=>some ⟨Tryz.f32,_,Tryz.func32,rfl,Tryz.call32⟩
 | 33=>some ⟨Tryz.f33,_,Tryz.func33,rfl,Tryz.call33⟩
 | 34=>some ⟨Tryz.f34,_,Tryz.func34,rfl,Tryz.call34⟩
 | 35=>some ⟨Tryz.f35,_,Tryz.func35,rfl,Tryz.call35⟩
 | 36=>some ⟨Tryz.f36,_,Tryz.func36,rfl,Tryz.call36⟩
 | 37=>some ⟨Tryz.f37,_,Tryz.func37,rfl,Tryz.call37⟩
 | 38=>some ⟨Tryz.f38,_,Tryz.func38,rfl,Tryz.call38⟩
 | 39=>some ⟨Tryz.f39,_,Tryz.func39,rfl,Tryz.call39⟩
 | 40=>some ⟨Tryz.f40,_,Tryz.func40,rfl,Tryz.call40⟩
 | 41=>some ⟨Tryz.f41,_,Tryz.func41,rfl,Tryz.call41⟩
 | 42=>some ⟨Tryz.f42,_,Tryz.func42,rfl,Tryz.call42⟩
 | 43=>some ⟨Tryz.f43,_,Tryz.func43,rfl,Tryz.call43⟩
 | 44=>some ⟨Tryz.f44,_,Tryz.func44,rfl,Tryz.call44⟩
 | 45=>some ⟨Tryz.f45,_,Tryz.func45,rfl,Tryz.call45⟩
 | 46=>some ⟨Tryz.f46,_,Tryz.func46,rfl,Tryz.call46⟩
 | 47=>some ⟨Tryz.f47,_,Tryz.func47,rfl,Tryz.call47⟩
 | 48=>some ⟨Tryz.f48,_,Tryz.func48,rfl,Tryz.call48⟩
 | 49=>some ⟨Tryz.f49,_,Tryz.func49,rfl,Tryz.call49⟩
 | 50=>some ⟨Tryz.f50,_,Tryz.func50,rfl,Tryz.call50⟩
 | 51=>some ⟨Tryz.f51,_,Tryz.func51,rfl,Tryz.call51⟩
 | 52=>some ⟨Tryz.f52,_,Tryz.func52,rfl,Tryz.call52⟩
 | 53=>some ⟨Tryz.f53,_,Tryz.func53,rfl,Tryz.call53⟩
 | 54=>some ⟨Tryz.f54,_,Tryz.func54,rfl,Tryz.call54⟩
 | 55=>some ⟨Tryz.f55,_,Tryz.func55,rfl,Tryz.call55⟩
 | 56=>some ⟨Tryz.f56,_,Tryz.func56,rfl,Tryz.call56⟩
 | 57=>some ⟨Tryz.f57,_,Tryz.func57,rfl,Tryz.call57⟩
 | 58=>some ⟨Tryz.f58,_,Tryz.func58,rfl,Tryz.call58⟩
 | 59=>some ⟨Tryz.f59,_,Tryz.func59,rfl,Tryz.call59⟩
 | 60=>some ⟨Tryz.f60,_,Tryz.func60,rfl,Tryz.call60⟩
 | 61=>some ⟨Tryz.f61,_,Tryz.func61,rfl,Tryz.call61⟩
 | 62=>some ⟨Tryz.f62,_,Tryz.func62,rfl,Tryz.call62⟩
 | 63=>some ⟨Tryz.f63,_,Tryz.func63,rfl,Tryz.call63⟩
 | 64=>some ⟨Tryz.f64,_,Tryz.func64,rfl,Tryz.call64⟩
 | 65=>some ⟨Tryz.f65,_,Tryz.func65,rfl,Tryz.call65⟩
 | 66=>some ⟨Tryz.f66,_,Tryz.func66,rfl,Tryz.call66⟩
 | 67=>some ⟨Tryz.f67,_,Tryz.func67,rfl,Tryz.call67⟩
 | 68=>some ⟨Tryz.f68,_,Tryz.func68,rfl,Tryz.call68⟩
 | 69=>some ⟨Tryz.f69,_,Tryz.func69,rfl,Tryz.call69⟩
 | 70=>some ⟨Tryz.f70,_,Tryz.func70,rfl,Tryz.call70⟩
 | 71=>some ⟨Tryz.f71,_,Tryz.func71,rfl,Tryz.call71⟩
 | 72=>some ⟨Tryz.f72,_,Tryz.func72,rfl,Tryz.call72⟩
 | 73=>some ⟨Tryz.f73,_,Tryz.func73,rfl,Tryz.call73⟩
 | 74=>some ⟨Tryz.f74,_,Tryz.func74,rfl,Tryz.call74⟩
 | 75=>some ⟨Tryz.f75,_,Tryz.func75,rfl,Tryz.call75⟩
 | 77=>some ⟨Tryz.f77,_,Tryz.func77,rfl,Tryz.call77⟩
 | 78=>some ⟨Tryz.f78,_,Tryz.func78,rfl,Tryz.call78⟩
 | 79=>some ⟨Tryz.f79,_,Tryz.func79,rfl,Tryz.call79⟩
 | 80=>some ⟨Tryz.f80,_,Tryz.func80,rfl,Tryz.call80⟩
 | 82=>some ⟨Tryz.f82,_,Tryz.func82,rfl,Tryz.call82⟩
 | 83=>some ⟨Tryz.f83,_,Tryz.func83,rfl,Tryz.call83⟩
 | 84=>some ⟨Tryz.f84,_,Tryz.func84,rfl,Tryz.call84⟩
 | 85=>some ⟨Tryz.f85,_,Tryz.func85,rfl,Tryz.call85⟩
 | 86=>some ⟨Tryz.f86,_,Tryz.func86,rfl,Tryz.call86⟩
 | 87=>some ⟨Tryz.f87,_,Tryz.func87,rfl,Tryz.call87⟩
 | 88=>some ⟨Tryz.f88,_,Tryz.func88,rfl,Tryz.call88⟩
 | 89=>some ⟨Tryz.f89,_,Tryz.func89,rfl,Tryz.call89⟩
 | 90=>some ⟨Tryz.f90,_,Tryz.func90,rfl,Tryz.call90⟩
 | 91=>some ⟨Tryz.f91,_,Tryz.func91,rfl,Tryz.call91⟩
 | 92=>some ⟨Tryz.f92,_,Tryz.func92,rfl,Tryz.call92⟩
 | 93=>some ⟨Tryz.f93,_,Tryz.func93,rfl,Tryz.call93⟩
 | 94=>some ⟨Tryz.f94,_,Tryz.func94,rfl,Tryz.call94⟩
 | 95=>some ⟨Tryz.f95,_,Tryz.func95,rfl,Tryz.call95⟩
 | 96=>some ⟨Tryz.f96,_,Tryz.func96,rfl,Tryz.call96⟩
 | 97=>some ⟨Tryz.f97,_,Tryz.func97,rfl,Tryz.call97⟩
 | 98=>some ⟨Tryz.f98,_,Tryz.func98,rfl,Tryz.call98⟩
 | 99=>some ⟨Tryz.f99,_,Tryz.func99,rfl,Tryz.call99⟩
 | 100=>some ⟨Tryz.f100,_,Tryz.func100,rfl,Tryz.call100⟩
 | 101=>some ⟨Tryz.f101,_,Tryz.func101,rfl,Tryz.call101⟩
 | 102=>some ⟨Tryz.f102,_,Tryz.func102,rfl,Tryz.call102⟩
 | 103=>some ⟨Tryz.f103,_,Tryz.func103,rfl,Tryz.call103⟩
 | 104=>some ⟨Tryz.f104,_,Tryz.func104,rfl,Tryz.call104⟩
 | 105=>some ⟨Tryz.f105,_,Tryz.func105,rfl,Tryz.call105⟩
 | 106=>some ⟨Tryz.f106,_,Tryz.func106,rfl,Tryz.call106⟩
 | 107=>some ⟨Tryz.f107,_,Tryz.func107,rfl,Tryz.call107⟩
 | 108=>some ⟨Tryz.f108,_,Tryz.func108,rfl,Tryz.call108⟩
 | 109=>some ⟨Tryz.f109,_,Tryz.func109,rfl,Tryz.call109⟩
 | 110=>some ⟨Tryz.f110,_,Tryz.func110,rfl,Tryz.call110⟩
 | 111=>some ⟨Tryz.f111,_,Tryz.func111,rfl,Tryz.call111⟩
 | 112=>some ⟨Tryz.f112,_,Tryz.func112,rfl,Tryz.call112⟩
 | 113=>some ⟨Tryz.f113,_,Tryz.func113,rfl,Tryz.call113⟩
 | 114=>some ⟨Tryz.f114,_,Tryz.func114,rfl,Tryz.call114⟩
 | 115=>some ⟨Tryz.f115,_,Tryz.func115,rfl,Tryz.call115⟩
 | 116=>some ⟨Tryz.f116,_,Tryz.func116,rfl,Tryz.call116⟩
 | 117=>some ⟨Tryz.f117,_,Tryz.func117,rfl,Tryz.call117⟩
 | 118=>some ⟨Tryz.f118,_,Tryz.func118,rfl,Tryz.call118⟩
 | 119=>some ⟨Tryz.f119,_,Tryz.func119,rfl,Tryz.call119⟩
 | 121=>some ⟨Tryz.f121,_,Tryz.func121,rfl,Tryz.call121⟩
 | 122=>some ⟨Tryz.f122,_,Tryz.func122,rfl,Tryz.call122⟩
 | 123=>some ⟨Tryz.f123,_,Tryz.func123,rfl,Tryz.call123⟩
 | 124=>some ⟨Tryz.f124,_,Tryz.func124,rfl,Tryz.call124⟩
 | 125=>some ⟨Tryz.f125,_,Tryz.func125,rfl,Tryz.call125⟩
 | 126=>some ⟨Tryz.f126,_,Tryz.func126,rfl,Tryz.call126⟩
 | 127=>some ⟨Tryz.f127,_,Tryz.func127,rfl,Tryz.call127⟩
 | 128=>some ⟨Tryz.f128,_,Tryz.func128,rfl,Tryz.call128⟩
 | 129=>some ⟨Tryz.f129,_,Tryz.func129,rfl,Tryz.call129⟩
 | 130=>some ⟨Tryz.f130,_,Tryz.func130,rfl,Tryz.call130⟩
 | 131=>some ⟨Tryz.f131,_,Tryz.func131,rfl,Tryz.call131⟩
 | 132=>some ⟨Tryz.f132,_,Tryz.func132,rfl,Tryz.call132⟩
 | 133=>some ⟨Tryz.f133,_,Tryz.func133,rfl,Tryz.call133⟩
 | 134=>some ⟨Tryz.f134,_,Tryz.func134,rfl,Tryz.call134⟩
 | 135=>some ⟨Tryz.f135,_,Tryz.func135,rfl,Tryz.call135⟩
 | 136=>some ⟨Tryz.f136,_,Tryz.func136,rfl,Tryz.call136⟩
 | 137=>some ⟨Tryz.f137,_,Tryz.func137,rfl,Tryz.call137⟩
 | 138=>some ⟨Tryz.f138,_,Tryz.func138,rfl,Tryz.call138⟩
 | 139=>some ⟨Tryz.f139,_,Tryz.func139,rfl,Tryz.call139⟩
 | 140=>some ⟨Tryz.f140,_,Tryz.func140,rfl,Tryz.call140⟩
 | 141=>some ⟨Tryz.f141,_,Tryz.func141,rfl,Tryz.call141⟩
 | 142=>some ⟨Tryz.f142,_,Tryz.func142,rfl,Tryz.call142⟩
 | 143=>some ⟨Tryz.f143,_,Tryz.func143,rfl,Tryz.call143⟩
 | 144=>some ⟨Tryz.f144,_,Tryz.func144,rfl,Tryz.call144⟩
 | 145=>some ⟨Tryz.f145,_,Tryz.func145,rfl,Tryz.call145⟩
 | 146=>some ⟨Tryz.f146,_,Tryz.func146,rfl,Tryz.call146⟩
 | 147=>some ⟨Tryz.f147,_,Tryz.func147,rfl,Tryz.call147⟩
 | 148=>some ⟨Tryz.f148,_,Tryz.func148,rfl,Tryz.call148⟩
 | 149=>some ⟨Tryz.f149,_,Tryz.func149,rfl,Tryz.call149⟩
 | 150=>some ⟨Tryz.f150,_,Tryz.func150,rfl,Tryz.call150⟩
 | 151=>some ⟨Tryz.f151,_,Tryz.func151,rfl,Tryz.call151⟩
 | 152=>some ⟨Tryz.f152,_,Tryz.func152,rfl,Tryz.call152⟩
 | 153=>some ⟨Tryz.f153,_,Tryz.func153,rfl,Tryz.call153⟩
 | 154=>some ⟨Tryz.f154,_,Tryz.func154,rfl,Tryz.call154⟩
 | 155=>some ⟨Tryz.f155,_,Tryz.func155,rfl,Tryz.call155⟩
 | 156=>some ⟨Tryz.f156,_,Tryz.func156,rfl,Tryz.call156⟩
 | 163=>some ⟨Tryz.f163,_,Tryz.func163,rfl,Tryz.call163⟩
 | 164=>some ⟨Tryz.f164,_,Tryz.func164,rfl,Tryz.call164⟩
 | 165=>some ⟨Tryz.f165,_,Tryz.func165,rfl,Tryz.call165⟩
 | 166=>some ⟨Tryz.f166,_,Tryz.func166,rfl,Tryz.call166⟩
 | 167=>some ⟨Tryz.f167,_,Tryz.func167,rfl,Tryz.call167⟩
 | 168=>some ⟨Tryz.f168,_,Tryz.func168,rfl,Tryz.call168⟩
 | 169=>some ⟨Tryz.f169,_,Tryz.func169,rfl,Tryz.call169⟩
 | 170=>some ⟨Tryz.f170,_,Tryz.func170,rfl,Tryz.call170⟩
 | 171=>some ⟨Tryz.f171,_,Tryz.func171,rfl,Tryz.call171⟩
 | 172=>some ⟨Tryz.f172,_,Tryz.func172,rfl,Tryz.call172⟩
 | 173=>some ⟨Tryz.f173,_,Tryz.func173,rfl,Tryz.call173⟩
 | 174=>some ⟨Tryz.f174,_,Tryz.func174,rfl,Tryz.call174⟩
 | 175=>some ⟨Tryz.f175,_,Tryz.func175,rfl,Tryz.call175⟩
 | 176=>some ⟨Tryz.f176,_,Tryz.func176,rfl,Tryz.call176⟩
 | 177=>some ⟨Tryz.f177,_,Tryz.func177,rfl,Tryz.call177⟩
 | 178=>some ⟨Tryz.f178,_,Tryz.func178,rfl,Tryz.call178⟩
 | 179=>some ⟨Tryz.f179,_,Tryz.func179,rfl,Tryz.call179⟩
 | 180=>some ⟨Tryz.f180,_,Tryz.func180,rfl,Tryz.call180⟩
 | 181=>some ⟨Tryz.f181,_,Tryz.func181,rfl,Tryz.call181⟩
 | 182=>some ⟨Tryz.f182,_,Tryz.func182,rfl,Tryz.call182⟩
 | 183=>some ⟨Tryz.f183,_,Tryz.func183,rfl,Tryz.call183⟩
 | 184=>some ⟨Tryz.f184,_,Tryz.func184,rfl,Tryz.call184⟩
 | 186=>some ⟨Tryz.f186,_,Tryz.func186,rfl,Tryz.call186⟩
 | 187=>some ⟨Tryz.f187,_,Tryz.func187,rfl,Tryz.call187⟩
 | 188=>some ⟨Tryz.f188,_,Tryz.func188,rfl,Tryz.call188⟩
 | 190=>some ⟨Tryz.f190,_,Tryz.func190,rfl,Tryz.call190⟩
 | 191=>some ⟨Tryz.f191,_,Tryz.func191,rfl,Tryz.call191⟩
 | 192=>some ⟨Tryz.f192,_,Tryz.func192,rfl,Tryz.call192⟩
 | 193=>some ⟨Tryz.f193,_,Tryz.func193,rfl,Tryz.call193⟩
 | 194=>some ⟨Tryz.f194,_,Tryz.func194,rfl,Tryz.call194⟩
 | 195=>some ⟨Tryz.f195,_,Tryz.func195,rfl,Tryz.call195⟩
 | 196=>some ⟨Tryz.f196,_,Tryz.func196,rfl,Tryz.call196⟩
 | 197=>some ⟨Tryz.f197,_,Tryz.func197,rfl,Tryz.call197⟩
 | 198=>some ⟨Tryz.f198,_,Tryz.func198,rfl,Tryz.call198⟩
 | 199=>some ⟨Tryz.f199,_,Tryz.func199,rfl,Tryz.call199⟩
 | 200=>some ⟨Tryz.f200,_,Tryz.func200,rfl,Tryz.call200⟩
 | 201=>some ⟨Tryz.f201,_,Tryz.func201,rfl,Tryz.call201⟩
 | 202=>some ⟨Tryz.f202,_,Tryz.func202,rfl,Tryz.call202⟩
 | 203=>some ⟨Tryz.f203,_,Tryz.func203,rfl,Tryz.call203⟩
 | 204=>some ⟨Tryz.f204,_,Tryz.func204,rfl,Tryz.call204⟩
 | 205=>some ⟨Tryz.f205,_,Tryz.func205,rfl,Tryz.call205⟩
 | 206=>some ⟨Tryz.f206,_,Tryz.func206,rfl,Tryz.call206⟩
 | 207=>some ⟨Tryz.f207,_,Tryz.func207,rfl,Tryz.call207⟩
 | 208=>some ⟨Tryz.f208,_,Tryz.func208,rfl,Tryz.call208⟩
 | 209=>some ⟨Tryz.f209,_,Tryz.func209,rfl,Tryz.call209⟩
 | 210=>some ⟨Tryz.f210,_,Tryz.func210,rfl,Tryz.call210⟩
 | 211=>some ⟨Tryz.f211,_,Tryz.func211,rfl,Tryz.call211⟩
 | 212=>some ⟨Tryz.f212,_,Tryz.func212,rfl,Tryz.call212⟩
 | 214=>some ⟨Tryz.f214,_,Tryz.func214,rfl,Tryz.call214⟩
 | 215=>some ⟨Tryz.f215,_,Tryz.func215,rfl,Tryz.call215⟩
 | 217=>some ⟨Tryz.f217,_,Tryz.func217,rfl,Tryz.call217⟩
 | 218=>some ⟨Tryz.f218,_,Tryz.func218,rfl,Tryz.call218⟩
 | 219=>some ⟨Tryz.f219,_,Tryz.func219,rfl,Tryz.call219⟩
 | 220=>some ⟨Tryz.f220,_,Tryz.func220,rfl,Tryz.call220⟩
 | 221=>some ⟨Tryz.f221,_,Tryz.func221,rfl,Tryz.call221⟩
 | 222=>some ⟨Tryz.f222,_,Tryz.func222,rfl,Tryz.call222⟩
 | 223=>some ⟨Tryz.f223,_,Tryz.func223,rfl,Tryz.call223⟩
 | 224=>some ⟨Tryz.f224,_,Tryz.func224,rfl,Tryz.call224⟩
 | 225=>some ⟨Tryz.f225,_,Tryz.func225,rfl,Tryz.call225⟩
 | 226=>some ⟨Tryz.f226,_,Tryz.func226,rfl,Tryz.call226⟩
 | 227=>some ⟨Tryz.f227,_,Tryz.func227,rfl,Tryz.call227⟩
 | 228=>some ⟨Tryz.f228,_,Tryz.func228,rfl,Tryz.call228⟩
 | 229=>some ⟨Tryz.f229,_,Tryz.func229,rfl,Tryz.call229⟩
 | 230=>some ⟨Tryz.f230,_,Tryz.func230,rfl,Tryz.call230⟩
 | 231=>some ⟨Tryz.f231,_,Tryz.func231,rfl,Tryz.call231⟩
 | 232=>some ⟨Tryz.f232,_,Tryz.func232,rfl,Tryz.call232⟩
 | 233=>some ⟨Tryz.f233,_,Tryz.func233,rfl,Tryz.call233⟩
 | 234=>some ⟨Tryz.f234,_,Tryz.func234,rfl,Tryz.call234⟩
 | 235=>some ⟨Tryz.f235,_,Tryz.func235,rfl,Tryz.call235⟩
 | 236=>some ⟨Tryz.f236,_,Tryz.func236,rfl,Tryz.call236⟩
 | 237=>some ⟨Tryz.f237,_,Tryz.func237,rfl,Tryz.call237⟩
 | 238=>some ⟨Tryz.f238,_,Tryz.func238,rfl,Tryz.call238⟩
 | 258=>some ⟨Tryz.f258,_,Tryz.func258,rfl,Tryz.call258⟩
 | 259=>some ⟨Tryz.f259,_,Tryz.func259,rfl,Tryz.call259⟩
 | 260=>some ⟨Tryz.f260,_,Tryz.func260,rfl,Tryz.call260⟩
 | 261=>some ⟨Tryz.f261,_,Tryz.func261,rfl,Tryz.call261⟩
 | 262=>some ⟨Tryz.f262,_,Tryz.func262,rfl,Tryz.call262⟩
 | 263=>some ⟨Tryz.f263,_,Tryz.func263,rfl,Tryz.call263⟩
 | 264=>some ⟨Tryz.f264,_,Tryz.func264,rfl,Tryz.call264⟩
 | 265=>some ⟨Tryz.f265,_,Tryz.func265,rfl,Tryz.call265⟩
 | 266=>some ⟨Tryz.f266,_,Tryz.func266,rfl,Tryz.call266⟩
 | _=>none
theorem hm187:MethAt Tryz.prog 187 "patchbay/pathexpr.nodes" 258:=methAt (by kernel_rfl)
theorem hm190:MethAt Tryz.prog 190 "patchbay/pathexpr.nodes" 259:=methAt (by kernel_rfl)
theorem hm192:MethAt Tryz.prog 192 "patchbay/pathexpr.nodes" 260:=methAt (by kernel_rfl)
theorem hm262:MethAt Tryz.prog 262 "patchbay/automaton.nullable" 261:=methAt (by kernel_rfl)
theorem hm263:MethAt Tryz.prog 263 "patchbay/automaton.nullable" 262:=methAt (by kernel_rfl)
theorem hm265:MethAt Tryz.prog 265 "patchbay/automaton.nullable" 263:=methAt (by kernel_rfl)
theorem hm267:MethAt Tryz.prog 267 "patchbay/automaton.nullable" 264:=methAt (by kernel_rfl)
theorem hm269:MethAt Tryz.prog 269 "patchbay/automaton.nullable" 265:=methAt (by kernel_rfl)
theorem hm270:MethAt Tryz.prog 270 "patchbay/automaton.nullable" 266:=methAt (by kernel_rfl)
def MTn (t:Nat):Option Nat:=match t with
 | 187=>some 258
 | 190=>some 259
 | 192=>some 260
 | _=>none
def MTa (t:Nat):Option Nat:=match t with
 | 262=>some 261
 | 263=>some 262
 | 265=>some 263
 | 267=>some 264
 | 269=>some 265
 | 270=>some 266
 | _=>none
def MT (t:Nat) (nm:String):Option Nat :=
 if nm = "patchbay/automaton.nullable" then MTa t else if nm = "patchbay/pathexpr.nodes" then MTn t else none
theorem hMT:∀t nm n,MT t nm=some n→MethAt Tryz.prog t nm n:=by
 intro t nm n h
 unfold MT at h
 split at h
 ·rename_i e
  subst e
  unfold MTa at h
  split at h<;>first | (cases h;done) | (cases h;first | exact hm262 | exact hm263 | exact hm265 | exact hm267 | exact hm269 | exact hm270)
 ·split at h
  ·rename_i e
   subst e
   unfold MTn at h
   split at h<;>first | (cases h;done) | (cases h;first | exact hm187 | exact hm190 | exact hm192)
  ·cases h
def c0:Cfg:={ lv:=[],ef:=[],ord:=[],em:=[] }
def ptrs:List V→List Nat
 | .ptr id _ _::r=>id::ptrs r
 | _::r=>ptrs r
 | []=>[]
end
section
def CF (k:Nat) (args:List V) (n:Nat):Cfg:=match k with
 | 265=>{ lv:=[],ef:=[9],ord:=[],em:=[] }
 | 266=>{ lv:=[],ef:=[9],ord:=[],em:=[] }
 | 229=>{ lv:=[],ef:=[9],ord:=[],em:=[9],fl:=[],ks:=some (ptrs args) }
 | 231=>{ lv:=[],ef:=[9],ord:=[],em:=[9],fl:=[],ks:=some (ptrs args) }
 | 219=>{ lv:=[],ef:=[7],ord:=[],em:=[7],fl:=[],ks:=some (ptrs args) }
 | 106=>{ lv:=[5],ef:=[],ord:=[],em:=[] }
 | 107=>{ lv:=[5],ef:=[],ord:=[],em:=[] }
 | 232=>{ lv:=[5],ef:=[],ord:=[],em:=[] }
 | 99=>{ lv:=[7],ef:=[],ord:=[],em:=[] }
 | 174=>{ lv:=[22],ef:=[88],ord:=[],em:=[88],ks:=some [n+6,n+4] }
 | 175=>{ lv:=[16],ef:=[],ord:=[],em:=[] }
 | 61=>{ lv:=[],ef:=[162],ord:=[(30,[0,1,2,3,4,6,7,8,9,10,11,5,12,13,14,15,16])],em:=[169,172],fl:=[38,43,41,46],ks:=some (List.range' n 10) }
 | _=>c0
def ZF (k:Nat):Nat:=match k with
 | 174=>3
 | 175=>3
 | 146=>3
 | 98=>3
 | 61=>3
 | 111=>2
 | 69=>2
 | 71=>2
 | 180=>2
 | 112=>1
 | 106=>1
 | 107=>1
 | 67=>3
 | 113=>1
 | 114=>1
 | 115=>1
 | 153=>1
 | _=>0
def ZC (k:Nat) (args:List V) (n i:Nat):List Nat:=match k with
 | 61=>(match i with | 1=>[n,n+1] | _=>[])
 | _=>[]
def pPair:V:=.sl false [.int .i64 6,.int .i64 0,.int .i64 2,.int .i64 0] 2
def qPred:V:=.sl false [.int .i64 1,.int .i64 0,.int .u8 0,.int .u8 0] 1
def lRule:V:=.sl false [.int .i64 0,.int .i64 1,qPred,pPair] 1
def fmtV:V:=.tup [.str [114,117,108,101,32,48,32,49,10,116,114,117,101,10,46,42,10],.int .i64 0]
def XX:V→List V→List Ob→Option (V × List Ob):=fun f a H=>match f with
 | .fn (.func 11) [] []=>(match eqVs a [lRule] with | true=>some (fmtV,H) | false=>none)
 | _=>none
theorem hXX (h:PC Tryz.prog 11 [lRule] fmtV):∀f a H v H',XX f a H=some (v,H')→ACall Tryz.prog f a H v H':=by
 intro f a H v H' e
 unfold XX at e
 split at e
 ·split at e
  ·rename_i he
   cases e
   obtain rfl:=eqVs_ok he
   exact .inl (h H)
  ·cases e
 ·cases e
theorem awk (h:PC Tryz.prog 11 [lRule] fmtV):PC Tryz.prog 10 [] (.bool true) :=
 PC.run Tryz.prog tt MT tbl CF XX 1000 ZF ZC hMT (hXX h) tok mixed' 30 rfl rfl (by kernel_rfl)
end
section
attribute [local push_cast] cfg0
theorem pc34 (n:Int):PC Tryz.prog 34 [.int .i64 n] (.bool (hostB n)):=by
 refine PC.walk tok mixed cfg0 Tryz.func34 rfl Tryz.call34 (by simp [belAll,V.bel,belObs,Ob.bel]) (by first | rfl | simp [belAll,V.bel,belObs,Ob.bel]) ?_;refine vms1 Tryz.ntmps34 ?_
 refine ⟨fun h1=>?_,fun h1=>?_⟩
 ·refine endK.ret ?_ (by first | rfl | simp [belAll,V.bel,belObs,Ob.bel]);simp [evRes,getT,retV,Tryz.f34,hostB,h1]
 ·refine endK.ret ?_ (by first | rfl | simp [belAll,V.bel,belObs,Ob.bel]);simp [evRes,getT,retV,Tryz.f34,hostB,h1]
def rg0:Rg:=⟨0,1,qPred,pPair,[116,114,117,101],[46,42],0,0⟩
theorem pc35z:PC Tryz.prog 35 [qPred] (.tup [.str [116,114,117,101],.int .i64 0]) :=
 PC.run Tryz.prog tt MT tbl CF (fun _ _ _=>none) 1000 ZF ZC hMT (fun _ _ _ _ _ h=>by cases h) tok mixed' 30 rfl rfl (by kernel_rfl)
theorem pc36z:PC Tryz.prog 36 [pPair] (.tup [.str [46,42],.int .i64 0]) :=
 PC.run Tryz.prog tt MT tbl CF (fun _ _ _=>none) 1000 ZF ZC hMT (fun _ _ _ _ _ h=>by cases h) tok mixed' 30 rfl rfl (by kernel_rfl)
theorem pc10:PC Tryz.prog 10 [] (.bool true):=by
 refine awk ?_
 have:=pc11 [rg0] (by decide) (fun r hr=>by simp at hr;subst hr;exact ⟨by decide,by decide⟩) rfl (fun r hr=>by simp at hr;subst hr;exact ⟨rfl,rfl⟩) pc34 (fun r hr _=>by simp at hr;subst hr;exact pc35z) (fun r hr _ _=>by simp at hr;subst hr;exact pc36z)
 have e:fmtG [rg0]=([114,117,108,101,32,48,32,49,10,116,114,117,101,10,46,42,10],0):=by decide +kernel
 rw [e] at this
 exact this
end
section
def encTit (r:Int × Int × Int):V:=.tup [.agg [.int .i64 r.1,.int .i64 r.2.1,.sl true [] 0,.sl true [] 0],.int .i64 r.2.2]
@[simp] theorem bel_tit {n:Nat} {r:Int × Int × Int}:(encTit r).bel n=true:=rfl
@[simp] theorem bel_w3 {n:Nat} {w a b:List UInt8}:belAll n [V.str w,.str a,.str b]=true:=rfl
theorem titW_no:∀ {L:List (List UInt8)},¬L.length=3→titW L=(0,0,5)
 | [],_=>rfl
 | [_],_=>rfl
 | [_,_],_=>rfl
 | [_,_,_],h=>absurd rfl h
 | _::_::_::_::_,_=>rfl
attribute [local push_cast] cfg0 Px.take_rest ibeq_dec
theorem pc47 (s:List UInt8) (hs:s.length≤20000):PC Tryz.prog 47 [.str s] (encTit (titE s)):=by
 have h81:=pc81 s hs
 have hle:∀w ∈ spl s,w.length≤s.length:=fun w hw=>spl_le hw
 have hln:(spl s).length≤20001:=by
  have h1:=spl_count s
  have h2:s.count 32≤s.length:=List.count_le_length
  omega
 unfold titE
 generalize spl s=L at h81 hle hln ⊢
 by_cases h3:L.length=3
 case neg =>
  rw [titW_no h3]
  refine PC.walk tok mixed cfg0 Tryz.func47 rfl Tryz.call47 (by simp) (by first | rfl | simp) ?_;refine vms1 Tryz.ntmps47 ?_
  refine callO.pc h81 ?_
  refine vms1 h3 ?_
  refine endK.retA ?_;simp [fzs_ok,imp,lenOK_iff,List.take_of_length_le,evRes,getT,getO,setO,fzs,fz,fzH,Nat.beq,retV,Res.then,ldT,ldR,mkV,getV,tt_3,tt_4,tt_5,tt_9,tt_54,tt_58,tt_60,tt_78,cfg0,Px.take_rest,ibeq_dec,Tryz.f47,encTit]
 match L,h3,h81,hle with
 | [w,a,b],_,h81,hle =>
 have p1:=Px.pc82 a (by have:=hle a (by simp);omega)
 have p2:=Px.pc82 b (by have:=hle b (by simp);omega)
 simp only [List.map_cons,List.map_nil,List.length_cons,List.length_nil] at h81
 by_cases hw:w=[114,117,108,101]
 case neg =>
  have e:titW [w,a,b]=(0,0,5):=by rw [titW,if_neg hw]
  rw [e]
  refine PC.walk tok mixed cfg0 Tryz.func47 rfl Tryz.call47 (by simp) (by first | rfl | simp) ?_;refine vms1 Tryz.ntmps47 ?_
  refine callO.pc h81 ?_
  refine vms1 hw ?_
  refine endK.retA ?_;simp [fzs_ok,imp,lenOK_iff,List.take_of_length_le,evRes,getT,getO,setO,fzs,fz,fzH,Nat.beq,retV,Res.then,ldT,ldR,mkV,getV,tt_3,tt_4,tt_5,tt_9,tt_54,tt_58,tt_60,tt_78,cfg0,Px.take_rest,ibeq_dec,Tryz.f47,encTit]
 rw [titW,if_pos hw]
 generalize Px.parseI a=x at p1 ⊢
 generalize Px.parseI b=y at p2 ⊢
 obtain ⟨f,fo⟩:=x
 obtain ⟨t,to⟩:=y
 rw [Px.encIB] at p1 p2
 simp only at p1 p2 ⊢
 cases fo
 ·rw [if_neg (by simp)]
  refine PC.walk tok mixed cfg0 Tryz.func47 rfl Tryz.call47 (by simp) (by first | rfl | simp) ?_;refine vms1 Tryz.ntmps47 ?_
  refine callO.pc h81 ?_
  refine vms1 hw ?_
  refine callO.pc p1 ?_
  refine vms0 ?_
  refine callO.pc p2 ?_
  refine vms0 ?_
  refine endK.retA ?_;simp [fzs_ok,imp,lenOK_iff,List.take_of_length_le,evRes,getT,getO,setO,fzs,fz,fzH,Nat.beq,retV,Res.then,ldT,ldR,mkV,getV,tt_3,tt_4,tt_5,tt_9,tt_54,tt_58,tt_60,tt_78,cfg0,Px.take_rest,ibeq_dec,Tryz.f47,encTit]
 cases to
 ·rw [if_neg (by simp)]
  refine PC.walk tok mixed cfg0 Tryz.func47 rfl Tryz.call47 (by simp) (by first | rfl | simp) ?_;refine vms1 Tryz.ntmps47 ?_
  refine callO.pc h81 ?_
  refine vms1 hw ?_
  refine callO.pc p1 ?_
  refine vms0 ?_
  refine callO.pc p2 ?_
  refine vms0 ?_
  refine endK.retA ?_;simp [fzs_ok,imp,lenOK_iff,List.take_of_length_le,evRes,getT,getO,setO,fzs,fz,fzH,Nat.beq,retV,Res.then,ldT,ldR,mkV,getV,tt_3,tt_4,tt_5,tt_9,tt_54,tt_58,tt_60,tt_78,cfg0,Px.take_rest,ibeq_dec,Tryz.f47,encTit]
 rw [if_pos ⟨rfl,rfl⟩]
 cases hf:hostB f
 ·rw [if_neg (by simp)]
  refine PC.walk tok mixed cfg0 Tryz.func47 rfl Tryz.call47 (by simp) (by first | rfl | simp) ?_;refine vms1 Tryz.ntmps47 ?_
  refine callO.pc h81 ?_
  refine vms1 hw ?_
  refine callO.pc p1 ?_
  refine vms0 ?_
  refine callO.pc p2 ?_
  refine vms0 ?_
  refine callO.pc (pc34 f) ?_
  refine vms1 hf ?_
  refine endK.retA ?_;simp [fzs_ok,imp,lenOK_iff,List.take_of_length_le,evRes,getT,getO,setO,fzs,fz,fzH,Nat.beq,retV,Res.then,ldT,ldR,mkV,getV,tt_3,tt_4,tt_5,tt_9,tt_54,tt_58,tt_60,tt_78,cfg0,Px.take_rest,ibeq_dec,Tryz.f47,encTit]
 cases ht:hostB t
 ·rw [if_neg (by simp)]
  refine PC.walk tok mixed cfg0 Tryz.func47 rfl Tryz.call47 (by simp) (by first | rfl | simp) ?_;refine vms1 Tryz.ntmps47 ?_
  refine callO.pc h81 ?_
  refine vms1 hw ?_
  refine callO.pc p1 ?_
  refine vms0 ?_
  refine callO.pc p2 ?_
  refine vms0 ?_
  refine callO.pc (pc34 f) ?_
  refine vms1 hf ?_
  refine callO.pc (pc34 t) ?_
  refine vms1 ht ?_
  refine endK.retA ?_;simp [fzs_ok,imp,lenOK_iff,List.take_of_length_le,evRes,getT,getO,setO,fzs,fz,fzH,Nat.beq,retV,Res.then,ldT,ldR,mkV,getV,tt_3,tt_4,tt_5,tt_9,tt_54,tt_58,tt_60,tt_78,cfg0,Px.take_rest,ibeq_dec,Tryz.f47,encTit]
 rw [if_pos ⟨rfl,rfl⟩]
 refine PC.walk tok mixed cfg0 Tryz.func47 rfl Tryz.call47 (by simp) (by first | rfl | simp) ?_;refine vms1 Tryz.ntmps47 ?_
 refine callO.pc h81 ?_
 refine vms1 hw ?_
 refine callO.pc p1 ?_
 refine vms0 ?_
 refine callO.pc p2 ?_
 refine vms0 ?_
 refine callO.pc (pc34 f) ?_
 refine vms1 hf ?_
 refine callO.pc (pc34 t) ?_
 refine vms1 ht ?_
 refine endK.retA ?_;simp [fzs_ok,imp,lenOK_iff,List.take_of_length_le,evRes,getT,getO,setO,fzs,fz,fzH,Nat.beq,retV,Res.then,ldT,ldR,mkV,getV,tt_3,tt_4,tt_5,tt_9,tt_54,tt_58,tt_60,tt_78,cfg0,Px.take_rest,ibeq_dec,Tryz.f47,encTit]
end
end Go.Proofs.YtlbmbbaefncleaaGreatDoor

/-
  Joined by a program from the texts Vm7.
-/
import Derived.Test.YtlbmbbaefncleaaGreatDoorSf
import Derived.Handed
set_option linter.all false
namespace Go.Vm
variable [GlobTab]
mutual
def V.rn (q:Nat→Nat):V→V
 | .buf i v off n sz=>.buf (q i) v off n sz
 | .ptr i v off=>.ptr (q i) v off
 | .mp i=>.mp (q i)
 | .agg vs=>.agg (rns q vs)
 | .tup vs=>.tup (rns q vs)
 | .sl b cs n=>.sl b (rns q cs) n
 | .fp cs=>.fp (rns q cs)
 | .ifc t v=>.ifc t (v.rn q)
 | .fn f a b=>.fn f (rns q a) (rns q b)
 | .opt g v=>.opt g (v.rn q)
 | .int a b=>.int a b
 | .bool b=>.bool b
 | .str s=>.str s
 | .nilp=>.nilp
 | .nili=>.nili
 | .nilf=>.nilf
 | .nilm=>.nilm
 | .raw u=>.raw u
 | .dead=>.dead
def rns (q:Nat→Nat):List V→List V
 | []=>[]
 | x::xs=>x.rn q::rns q xs
end
def Ob.rn (q:Nat→Nat):Ob→Ob
 | .cells v l=>.cells v (rns q l)
 | .map es=>.map (es.map fun e=>(e.1.rn q,e.2.rn q))
 | .unborn=>.unborn
 | .dead=>.dead
def rnOs (q:Nat→Nat):List Ob→List Ob
 | []=>[]
 | o::os=>o.rn q::rnOs q os
theorem rns_length {q:Nat→Nat}:∀(xs:List V),(rns q xs).length=xs.length
 | []=>rfl
 | _::xs=>by simp [rns,rns_length xs]
theorem rnOs_length {q:Nat→Nat}:∀(xs:List Ob),(rnOs q xs).length=xs.length
 | []=>rfl
 | _::xs=>by simp [rnOs,rnOs_length xs]
theorem rnOs_get {q:Nat→Nat}:∀(xs:List Ob) (i:Nat),(rnOs q xs)[i]? = (xs[i]?).map (Ob.rn q)
 | [],i=>by simp [rnOs]
 | x::xs,0=>by simp [rnOs]
 | x::xs,i+1=>by simp [rnOs,rnOs_get xs i]
theorem rns_map {q:Nat→Nat}:∀(xs:List V),rns q xs=xs.map (V.rn q)
 | []=>rfl
 | x::xs=>by simp [rns,rns_map xs]
mutual
theorem V.rn_bel {q:Nat→Nat}:∀(x:V),x.bel 0=true→x.rn q=x
 | .buf i v off n sz,h=>by simp [V.bel] at h
 | .ptr i v off,h=>by simp [V.bel] at h
 | .mp i,h=>by simp [V.bel] at h
 | .agg vs,h=>by simp only [V.bel] at h;simp only [V.rn,rns_bel vs h]
 | .tup vs,h=>by simp only [V.bel] at h;simp only [V.rn,rns_bel vs h]
 | .sl b cs n,h=>by simp only [V.bel] at h;simp only [V.rn,rns_bel cs h]
 | .fp cs,h=>by simp only [V.bel] at h;simp only [V.rn,rns_bel cs h]
 | .ifc t v,h=>by simp only [V.bel] at h;simp only [V.rn,V.rn_bel v h]
 | .fn f a b,h=>by simp only [V.bel,Bool.and_eq_true] at h;simp only [V.rn,rns_bel a h.1,rns_bel b h.2]
 | .opt g v,h=>by simp only [V.bel] at h;simp only [V.rn,V.rn_bel v h]
 | .int a b,_=>by simp only [V.rn]
 | .bool b,_=>by simp only [V.rn]
 | .str s,_=>by simp only [V.rn]
 | .nilp,_=>by simp only [V.rn]
 | .nili,_=>by simp only [V.rn]
 | .nilf,_=>by simp only [V.rn]
 | .nilm,_=>by simp only [V.rn]
 | .raw _,_=>by simp only [V.rn]
 | .dead,_=>by simp only [V.rn]
theorem rns_bel {q:Nat→Nat}:∀(xs:List V),belAll 0 xs=true→rns q xs=xs
 | [],_=>rfl
 | x::xs,h=>by
  simp only [belAll,Bool.and_eq_true] at h
  simp only [rns,V.rn_bel x h.1,rns_bel xs h.2]
end
theorem rns_ok {q:Nat→Nat} {xs:List V} (h:belAll 0 xs=true):rns q xs=xs:=rns_bel xs h
section
variable {P:Program} {O:Nat→Prop} {β β':List Pl} {w w':World}
mutual
theorem VR.rn {own:Nat→Prop} {q:Nat→Nat} (hf:∀i,β'[q i]? = β[i]?):∀(x:V) (v:Value),VR own w β x v→VR own w β' (x.rn q) v
 | .buf i vr off n sz,v,h=>by
  simp only [V.rn,VR] at h ⊢
  rw [hf];exact h
 | .ptr i vr off,v,h=>by
  simp only [V.rn,VR] at h ⊢
  rw [hf];exact h
 | .mp i,v,h=>by
  simp only [V.rn,VR] at h ⊢
  rw [hf];exact h
 | .agg vs,v,h=>by
  simp only [V.rn,VR] at h ⊢
  obtain ⟨l,h1,h2⟩:=h
  exact ⟨l,h1,VRs.rn hf vs l h2⟩
 | .tup vs,v,h=>by
  simp only [V.rn,VR] at h ⊢
  obtain ⟨l,h1,h2⟩:=h
  exact ⟨l,h1,VRs.rn hf vs l h2⟩
 | .sl b cs n,v,h=>by
  simp only [V.rn,VR] at h ⊢
  refine h.imp (fun h=>h) ?_
  rintro ⟨h0,b,off,cap,l,h1,h2,h3,h4,h5,h6⟩
  exact ⟨h0,b,off,cap,l,h1,h2,h3,h4,h5,VRs.rn hf cs l h6⟩
 | .fp cs,v,h=>by
  simp only [V.rn,VR] at h ⊢
  obtain ⟨b,off,l,h1,h3,h4,h5,h6⟩:=h
  exact ⟨b,off,l,h1,h3,h4,h5,VRs.rn hf cs l h6⟩
 | .ifc t x,v,h=>by
  simp only [V.rn,VR] at h ⊢
  obtain ⟨y,h1,h2⟩:=h
  exact ⟨y,h1,VR.rn hf x y h2⟩
 | .fn f a b,v,h=>by
  simp only [V.rn,VR] at h ⊢
  obtain ⟨la,lb,h1,h2,h3⟩:=h
  exact ⟨la,lb,h1,VRs.rn hf a la h2,VRs.rn hf b lb h3⟩
 | .opt g x,v,h=>by
  simp only [V.rn,VR] at h ⊢
  exact ⟨fun hg=>VR.rn hf x v (h.1 hg),h.2⟩
 | .int _ _,v,h=>by simpa only [V.rn,VR] using h
 | .bool _,v,h=>by simpa only [V.rn,VR] using h
 | .str _,v,h=>by simpa only [V.rn,VR] using h
 | .nilp,v,h=>by simpa only [V.rn,VR] using h
 | .nili,v,h=>by simpa only [V.rn,VR] using h
 | .nilf,v,h=>by simpa only [V.rn,VR] using h
 | .nilm,v,h=>by simpa only [V.rn,VR] using h
 | .raw _,v,h=>by simpa only [V.rn,VR] using h
 | .dead,v,_=>by simp only [V.rn,VR]
theorem VRs.rn {own:Nat→Prop} {q:Nat→Nat} (hf:∀i,β'[q i]? = β[i]?):∀(xs:List V) (vs:List Value),VRs own w β xs vs→VRs own w β' (rns q xs) vs
 | [],[],_=>by simp only [rns,VRs]
 | x::xs,y::ys,h=>by
  simp only [VRs] at h
  simp only [rns,VRs]
  exact ⟨VR.rn hf x y h.1,VRs.rn hf xs ys h.2⟩
 | [],_::_,h=>by simp only [VRs] at h
 | _::_,[],h=>by simp only [VRs] at h
end
end
section
variable {P:Program} {O:Nat→Prop} {β β':List Pl} {w w':World}
theorem getO_at:∀(H:List Ob) (i:Nat),i<H.length→H[i]? = some (getO H i)
 | x::xs,0,_=>rfl
 | x::xs,i+1,h=>by rw [List.getElem?_cons_succ,getO_at xs i (by simpa using h)];rfl
end
end Go.Vm
namespace Go.Vm
variable [GlobTab]
def setPs {α:Type}:List α→List Nat→List α→List α
 | l,p::ps,x::xs=>setPs (l.set p x) ps xs
 | l,_,_=>l
theorem setPs_len {α:Type}:∀ {ps:List Nat} {l xs:List α},(setPs l ps xs).length=l.length
 | [],l,xs=>by simp [setPs]
 | p::ps,l,[]=>by simp [setPs]
 | p::ps,l,x::xs=>by rw [setPs,setPs_len,List.length_set]
theorem setPs_out {α:Type} {i:Nat}:∀ {ps:List Nat} {l xs:List α},i ∉ ps→(setPs l ps xs)[i]? = l[i]?
 | [],l,xs,_=>by simp [setPs]
 | p::ps,l,[],_=>by simp [setPs]
 | p::ps,l,x::xs,h=>by
  rw [setPs,setPs_out (fun h2=>h (List.mem_cons_of_mem _ h2)),List.getElem?_set_ne (fun e=>h (by rw [e];exact List.mem_cons_self ..))]
theorem setPs_in {α:Type}:∀ {ps:List Nat} {l xs:List α} {j p:Nat},ps.Nodup→ps.length=xs.length→ps[j]? = some p→p<l.length→(setPs l ps xs)[p]? = xs[j]?
 | [],_,_,_,_,_,_,h,_=>by simp at h
 | p::ps,l,[],_,_,_,h,_,_=>by simp at h
 | p::ps,l,x::xs,0,p',hn,hl,h,hp=>by
  simp at h
  subst h
  rw [setPs,setPs_out (List.nodup_cons.1 hn).1,List.getElem?_set_self hp]
  rfl
 | p::ps,l,x::xs,j+1,p',hn,hl,h,hp=>by
  rw [List.getElem?_cons_succ] at h
  rw [setPs,setPs_in (List.nodup_cons.1 hn).2 (by simpa using hl) h (by rw [List.length_set];exact hp)]
  rfl
def qf (ps:List Nat) (m i:Nat):Nat:=match ps[i]? with | some p=>p | none=>m+(i-ps.length)
theorem qf_in {ps:List Nat} {m i p:Nat} (h:ps[i]? = some p):qf ps m i=p:=by rw [qf,h]
theorem qf_out {ps:List Nat} {m i:Nat} (h:ps.length≤i):qf ps m i=m+(i-ps.length):=by rw [qf,List.getElem?_eq_none h]
theorem qf_get {α:Type} {A B:List α} {ps:List Nat} (hn:ps.Nodup) (hp:∀p,p ∈ ps→p<A.length) (hk:ps.length≤B.length) (i:Nat) :
  (setPs A ps (B.take ps.length)++B.drop ps.length)[qf ps A.length i]? = B[i]?:=by
 by_cases h:i<ps.length
 ·have e:ps[i]? = some ps[i]:=List.getElem?_eq_getElem h
  have hpi:=hp _ (List.getElem_mem h)
  rw [qf_in e,List.getElem?_append_left (by rw [setPs_len];exact hpi),setPs_in hn (by rw [List.length_take];omega) e hpi,List.getElem?_take,if_pos h]
 ·rw [qf_out (by omega),List.getElem?_append_right (by rw [setPs_len];omega),setPs_len,List.getElem?_drop]
  congr 1
  omega
theorem qf_inj {ps:List Nat} {m:Nat} (hn:ps.Nodup) (hp:∀p,p ∈ ps→p<m) {i j:Nat} (h:qf ps m i=qf ps m j):i=j:=by
 by_cases h1:i<ps.length<;>by_cases h2:j<ps.length
 ·rw [qf_in (List.getElem?_eq_getElem h1),qf_in (List.getElem?_eq_getElem h2)] at h
  exact (List.getElem_inj hn).1 h
 ·rw [qf_in (List.getElem?_eq_getElem h1),qf_out (by omega)] at h
  have:=hp _ (List.getElem_mem h1)
  omega
 ·rw [qf_out (by omega),qf_in (List.getElem?_eq_getElem h2)] at h
  have:=hp _ (List.getElem_mem h2)
  omega
 ·rw [qf_out (by omega),qf_out (by omega)] at h
  omega
section
variable {P:Program} {O:Nat→Prop} {β β':List Pl} {w w':World}
mutual
theorem VR.rn_back {own:Nat→Prop} {q:Nat→Nat} (hf:∀i,β'[q i]? = β[i]?):∀(x:V) (v:Value),VR own w β' (x.rn q) v→VR own w β x v
 | .buf i vr off n sz,v,h=>by
  simp only [V.rn,VR] at h ⊢
  rw [hf] at h;exact h
 | .ptr i vr off,v,h=>by
  simp only [V.rn,VR] at h ⊢
  rw [hf] at h;exact h
 | .mp i,v,h=>by
  simp only [V.rn,VR] at h ⊢
  rw [hf] at h;exact h
 | .agg vs,v,h=>by
  simp only [V.rn,VR] at h ⊢
  obtain ⟨l,h1,h2⟩:=h
  exact ⟨l,h1,VRs.rn_back hf vs l h2⟩
 | .tup vs,v,h=>by
  simp only [V.rn,VR] at h ⊢
  obtain ⟨l,h1,h2⟩:=h
  exact ⟨l,h1,VRs.rn_back hf vs l h2⟩
 | .sl b cs n,v,h=>by
  simp only [V.rn,VR] at h ⊢
  refine h.imp (fun h=>h) ?_
  rintro ⟨h0,b,off,cap,l,h1,h2,h3,h4,h5,h6⟩
  exact ⟨h0,b,off,cap,l,h1,h2,h3,h4,h5,VRs.rn_back hf cs l h6⟩
 | .fp cs,v,h=>by
  simp only [V.rn,VR] at h ⊢
  obtain ⟨b,off,l,h1,h3,h4,h5,h6⟩:=h
  exact ⟨b,off,l,h1,h3,h4,h5,VRs.rn_back hf cs l h6⟩
 | .ifc t x,v,h=>by
  simp only [V.rn,VR] at h ⊢
  obtain ⟨y,h1,h2⟩:=h
  exact ⟨y,h1,VR.rn_back hf x y h2⟩
 | .fn f a b,v,h=>by
  simp only [V.rn,VR] at h ⊢
  obtain ⟨la,lb,h1,h2,h3⟩:=h
  exact ⟨la,lb,h1,VRs.rn_back hf a la h2,VRs.rn_back hf b lb h3⟩
 | .opt g x,v,h=>by
  simp only [V.rn,VR] at h ⊢
  exact ⟨fun hg=>VR.rn_back hf x v (h.1 hg),h.2⟩
 | .int _ _,v,h=>by simpa only [V.rn,VR] using h
 | .bool _,v,h=>by simpa only [V.rn,VR] using h
 | .str _,v,h=>by simpa only [V.rn,VR] using h
 | .nilp,v,h=>by simpa only [V.rn,VR] using h
 | .nili,v,h=>by simpa only [V.rn,VR] using h
 | .nilf,v,h=>by simpa only [V.rn,VR] using h
 | .nilm,v,h=>by simpa only [V.rn,VR] using h
 | .raw _,v,h=>by simpa only [V.rn,VR] using h
 | .dead,v,_=>by simp only [VR]
theorem VRs.rn_back {own:Nat→Prop} {q:Nat→Nat} (hf:∀i,β'[q i]? = β[i]?):∀(xs:List V) (vs:List Value),VRs own w β' (rns q xs) vs→VRs own w β xs vs
 | [],[],_=>by simp only [VRs]
 | x::xs,y::ys,h=>by
  simp only [rns,VRs] at h
  simp only [VRs]
  exact ⟨VR.rn_back hf x y h.1,VRs.rn_back hf xs ys h.2⟩
 | [],_::_,h=>by simp only [rns,VRs] at h
 | _::_,[],h=>by simp only [rns,VRs] at h
end
theorem ObR.rn {own:Nat→Prop} {q:Nat→Nat} (hf:∀i,β'[q i]? = β[i]?) {loc:Pl} {o:Ob} (h0:ObR own w β loc o):ObR own w β' loc (o.rn q):=by
 cases o with
 | unborn=>exact h0
 | dead=>exact h0
 | cells ver l =>
  simp only [Ob.rn,ObR,rns_length] at h0 ⊢
  refine Or.imp (fun h=>⟨h.1,by rw [h.2];rfl⟩) ?_ h0
  rintro ⟨b,base,cs,ty,h1,h2,h3,h4⟩
  exact ⟨b,base,cs,ty,h1,h2,h3,VRs.rn hf _ _ h4⟩
 | map es =>
  simp only [Ob.rn,ObR] at h0 ⊢
  obtain ⟨b,en,clock,h1,h2,h3,h4⟩:=h0
  refine ⟨b,en,clock,h1,h2,?_,?_⟩
  ·have:=VRs.rn hf _ _ h3;rw [rns_map,List.map_map] at this;rw [List.map_map];exact this
  ·have:=VRs.rn hf _ _ h4;rw [rns_map,List.map_map] at this;rw [List.map_map];exact this
theorem ObR.rn_back {own:Nat→Prop} {q:Nat→Nat} (hf:∀i,β'[q i]? = β[i]?) {loc:Pl} {o:Ob} (h0:ObR own w β' loc (o.rn q)):ObR own w β loc o:=by
 cases o with
 | unborn=>exact h0
 | dead=>exact h0
 | cells ver l =>
  simp only [Ob.rn,ObR,rns_length] at h0 ⊢
  refine Or.imp (fun h=>⟨h.1,List.eq_nil_of_length_eq_zero (by rw [←rns_length (q:=q),h.2];rfl)⟩) ?_ h0
  rintro ⟨b,base,cs,ty,h1,h2,h3,h4⟩
  exact ⟨b,base,cs,ty,h1,h2,h3,VRs.rn_back hf _ _ h4⟩
 | map es =>
  simp only [Ob.rn,ObR] at h0 ⊢
  obtain ⟨b,en,clock,h1,h2,h3,h4⟩:=h0
  refine ⟨b,en,clock,h1,h2,?_,?_⟩
  ·refine VRs.rn_back hf _ _ ?_
   rw [rns_map,List.map_map];rw [List.map_map] at h3;exact h3
  ·refine VRs.rn_back hf _ _ ?_
   rw [rns_map,List.map_map];rw [List.map_map] at h4;exact h4
theorem rnOs_append {q:Nat→Nat}:∀ {a b:List Ob},rnOs q (a++b)=rnOs q a++rnOs q b
 | [],_=>rfl
 | x::a,b=>by simp only [List.cons_append,rnOs,rnOs_append (a:=a) (b:=b)]
theorem GCall.part {n:Nat} {args:List V} {v:V} {G G' J H:List Ob} {ps:List Nat} (h0:GCall P n args G v (G'++J)) (hn:ps.Nodup) (hk:ps.length=G.length) (hk':G'.length=G.length)
  (hG:∀(i p:Nat),ps[i]? = some p→H[p]? = (G[i]?).map (Ob.rn (qf ps H.length))) :
  GCall P n (rns (qf ps H.length) args) H (v.rn (qf ps H.length)) (setPs H ps (rnOs (qf ps H.length) G')++rnOs (qf ps H.length) J):=by
 refine ⟨h0.1,fun O β w vals hh hva=>?_⟩
 have hl:β.length=H.length:=hh.len
 have hps:∀p,p ∈ ps→p<H.length:=by
  intro p hp
  obtain ⟨i,hi⟩:=List.getElem?_of_mem hp
  have:=hG i p hi
  have hik:i<G.length:=by rw [←hk];exact (List.getElem?_eq_some_iff.1 hi).1
  rw [List.getElem?_eq_getElem hik] at this
  exact (List.getElem?_eq_some_iff.1 this).1
 rw [←hl] at hG hva hps ⊢
 generalize hq:qf ps β.length=q at hG hva ⊢
 have hqi:∀i p,ps[i]? = some p→q i=p:=fun i p h=>by rw [←hq,qf_in h]
 have hqo:∀i,ps.length≤i→q i=β.length+(i-ps.length):=fun i h=>by rw [←hq,qf_out h]
 have hqinj:∀i j,q i=q j→i=j:=fun i j h=>by rw [←hq] at h;exact qf_inj hn hps h
 -- what the callee sees
 obtain ⟨β0,hβ0⟩:∃β0:List Pl,β0=ps.map fun p=>(β[p]?).getD .dead:=⟨_,rfl⟩
 have hl0:β0.length=ps.length:=by rw [hβ0,List.length_map]
 have hf0:∀i,β[q i]? = β0[i]?:=by
  intro i
  by_cases h:i<ps.length
  ·have e:ps[i]? = some ps[i]:=List.getElem?_eq_getElem h
   have hp:=hps _ (List.getElem_mem h)
   rw [hqi i _ e,hβ0,List.getElem?_map,e,Option.map_some,List.getElem?_eq_getElem hp]
   rfl
  ·rw [hqo i (by omega),List.getElem?_eq_none (by omega),List.getElem?_eq_none (by omega)]
 have hin0:∀b,InB β0 b→InB β b:=fun b ⟨i,l,h1,h2⟩=>⟨q i,l,by rw [hf0];exact h1,h2⟩
 have hqps:∀i,i<ps.length→q i ∈ ps:=fun i h=>by
  rw [hqi i _ (List.getElem?_eq_getElem h)];exact List.getElem_mem h
 obtain ⟨O0,hO0⟩:∃O0:Nat→Prop,O0=fun b=>O b∨∃i l,i ∉ ps∧β[i]? = some l∧l.block? = some b:=⟨_,rfl⟩
 have hO0':∀b,O0 b↔(O b∨∃i l,i ∉ ps∧β[i]? = some l∧l.block? = some b):=fun b=>by rw [hO0]
 have hnot0:∀b i l,i ∉ ps→β[i]? = some l→l.block? = some b→¬InB β0 b:=by
  rintro b i l h1 h2 h3 ⟨j,l',h4,h5⟩
  have hj:j<ps.length:=by rw [←hl0];exact (List.getElem?_eq_some_iff.1 h4).1
  rw [←hf0] at h4
  have:=hh.inj i (q j) l l' b h2 h4 h3 h5
  exact h1 (this ▸ hqps j hj)
 have hown0:Own O0 β0=Own O β:=by
  funext b
  refine propext ⟨?_,?_⟩
  ·rintro (h | h)
   ·rcases (hO0' b).1 h with h | ⟨i,l,_,h2,h3⟩
    ·exact .inl h
    ·exact .inr ⟨i,l,h2,h3⟩
   ·exact .inr (hin0 b h)
  ·rintro (h | ⟨i,l,h1,h2⟩)
   ·exact .inl ((hO0' b).2 (.inl h))
   ·by_cases hi:i ∈ ps
    ·obtain ⟨j,hj⟩:=List.getElem?_of_mem hi
     exact .inr ⟨j,l,by rw [←hf0,hqi j i hj];exact h1,h2⟩
    ·exact .inl ((hO0' b).2 (.inr ⟨i,l,hi,h1,h2⟩))
 have hh0:HR O0 β0 w G:=by
  refine ⟨by rw [hl0,hk],?_,?_,fun b hb=>hh.lt b (hin0 b hb),?_,?_,by rw [hown0];exact hh.glob⟩
  ·intro i loc o h1 h2
   have hi:i<ps.length:=by rw [←hl0];exact (List.getElem?_eq_some_iff.1 h1).1
   have e:ps[i]? = some ps[i]:=List.getElem?_eq_getElem hi
   have hH:=hG i _ e
   rw [h2] at hH
   rw [←hf0,hqi i _ e] at h1
   have:=hh.ob _ loc _ h1 hH
   rw [hown0]
   exact ObR.rn_back hf0 this
  ·intro i j l l' b h1 h2 h3 h4
   rw [←hf0] at h1 h2
   exact hqinj i j (hh.inj _ _ l l' b h1 h2 h3 h4)
  ·rintro b hb ho
   rcases (hO0' b).1 ho with ho | ⟨i,l,h1,h2,h3⟩
   ·exact hh.apart b (hin0 b hb) ho
   ·exact hnot0 b i l h1 h2 h3 hb
  ·intro b ho
   rcases (hO0' b).1 ho with ho | ⟨i,l,h1,h2,h3⟩
   ·exact hh.old b ho
   ·exact hh.lt b ⟨i,l,h2,h3⟩
 refine (h0.2 O0 β0 w vals hh0 (by rw [hown0];exact VRs.rn_back hf0 _ _ hva)).mono ?_
 rintro e w' ⟨u,β1,rfl,g1,g2,g3⟩
 have hl1:β1.length=G'.length+J.length:=by rw [g1.len,List.length_append]
 have hk1:ps.length≤β1.length:=by omega
 obtain ⟨β',hβ'⟩:∃β',β'=setPs β ps (β1.take ps.length)++β1.drop ps.length:=⟨_,rfl⟩
 have hf1:∀i,β'[q i]? = β1[i]?:=fun i=>by rw [hβ',←hq];exact qf_get hn hps hk1 i
 have hout:∀i,i ∉ ps→i<β.length→β'[i]? = β[i]?:=fun i h1 h2=>by
  rw [hβ',List.getElem?_append_left (by rw [setPs_len];exact h2),setPs_out h1]
 have hcls:∀x,(x ∉ ps∧x<β.length)∨∃j,x=q j:=by
  intro x
  by_cases h1:x ∈ ps
  ·obtain ⟨j,hj⟩:=List.getElem?_of_mem h1
   exact .inr ⟨j,(hqi j x hj).symm⟩
  ·by_cases h2:x<β.length
   ·exact .inl ⟨h1,h2⟩
   ·exact .inr ⟨ps.length+(x-β.length),by rw [hqo _ (by omega)];omega⟩
 have hin1:∀b,InB β' b↔(∃i l,i ∉ ps∧β[i]? = some l∧l.block? = some b)∨InB β1 b:=by
  intro b
  constructor
  ·rintro ⟨x,l,h1,h2⟩
   rcases hcls x with ⟨h3,h4⟩ | ⟨j,rfl⟩
   ·rw [hout x h3 h4] at h1;exact .inl ⟨x,l,h3,h1,h2⟩
   ·rw [hf1] at h1;exact .inr ⟨j,l,h1,h2⟩
  ·rintro (⟨i,l,h1,h2,h3⟩ | ⟨j,l,h1,h2⟩)
   ·exact ⟨i,l,by rw [hout i h1 (List.getElem?_eq_some_iff.1 h2).1];exact h2,h3⟩
   ·exact ⟨q j,l,by rw [hf1];exact h1,h2⟩
 have hown1:Own O0 β1=Own O β':=by
  funext b
  refine propext ⟨?_,?_⟩
  ·rintro (h | h)
   ·rcases (hO0' b).1 h with h | h
    ·exact .inl h
    ·exact .inr ((hin1 b).2 (.inl h))
   ·exact .inr ((hin1 b).2 (.inr h))
  ·rintro (h | h)
   ·exact .inl ((hO0' b).2 (.inl h))
   ·rcases (hin1 b).1 h with h | h
    ·exact .inl ((hO0' b).2 (.inr h))
    ·exact .inr h
 have hkeep:∀b i l,i ∉ ps→β[i]? = some l→l.block? = some b→w'.heap[b]? = w.heap[b]?:=fun b i l h1 h2 h3 =>
  g3.keep b (hh.lt b ⟨i,l,h2,h3⟩) (hnot0 b i l h1 h2 h3)
 have he:Ext β w β' w':=by
  refine ⟨g3.size,fun b h1 h2=>g3.keep b h1 fun h=>h2 (hin0 b h),g3.os,g3.tape,g3.output,?_,?_⟩
  ·intro b hb
   rcases (hin1 b).1 hb with ⟨i,l,_,h2,h3⟩ | h
   ·exact .inl ⟨i,l,h2,h3⟩
   ·exact (g3.fresh b h).imp (hin0 b) id
  ·intro i l h1
   by_cases hi:i ∈ ps
   ·obtain ⟨j,hj⟩:=List.getElem?_of_mem hi
    have hqj:=hqi j i hj
    rw [←hqj,hf1]
    exact g3.loc j l (by rw [←hf0,hqj];exact h1)
   ·rw [hout i hi (List.getElem?_eq_some_iff.1 h1).1,h1]
    exact l.le_refl
 have hH:∀i,(setPs H ps (rnOs q G')++rnOs q J)[q i]? = ((G'++J)[i]?).map (Ob.rn q):=by
  intro i
  have:=qf_get (A:=H) (B:=rnOs q (G'++J)) hn (by rw [←hl];exact hps) (by rw [rnOs_length,List.length_append];omega) i
  rw [rnOs_get,←hl,hq,rnOs_append,List.take_append_of_le_length (by rw [rnOs_length];omega),List.take_of_length_le (by rw [rnOs_length];omega),
   List.drop_append_of_le_length (by rw [rnOs_length];omega),List.drop_of_length_le (by rw [rnOs_length];omega),List.nil_append] at this
  exact this
 refine ⟨u,β',rfl,?_,by rw [←hown1];exact VR.rn hf1 v u g2,he⟩
 refine ⟨?_,?_,?_,?_,?_,fun b hb=>Nat.lt_of_lt_of_le (hh.old b hb) he.size,hh.glob.ext he⟩
 ·rw [hβ',List.length_append,List.length_append,setPs_len,setPs_len,rnOs_length,List.length_drop,hl,hl1];omega
 ·intro x loc o h1 h2
  rcases hcls x with ⟨h3,h4⟩ | ⟨j,rfl⟩
  ·rw [hout x h3 h4] at h1
   rw [List.getElem?_append_left (by rw [setPs_len];omega),setPs_out h3] at h2
   have h5:=hh.ob x loc o h1 h2
   have hk:∀b,loc.block? = some b→w'.heap[b]? = w.heap[b]?:=fun b hb=>hkeep b x loc h3 h1 hb
   cases o with
   | unborn=>exact h5
   | dead=>exact h5
   | cells ver l =>
    simp only [ObR] at h5 ⊢
    refine Or.imp (fun h=>h) ?_ h5
    rintro ⟨b,base,cs,ty,h1,h2,h3,h4⟩
    exact ⟨b,base,cs,ty,h1,by rw [hk b (by rw [h1];rfl)];exact h2,h3,VRs.ext he _ _ h4⟩
   | map es =>
    simp only [ObR] at h5 ⊢
    obtain ⟨b,en,clock,h1,h2,h3,h4⟩:=h5
    exact ⟨b,en,clock,h1,by rw [hk b (by rw [h1];rfl)];exact h2,VRs.ext he _ _ h3,VRs.ext he _ _ h4⟩
  ·rw [hf1] at h1
   rw [hH,Option.map_eq_some_iff] at h2
   obtain ⟨o0,h2,rfl⟩:=h2
   rw [←hown1]
   exact ObR.rn hf1 (g1.ob j loc o0 h1 h2)
 ·have cross:∀(b x:Nat) (l:Pl) (j:Nat) (l':Pl),x ∉ ps→β[x]? = some l→l.block? = some b→β1[j]? = some l'→l'.block? = some b→False:=by
   intro b x l j l' h1 h2 h3 h4 h5
   rcases g3.fresh b ⟨j,l',h4,h5⟩ with h | h
   ·exact hnot0 b x l h1 h2 h3 h
   ·have:=hh.lt b ⟨x,l,h2,h3⟩
    omega
  intro x y l l' b h1 h2 h3 h4
  rcases hcls x with ⟨a1,a2⟩ | ⟨i,rfl⟩<;>rcases hcls y with ⟨b1,b2⟩ | ⟨j,rfl⟩
  ·rw [hout x a1 a2] at h1
   rw [hout y b1 b2] at h2
   exact hh.inj x y l l' b h1 h2 h3 h4
  ·rw [hout x a1 a2] at h1
   rw [hf1] at h2
   exact (cross b x l j l' a1 h1 h3 h2 h4).elim
  ·rw [hf1] at h1
   rw [hout y b1 b2] at h2
   exact (cross b y l' i l b1 h2 h4 h1 h3).elim
  ·rw [hf1] at h1 h2
   rw [g1.inj i j l l' b h1 h2 h3 h4]
 ·intro b hb
  rcases (hin1 b).1 hb with ⟨i,l,_,h2,h3⟩ | h
  ·exact Nat.lt_of_lt_of_le (hh.lt b ⟨i,l,h2,h3⟩) he.size
  ·exact g1.lt b h
 ·intro b hb ho
  rcases (hin1 b).1 hb with ⟨i,l,_,h2,h3⟩ | h
  ·exact hh.apart b ⟨i,l,h2,h3⟩ ho
  ·exact g1.apart b h ((hO0' b).2 (.inl ho))
end
section
variable {P:Program} {tt:Nat→TI} {H:List Ob} {s:S} {KV:V→List Ob→Prop}
def endG (tt:Nat→TI) (rs:List ResultVar) (n0:Nat) (v:V) (J:List Ob):Exit→S→Prop:=fun e s=>∃s2,Gn n0 s s2∧atEnd tt rs n0 v J e s2
theorem endG.ret {rs:List ResultVar} {n0:Nat} {v:V} {J:List Ob} (J2:List Ob) (hJ:s.hp=J++J2) (hn:n0≤J.length) (h:evRes tt rs s.tm s.hp fun vs=>retV vs=v) (hv:v.bel J.length=true) (hb:belObs J.length J=true):endG tt rs n0 v J .ret s :=
 ⟨s,Gn.refl _ _,by
  simp only [atEnd,hv,hb,hn,true_and,and_true]
  refine evRes_mono (fun vs hvs=>⟨hvs,J2,hJ⟩) h⟩
theorem endG.normal {rs:List ResultVar} {n0:Nat} {v:V} {J:List Ob} (J2:List Ob) (hJ:s.hp=J++J2) (hn:n0≤J.length) (h:evRes tt rs s.tm s.hp fun vs=>retV vs=v) (hv:v.bel J.length=true) (hb:belObs J.length J=true):endG tt rs n0 v J .normal s :=
 ⟨s,Gn.refl _ _,by
  simp only [atEnd,hv,hb,hn,true_and,and_true]
  refine evRes_mono (fun vs hvs=>⟨hvs,J2,hJ⟩) h⟩
theorem endG.gn {rs:List ResultVar} {n0:Nat} {v:V} {J:List Ob} {e:Exit} {s2:S} (g:Gn n0 s s2) (h:endG tt rs n0 v J e s2):endG tt rs n0 v J e s:=by
 obtain ⟨s3,g3,h3⟩:=h
 exact ⟨s3,g.trans g3,h3⟩
theorem GC.walk (tok:TOK P tt) (hm:P.follows .mixedOrders=true) (cfg:Cfg) {n:Nat} {fn:Func} {c:Code} {args:List V} {v:V} {G J:List Ob} (hf:P.funcs[n]? = some fn) (hb:fn.body=some c)
  (hc:∀(vals:Array Value) (w:World),(callFunc n vals).run P w=.ok (.enter n vals) w)
  (h:ev P tt cfg c (endG tt fn.results.toList G.length v J) ⟨args++List.replicate (fn.ntmps-args.length) .dead,G⟩):GCall P n args G v J :=
 GCall.of_T tok hf hb hc (T.aft (ev_sound tok hm c h))
def objsAt (H:List Ob):List Nat→List Ob→Prop
 | [],[]=>True
 | p::ps,g::gs=>getO H p=g∧p<H.length∧objsAt H ps gs
 | _,_=>False
theorem objsAt_get:∀ {ps:List Nat} {gs:List Ob},objsAt H ps gs→∀(i p:Nat),ps[i]? = some p→H[p]? = gs[i]?
 | [],[],_,_,_,h=>by simp at h
 | p::ps,g::gs,h,0,p',h2=>by
  simp at h2
  subst h2
  rw [getO_at H p h.2.1,h.1]
  rfl
 | p::ps,g::gs,h,i+1,p',h2=>objsAt_get h.2.2 i p' h2
 | [],_::_,h,_,_,_=>h.elim
 | _::_,[],h,_,_,_=>h.elim
theorem objsAt_len:∀ {ps:List Nat} {gs:List Ob},objsAt H ps gs→ps.length=gs.length
 | [],[],_=>rfl
 | p::ps,g::gs,h=>by simp [objsAt_len h.2.2]
 | [],_::_,h=>h.elim
 | _::_,[],h=>h.elim
def qn:List Nat→Nat→Nat→Nat
 | p::_,_,0=>p
 | _::ps,m,i+1=>qn ps m i
 | [],m,i=>m+i
theorem qf_qn:∀ {ps:List Nat} {m i:Nat},qf ps m i=qn ps m i
 | [],m,i=>by simp [qf,qn]
 | p::ps,m,0=>by simp [qf,qn]
 | p::ps,m,i+1=>by
  have:=qf_qn (ps:=ps) (m:=m) (i:=i)
  simp only [qf,List.getElem?_cons_succ,qn] at this ⊢
  rw [←this]
  split
  ·rfl
  ·simp only [List.length_cons];omega
theorem callO.part {n:Nat} {args a b args0:List V} {v:V} {G G' J:List Ob} (ps:List Nat) (h:GCall P n args0 G v (G'++J)) (hn:ps.Nodup) (hk':G'.length=G.length)
  (ha:a++args++b=rns (qn ps H.length) args0) (hG:objsAt H ps (rnOs (qn ps H.length) G)) (k:KV (v.rn (qn ps H.length)) (setPs H ps (rnOs (qn ps H.length) G')++rnOs (qn ps H.length) J)) :
  callO P (.fn (.func n) a b) args H KV:=by
 have e:qn ps H.length=qf ps H.length:=funext fun i=>qf_qn.symm
 rw [e] at ha hG k
 refine ⟨_,_,?_,k⟩
 have:=GCall.part (H:=H) h hn (by rw [objsAt_len hG,rnOs_length]) hk' (fun i p hi=>by rw [objsAt_get hG i p hi,rnOs_get])
 simp only [ACall,ha]
 exact .inl this
end
end Go.Vm
namespace Go.Vm
variable [GlobTab]
open Go.ChangeShapes Go.WideShapes Go.RowKit
section
variable {P:Program} {tt:Nat→TI} {W W':World} {H:Type} {enc:TypeId × Value→H}
theorem law_lifted_laid {C:Checked} {os:Os} {n:Nat} {fn:Func} {s:ChangeSpec} {dom:List PathCond} {m tb:Nat} {X:World→Array Value→Prop} (tok:TOK C.prog tt)
  (hX:∀(w w':World) (args:Array Value),w.heap=w'.heap→X w args→X w' args)
  (own:ownKnob C.prog.godebug=none) (started:os.Started) (noInit:C.prog.inits.idxOf? n=none) (hfn:C.prog.funcs[n]? = some fn)
  (witness:∃(w:World) (tape:Tape) (i:Input),w.os=os∧(w.forCall tape i).Shaped C.prog∧i.vars=[]∧Input.okWide C.prog (w.forCall tape i) .any w.heap.size n i ∧
   ((s.pre enc C.prog fn dom false (w.forCall tape i).memory i.args∧X (w.forCall tape i).memory i.args)∧sizedMet enc C.prog fn (OpenSpec.ofChange s) false (w.forCall tape i).memory i.args)∧({}:Assume).holds C.prog (lone (Frame.enter C.prog n i.args .normal) [] (w.forCall tape i)))
  (hl:laidOutB C.prog=true) (hvars:s.vars=[]) (hread:fn.params.toList.all (fun t=>C.prog.readableRec t&&decide (t<C.prog.types.size))=true)
  (hshape:fn.params.toList.all (shape tt m)=true) (hres:fn.resultTypes = #[tb]) (htb:C.prog.underlying tb=some .bool)
  (hspec:∀ds:List (DataW H),ds.length=fn.params.toList.length→s.fn H ds = { results:=[.lit (.bool true)],args:=ds })
  (hgl:∀W args,X W args→GT (fun _=>False) W) (law:∀xs,TypA tt m fn.params.toList xs→PC C.prog n xs (.bool true)) :
  ReturnsInHanded {} C os n .any (fun w args=>(s.pre enc C.prog fn dom false w args∧X w args)∧sizedMet enc C.prog fn (OpenSpec.ofChange s) false w args) (s.post enc C.prog fn false true false false):=by
 refine returnsInHanded_of_change_and hX own started noInit hfn witness ?_
 intro W base args ds gs before hval hW hcnd _ hx _
 have hW':=hW
 obtain ⟨p,q,hA,hV,rfl,_,_⟩:=hW'
 obtain ⟨xs,h1,h2⟩:=open_args tok hshape hA (fun j t v hj hv=>hval j t v (by simpa using hj) (by simpa using hv))
 have hc:=law_calls (hgl W args hx) (law xs h2) h1
 rw [Array.toArray_toList] at hc
 have hlen:∀ {ts:List Nat} {vs:List Value} {ds:List (DataW H)} {p:List MemPlace},DataW.TrodAll enc C.prog W 0 (fun _=>true) true ts vs ds p→ds.length=ts.length:=by
  intro ts
  induction ts with
  | nil=>intro vs ds p h;obtain ⟨_,rfl,_⟩:=trodAll_nil h;rfl
  | cons t ts ih=>intro vs ds p h;obtain ⟨v,vs1,d,ds1,a,b,rfl,rfl,rfl,_,h2⟩:=trodAll_cons h;simp [ih h2]
 have hgs:gs=[]:=by
  rw [hvars] at hV
  exact (trodVars_none hV).1
 refine hc.mono ?_
 rintro e W' ⟨rfl,hb⟩
 exact ⟨_,rfl,post_true hl hW hvars hread hres htb (by rw [hgs,List.append_nil];exact hspec ds (hlen hA)) hb⟩
end
end Go.Vm
namespace Go.Vm
variable [GlobTab]
def methB (P:Program) (t:Nat) (name:String):Option Nat :=
 match P.info? t,P.underlying t with
 | some i,some d=>match d with
  | .pointer _=>none
  | _=>match i.methods.find? (·.name==name) with
   | some m=>match m.path.toList,m.func with
    | [],some (f,false)=>some f
    | _,_=>none
   | none=>none
 | _,_=>none
theorem methAt {P:Program} {t:Nat} {name:String} {n:Nat} (h:methB P t name=some n):MethAt P t name n:=by
 intro v args w
 unfold methB at h
 split at h
 case h_2=>cases h
 rename_i i d hi hd
 split at h
 ·cases h
 rename_i hnp
 split at h
 case h_2=>cases h
 rename_i m hm
 split at h
 case h_2=>cases h
 rename_i f hp hf
 cases h
 have hpath:m.path = #[]:=Array.ext' hp
 have hk0:∃k,P.types.size+Made.depth=k+1:=⟨P.types.size+Made.depth-1,by unfold Made.depth;omega⟩
 obtain ⟨k,hk⟩:=hk0
 have hr:∀wr,(receiverAt t (.val v) false wr).run P w=.ok v w:=by
  intro wr
  simp only [receiverAt,Sem.run_bind,run_underlying hd,Result.andThen_ok]
  cases d<;>first | exact absurd rfl (hnp _) | simp [Place.get]
 have hme:(method (k+1) t v name).run P w=.ok (n,v) w:=by
  simp [method,typeInfo,hi,hm,hf,hpath,follow,hr]
 simp [callMethod,hk,hme]
end Go.Vm

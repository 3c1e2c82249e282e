/-
  Joined by a program from the texts TopBase TopAt TopEnds TopHas TopCheck TopCheck2 TopUse TopSmall2 TopNbr TopNbr2 TopPeer TopSym.
-/
import Derived.Test.YtlbmbbaefncleaaGreatDoorOa
import Derived.Test.YtlbmbbaefncleaaGreatDoorNe
set_option maxRecDepth 100000
set_option linter.all false
namespace Go.Proofs.YtlbmbbaefncleaaGreatDoor.Top
open Go.Vm
section
structure Lk where
 a:Int × Int
 b:Int × Int
 dn:Bool
 deriving DecidableEq
instance:Inhabited Lk:=⟨⟨(0,0),(0,0),false⟩⟩
structure Tp where
 ports:List Int
 links:List Lk
 hosts:List (Int × Int)
 deriving DecidableEq
def encP (p:Int × Int):List V:=[.int .i64 p.1,.int .i64 p.2]
def encL (l:Lk):List V:=[.int .i64 l.a.1,.int .i64 l.a.2,.int .i64 l.b.1,.int .i64 l.b.2,.bool l.dn]
def slI (l:List Int):V:=.sl false (l.map (V.int .i64)) l.length
def slP (l:List (Int × Int)):V:=.sl false (l.flatMap encP) l.length
def slL (l:List Lk):V:=.sl false (l.flatMap encL) l.length
def encT (t:Tp):List V:=[slI t.ports,slL t.links,slP t.hosts]
theorem lenP (x:Int × Int):(encP x).length=2:=rfl
theorem gfp_lenP (xs:List (Int × Int)) (i:Nat) (h:i<xs.length) (m:Nat) (hm:m≤2):getV ((xs.flatMap encP).drop (i*2)) 0 m=getV (encP xs[i]) 0 m:=get_flat_part lenP xs i h m hm
theorem lfl_lenP (xs:List (Int × Int)):(xs.flatMap encP).length=xs.length*2:=len_flat lenP xs
theorem lenL (x:Lk):(encL x).length=5:=rfl
theorem gfp_lenL (xs:List (Lk)) (i:Nat) (h:i<xs.length) (m:Nat) (hm:m≤5):getV ((xs.flatMap encL).drop (i*5)) 0 m=getV (encL xs[i]) 0 m:=get_flat_part lenL xs i h m hm
theorem gfd_lenL (xs:List (Lk)) (i:Nat) (h:i<xs.length) (o m:Nat) (hm:o+m≤5):getV (((xs.flatMap encL).drop (i*5)).drop o) 0 m=getV (encL xs[i]) o m:=get_flat_drop lenL xs i h o m hm
theorem lfl_lenL (xs:List (Lk)):(xs.flatMap encL).length=xs.length*5:=len_flat lenL xs
@[simp] theorem belP {n:Nat} (x:Int × Int):belAll n (encP x)=true:=rfl
@[simp] theorem belL {n:Nat} (x:Lk):belAll n (encL x)=true:=rfl
@[simp] theorem bel_ints {n:Nat} (xs:List Int):belAll n (xs.map (V.int .i64))=true:=belAll_map (fun _=>rfl) xs
@[simp] theorem bel_Ps {n:Nat} (xs:List (Int × Int)):belAll n (xs.flatMap encP)=true:=belAll_flat belP xs
@[simp] theorem bel_Ls {n:Nat} (xs:List Lk):belAll n (xs.flatMap encL)=true:=belAll_flat belL xs
@[simp] theorem bel_slI {n:Nat} (l:List Int):(slI l).bel n=true:=by unfold slI;simp only [V.bel];exact belAll_map (fun _=>rfl) l
@[simp] theorem bel_slP {n:Nat} (l:List (Int × Int)):(slP l).bel n=true:=by unfold slP;simp only [V.bel];exact belAll_flat belP l
@[simp] theorem bel_slL {n:Nat} (l:List Lk):(slL l).bel n=true:=by unfold slL;simp only [V.bel];exact belAll_flat belL l
@[simp] theorem belT {n:Nat} (t:Tp):belAll n (encT t)=true:=by simp only [encT,belAll,bel_slI,bel_slP,bel_slL,Bool.and_self]
theorem drop_cons {α:Type} {l:List α} {j:Nat} (h:j<l.length):l.drop j=l[j]::l.drop (j+1):=List.drop_eq_getElem_cons h
theorem getI_nat {l:List Int} {i:Nat} (h:i<l.length):getV ((l.map (V.int .i64)).drop (i*1)) 0 1=[.int .i64 l[i]]:=get_map0 l i h
theorem getI_int {l:List Int} {i:Int} (h0:0≤i) (h1:i<l.length):getV ((l.map (V.int .i64)).drop (i.toNat*1)) 0 1=[.int .i64 (l.getD i.toNat 0)]:=by
 rw [getI_nat (by omega),List.getD_eq_getElem?_getD,List.getElem?_eq_getElem (by omega)];rfl
structure Tp.fit (t:Tp):Prop where
 ports:t.ports.length≤4000000000000000000
 links:t.links.length≤4000000000
 hosts:t.hosts.length≤4000000000
def has (t:Tp) (a:Int × Int):Bool:=decide (0≤a.1)&&(decide (a.1<t.ports.length)&&(decide (0≤a.2)&&decide (a.2<t.ports.getD a.1.toNat 0)))
def firstAt {α:Type} (f:α→Bool):List α→Nat→Int × Bool
 | [],_=>(0,false)
 | x::xs,j=>if f x then (j,true) else firstAt f xs (j+1)
def encIB (r:Int × Bool):V:=.tup [.int .i64 r.1,.bool r.2]
def hostAt (t:Tp) (p:Int × Int):Int × Bool:=firstAt (fun h=>decide (h=p)) t.hosts 0
def linkAt (t:Tp) (p:Int × Int):Int × Bool:=firstAt (fun l=>decide (l.a=p)||decide (l.b=p)) t.links 0
theorem eqP {a b:Int × Int}:(a.1==b.1&&a.2==b.2)=decide (a=b):=by
 obtain ⟨a1,a2⟩:=a
 obtain ⟨b1,b2⟩:=b
 by_cases h1:a1=b1<;>by_cases h2:a2=b2<;>simp [h1,h2]
end
section
theorem firstAt_cons {α:Type} {f:α→Bool} {l:List α} {j:Nat} {r:Int × Bool} (h:j<l.length) (hr:firstAt f (l.drop j) j=r) :
    (f l[j]=true→r=((j:Int),true))∧(f l[j]=false→firstAt f (l.drop (j+1)) (j+1)=r):=by
  rw [drop_cons h,firstAt] at hr
  cases hf:f l[j] with
  | true=>rw [hf] at hr;exact ⟨fun _=>hr.symm,fun h=>by simp at h⟩
  | false=>rw [hf] at hr;exact ⟨fun h=>by simp at h,fun _=>hr⟩
theorem firstAt_end {α:Type} {f:α→Bool} {l:List α} {j:Nat} {r:Int × Bool} (h:¬j<l.length) (hr:firstAt f (l.drop j) j=r):r=(0,false):=by
  rw [List.drop_of_length_le (by omega)] at hr;exact hr.symm
attribute [local push_cast] encT encP encL slI slP slL cfg0 gfp_lenP gfp_lenL gfd_lenL lfl_lenP lfl_lenL eqP
theorem pc177 (t:Tp) (p:Int × Int) (hf:t.fit):PC Tryz.prog 177 [.agg (encT t),.agg (encP p)] (encIB (hostAt t p)):=by
  have:=hf.hosts
  refine PC.walk tok mixed cfg0 Tryz.func177 rfl Tryz.call177 (by simp) (by first | rfl | simp) ?_;refine vms1 Tryz.ntmps177 ?_
  refine T.lp tok mixed cfg0 (fun (j:Nat)=>dd 3 (kp 1 (dd 5 (kp 2 (sv (.int .i64 j) (dd 9 (nl))))))) (fun H0 (j:Nat)=>H0) (fun (j:Nat)=>firstAt (fun h=>decide (h=p)) (t.hosts.drop j) j=hostAt t p) (fun (j:Nat)=>t.hosts.length-j) (0) ?_ ?_ ?_
  · rfl
  · exact Gn.canon (J:=_) (by first | rfl | (simp [List.append_nil];done) | (simp [List.append_nil];rfl)) (by simp [wk,slP,slL,slI,putT,kp,dd,sv,nl]) (by simp [List.length_append]) (by simp [kp,dd,sv,nl]) (by simp)
  · intro j hj
    refine vms0 ?_
    refine ⟨fun hlt=>⟨fun he=>?_,fun hne=>?_⟩,fun hge=>?_⟩
    · have:=(firstAt_cons hlt hj).1 (by simp [he])
      refine endK.retA ?_;simp [evRes,getT,retV,Tryz.f177,this,encIB]
    · refine ⟨j+1,(firstAt_cons hlt hj).2 (by simp [hne]),by (try simp only);omega,?_⟩;exact Gn.canon (by first | rfl | (simp [List.append_nil];rfl)) (by simp [wk,slP,slL,slI]) (by simp [List.length_append]) (by simp) (by simp)
    · refine endK.retA ?_;simp [evRes,getT,retV,Tryz.f177,firstAt_end (by omega) hj,encIB]
theorem pc149 (t:Tp) (p:Int × Int) (hf:t.fit):PC Tryz.prog 149 [.agg (encT t),.agg (encP p)] (encIB (linkAt t p)):=by
  have:=hf.links
  refine PC.walk tok mixed cfg0 Tryz.func149 rfl Tryz.call149 (by simp) (by first | rfl | simp) ?_;refine vms1 Tryz.ntmps149 ?_
  refine T.lp tok mixed cfg0 (fun (j:Nat)=>dd 2 (kp 2 (dd 2 (sv (.int .i64 j) (dd 26 (nl)))))) (fun H0 (j:Nat)=>H0) (fun (j:Nat)=>firstAt (fun l=>decide (l.a=p)||decide (l.b=p)) (t.links.drop j) j=linkAt t p) (fun (j:Nat)=>t.links.length-j) (0) ?_ ?_ ?_
  · rfl
  · exact Gn.canon (J:=_) (by first | rfl | (simp [List.append_nil];done) | (simp [List.append_nil];rfl)) (by simp [wk,slP,slL,slI,putT,kp,dd,sv,nl]) (by simp [List.length_append]) (by simp [kp,dd,sv,nl]) (by simp)
  · intro j hj
    refine vms0 ?_
    refine ⟨fun hlt=>?_,fun hge=>?_⟩
    · have hc:=firstAt_cons hlt hj
      repeat' (first | intro _ | refine And.intro ?_ ?_)
      all_goals first
        | (have:=hc.1 (by simp [*])
           refine endK.retA ?_;simp [evRes,getT,retV,Tryz.f149,this,encIB]
           done)
        | refine ⟨j+1,hc.2 (by simp [*]),by (try simp only);omega,?_⟩;exact Gn.canon (by first | rfl | (simp [List.append_nil];rfl)) (by simp [wk,slP,slL,slI]) (by simp [List.length_append]) (by simp) (by simp)
    · refine endK.retA ?_;simp [evRes,getT,retV,Tryz.f149,firstAt_end (by omega) hj,encIB]
theorem pc176 (t:Tp) (p:Int × Int) (hf:t.fit):PC Tryz.prog 176 [.agg (encT t),.agg (encP p)] (encIB (linkAt t p)):=by
  have:=hf.links
  refine PC.walk tok mixed cfg0 Tryz.func176 rfl Tryz.call176 (by simp) (by first | rfl | simp) ?_;refine vms1 Tryz.ntmps176 ?_
  refine T.lp tok mixed cfg0 (fun (j:Nat)=>dd 3 (kp 1 (dd 5 (kp 2 (sv (.int .i64 j) (dd 16 (nl))))))) (fun H0 (j:Nat)=>H0) (fun (j:Nat)=>firstAt (fun l=>decide (l.a=p)||decide (l.b=p)) (t.links.drop j) j=linkAt t p) (fun (j:Nat)=>t.links.length-j) (0) ?_ ?_ ?_
  · rfl
  · exact Gn.canon (J:=_) (by first | rfl | (simp [List.append_nil];done) | (simp [List.append_nil];rfl)) (by simp [wk,slP,slL,slI,putT,kp,dd,sv,nl]) (by simp [List.length_append]) (by simp [kp,dd,sv,nl]) (by simp)
  · intro j hj
    refine vms0 ?_
    refine ⟨fun hlt=>?_,fun hge=>?_⟩
    · have hc:=firstAt_cons hlt hj
      repeat' (first | intro _ | refine And.intro ?_ ?_)
      all_goals first
        | (have:=hc.1 (by simp [*])
           refine endK.retA ?_;simp [evRes,getT,retV,Tryz.f176,this,encIB]
           done)
        | refine ⟨j+1,hc.2 (by simp [*]),by (try simp only);omega,?_⟩;exact Gn.canon (by first | rfl | (simp [List.append_nil];rfl)) (by simp [wk,slP,slL,slI]) (by simp [List.length_append]) (by simp) (by simp)
    · refine endK.retA ?_;simp [evRes,getT,retV,Tryz.f176,firstAt_end (by omega) hj,encIB]
end
section
def endsOf (l:List Lk):List (Int × Int):=l.flatMap fun x=>[x.a,x.b]
def ends (t:Tp):List (Int × Int):=endsOf t.links++t.hosts
theorem ones_P {g:Bool} {p:Prop}:∀ {xs:List (Int × Int)},ones g (xs.flatMap encP) p=p
 | []=>rfl
 | x::xs=>by simp only [List.flatMap_cons,encP,List.cons_append,List.nil_append,ones,V.one];exact ones_P
theorem take_P {xs:List (Int × Int)}:(xs.flatMap encP).take (xs.length*2)=xs.flatMap encP:=by
 rw [List.take_of_length_le (by rw [len_flat lenP];exact Nat.le_refl _)]
theorem endsOf_length (l:List Lk):(endsOf l).length=2*l.length:=by
 induction l with
 | nil=>rfl
 | cons x l ih=>simp only [endsOf,List.flatMap_cons,List.length_append,List.length_cons,List.length_nil] at ih ⊢;omega
theorem endsOf_take {l:List Lk} {j:Nat} (h:j<l.length):endsOf (l.take (j+1))=endsOf (l.take j)++[l[j].a,l[j].b]:=by
 unfold endsOf
 rw [List.take_add_one,List.getElem?_eq_getElem h,List.flatMap_append]
 rfl
attribute [local push_cast] encT encP encL slI slP slL cfg0 gfp_lenP gfp_lenL gfd_lenL lfl_lenP lfl_lenL eqP endsOf_length ones_P take_P
theorem pc89 (t:Tp) (hf:t.fit):PC Tryz.prog 89 [.agg (encT t)] (slP (ends t)):=by
 have hfl:=hf.links
 have hfh:=hf.hosts
 refine PC.walk tok mixed cfg0 Tryz.func89 rfl Tryz.call89 (by simp) (by first | rfl | simp) ?_;refine vms1 Tryz.ntmps89 ?_
 refine T.lp tok mixed cfg0 (fun ((j,ver):Nat × Nat)=>dd 1 (kp 1 (dd 1 (sv (.buf 1 ver 0 (2*j) 2) (dd 3 (kp 2 (sv (.int .i64 j) (dd 15 (nl))))))))) (fun H0 ((j,ver):Nat × Nat)=>[.cells 0 (encT t),.cells ver ((endsOf (t.links.take j)).flatMap encP)]) (fun ((j,ver):Nat × Nat)=>j≤t.links.length) (fun ((j,ver):Nat × Nat)=>t.links.length-j) ((0,0)) ?_ ?_ ?_
 ·exact Nat.zero_le _
 ·refine (Gn.ownNil (t:=3) (sz:=2) rfl).trans ?_
  exact Gn.canon (J:=[]) (by first | rfl | (simp [List.append_nil];done) | (simp [List.append_nil];rfl)) (by simp [wk,putT,kp,dd,sv,nl]) (by simp [List.length_append]) (by simp [kp,dd,sv,nl]) (by simp)
 ·rintro ⟨j,ver⟩ hj
  simp only at hj
  refine vms0 ?_
  refine ⟨fun hlt=>?_,fun hge=>?_⟩
  ·refine ⟨(j+1,ver+1),hlt,by simp only;omega,?_⟩
   exact Gn.canonA (J:=[.cells 0 (encL t.links[j])]) (by simp [endsOf_take hlt,encP,encL,encT,slI,slL,slP]) (by simp [wk,slL,Nat.mul_add])
  ·obtain rfl:j=t.links.length:=by omega
   refine endK.gn (Gn.freeze (id:=1) rfl) (endK.ret ?_ (bel_slP (ends t)))
   simp only [List.take_length,evRes,getT,retV,Tryz.f89,fzs,fz,Nat.beq_refl]
   simp only [List.drop_zero,Nat.beq]
   rw [List.take_of_length_le (by rw [List.length_append,len_flat lenP,len_flat lenP,endsOf_length];omega)]
   simp [ends,endsOf_length,slP]
theorem pc93 (t:Tp) (hf:t.fit):PC Tryz.prog 93 [.agg (encT t)] (slP (ends t)):=by
 have hfl:=hf.links
 have hfh:=hf.hosts
 refine PC.walk tok mixed cfg0 Tryz.func93 rfl Tryz.call93 (by simp) (by first | rfl | simp) ?_;refine vms1 Tryz.ntmps93 ?_
 refine T.lp tok mixed cfg0 (fun ((j,ver):Nat × Nat)=>dd 1 (kp 1 (dd 1 (sv (.buf 1 ver 0 (2*j) 2) (sv (.int .i64 j) (dd 26 (nl))))))) (fun H0 ((j,ver):Nat × Nat)=>[.cells 0 (encT t),.cells ver ((endsOf (t.links.take j)).flatMap encP)]) (fun ((j,ver):Nat × Nat)=>j≤t.links.length) (fun ((j,ver):Nat × Nat)=>t.links.length-j) ((0,0)) ?_ ?_ ?_
 ·exact Nat.zero_le _
 ·refine (Gn.ownNil (t:=3) (sz:=2) rfl).trans ?_
  exact Gn.canon (J:=[]) (by first | rfl | (simp [List.append_nil];done) | (simp [List.append_nil];rfl)) (by simp [wk,putT,kp,dd,sv,nl]) (by simp [List.length_append]) (by simp [kp,dd,sv,nl]) (by simp)
 ·rintro ⟨j,ver⟩ hj
  simp only at hj
  refine vms0 ?_
  refine ⟨fun hlt=>?_,fun hge=>?_⟩
  ·refine ⟨(j+1,ver+1),hlt,by simp only;omega,?_⟩
   exact Gn.canonA (J:=[]) (by simp [endsOf_take hlt,encP,encL,encT,slI,slL,slP]) (by simp [wk,slL,Nat.mul_add])
  ·obtain rfl:j=t.links.length:=by omega
   refine endK.gn (Gn.freeze (id:=1) rfl) (endK.ret ?_ (bel_slP (ends t)))
   simp only [List.take_length,evRes,getT,retV,Tryz.f93,fzs,fz,Nat.beq_refl]
   simp only [List.drop_zero,Nat.beq]
   rw [List.take_of_length_le (by rw [List.length_append,len_flat lenP,len_flat lenP,endsOf_length];omega)]
   simp [ends,endsOf_length,slP]
end
section
attribute [local push_cast] encT encP encL slI slP slL cfg0
theorem pc90 (t:Tp) (p:Int × Int):PC Tryz.prog 90 [.agg (encT t),.agg (encP p)] (.bool (has t p)):=by
 refine PC.walk tok mixed cfg0 Tryz.func90 rfl Tryz.call90 (by simp [belAll,V.bel,belT,belP]) rfl ?_
 simp (maxSteps:=2000000) -implicitDefEqProofs +contextual (disch:=first | assumption | omega | decide +kernel) only [push_cast,↓capI,seval,Nat.reduceLeDiff,Nat.reduceEqDiff,reduceCtorEq,↓reduceIte,Tryz.ntmps90,getI_int]
 repeat' (first | intro _ | refine And.intro ?_ ?_)
 all_goals
  refine endK.ret ?_ rfl
  simp only [evRes,getT,retV,Tryz.f90]
  simp [has, *]
theorem pc94 (t:Tp) (p:Int × Int):PC Tryz.prog 94 [.agg (encT t),.agg (encP p)] (.bool (has t p)):=by
 refine PC.walk tok mixed cfg0 Tryz.func94 rfl Tryz.call94 (by simp [belAll,V.bel,belT,belP]) rfl ?_
 simp (maxSteps:=2000000) -implicitDefEqProofs +contextual (disch:=first | assumption | omega | decide +kernel) only [push_cast,↓capI,seval,Nat.reduceLeDiff,Nat.reduceEqDiff,reduceCtorEq,↓reduceIte,Tryz.ntmps94,getI_int]
 repeat' (first | intro _ | refine And.intro ?_ ?_)
 all_goals
  refine endK.ret ?_ rfl
  simp only [evRes,getT,retV,Tryz.f94]
  simp [has, *]
end
section
def badN (n:Int):Bool:=decide (n<1)||decide (16<n)
def dup:List (Int × Int)→List (Int × Int)→Bool
  | _,[]=>false
  | pre,a::r=>pre.any (fun b=>decide (a=b))||dup (pre++[a]) r
def chk1 (t:Tp):Int :=
  if t.ports.any badN then 9 else if (ends t).any (fun a=>!has t a) then 9 else if dup [] (ends t) then 7 else if t.links.any (fun l=>decide (l.a.1=l.b.1)) then 2 else 0
def chk (t:Tp):Int :=
  if (t.ports.length:Int)=0 then 8 else if 16<(t.ports.length:Int) then 12 else if 32<(t.links.length:Int) then 12 else if 16<(t.hosts.length:Int) then 12 else chk1 t
theorem any_cons {α:Type} {f:α→Bool} {l:List α} {j:Nat} {r:Bool} (h:j<l.length) (hr:(l.drop j).any f=r):(f l[j]=true→r=true)∧(f l[j]=false→(l.drop (j+1)).any f=r):=by
  rw [drop_cons h,List.any_cons] at hr
  cases hf:f l[j] with
  | true=>rw [hf] at hr;exact ⟨fun _=>by simpa using hr.symm,fun h=>by simp at h⟩
  | false=>rw [hf] at hr;exact ⟨fun h=>by simp at h,fun _=>by simpa using hr⟩
theorem any_end {α:Type} {f:α→Bool} {l:List α} {j:Nat} {r:Bool} (h:¬j<l.length) (hr:(l.drop j).any f=r):r=false:=by
  rw [List.drop_of_length_le (by omega)] at hr;exact hr.symm
attribute [local push_cast] encT encP encL slI slP slL cfg0 gfp_lenP gfp_lenL gfd_lenL lfl_lenP lfl_lenL eqP getI_nat
theorem pc54 (t:Tp) (hf:t.fit):PC Tryz.prog 54 [.agg (encT t)] (.int .i64 (chk t)):=by
  refine PC.walk tok mixed cfg0 Tryz.func54 rfl Tryz.call54 (by simp [belAll,V.bel,belT,belP]) rfl ?_
  have hfp:=hf.ports
  have hfl:=hf.links
  have hfh:=hf.hosts
  refine vms1 Tryz.ntmps54 ?_
  repeat' (first | intro _ | refine And.intro ?_ ?_)
  all_goals try (refine endK.ret ?_ rfl;simp only [evRes,getT,retV,Tryz.f54,chk, *,↓reduceIte];done)
  have hc:chk t=chk1 t:=by simp only [chk, *,↓reduceIte]
  rw [hc]
  refine T.rounds tok mixed cfg0 (fun j:Nat=>⟨(.dead::.ptr 0 0 0::.int .i64 0::.dead::.dead::.dead::.dead::.dead::.dead::.dead::.dead::.dead::.dead::.dead::.dead::.dead::.dead::.dead::.dead::.dead::.dead::.dead::.dead::.dead::.dead::.dead::.dead::.dead::.dead::.dead::.dead::.dead::.dead::.dead::.dead::slI t.ports::.int .i64 t.ports.length::.int .i64 j::.dead::.dead::.dead::.dead::.dead::.dead::.dead::.dead::.dead::.dead::.dead::.dead::.dead::.dead::.dead::.dead::.dead::.dead::.dead::.dead::.dead::.dead::.dead::.dead::.dead::.dead::.dead::.dead::.dead::.dead::.dead::.dead::.dead::.dead::.dead::.dead::.dead::.dead::.dead::.dead::.dead::.dead::.dead::.dead::.dead::.dead::.dead::.dead::.dead::.dead::.dead::.dead::.dead::.dead::.dead::.dead::.dead::.dead::[]),[.cells 0 (encT t)]⟩)
    (fun j=>(t.ports.drop j).any badN=t.ports.any badN) (fun j=>t.ports.length-j) 0 ?_ rfl ?_
  · exact Gn.canonA (J:=[]) rfl (by simp [wk,slI])
  intro j hj
  refine vms0 ?_
  refine ⟨fun hlt=>?_,fun hge=>?_⟩
  · have hx:=any_cons hlt hj
    repeat' (first | intro _ | refine And.intro ?_ ?_)
    all_goals first
      | (refine endK.ret ?_ rfl
         have:=hx.1 (by simp [badN, *])
         simp [evRes,getT,retV,Tryz.f54,chk1,this]
         done)
      | (refine ⟨j+1,hx.2 (by simp [badN, *]),by simp only;omega,?_⟩
         refine Gn.canonA (J:=[]) rfl ?_
         skip
         simp [wk,slI])
  have h1:=any_end hge hj
  clear hge hj
  refine callO.pc (pc89 t hf) ?_
  refine vms0 ?_
  refine T.rounds tok mixed cfg0 (fun j:Nat=>⟨(.dead::.ptr 0 0 0::.int .i64 0::.dead::.dead::slP (ends t)::.dead::.dead::.dead::.dead::.dead::.dead::.dead::.dead::.dead::.dead::.dead::.dead::.dead::.dead::.dead::.dead::.dead::.dead::.dead::.dead::.dead::.dead::.dead::.dead::.dead::.dead::.dead::.dead::.dead::.dead::.dead::.dead::.dead::.dead::.dead::.dead::.dead::.dead::.dead::.dead::.dead::.dead::.dead::.dead::slP (ends t)::.int .i64 (ends t).length::.int .i64 j::.dead::.dead::.dead::.dead::.dead::.dead::.dead::.dead::.dead::.dead::.dead::.dead::.dead::.dead::.dead::.dead::.dead::.dead::.dead::.dead::.dead::.dead::.dead::.dead::.dead::.dead::.dead::.dead::.dead::.dead::.dead::.dead::.dead::.dead::.dead::.dead::.dead::.dead::.dead::.dead::.dead::.dead::.dead::[]),[.cells 0 (encT t)]⟩)
    (fun j=>((ends t).drop j).any (fun a=>!has t a)=(ends t).any (fun a=>!has t a)) (fun j=>(ends t).length-j) 0 ?_ rfl ?_
  · exact Gn.canonA (J:=[]) rfl (by simp [wk,slP])
  have hle:(ends t).length≤20000000000:=by simp only [ends,List.length_append,endsOf_length];omega
  intro j hj
  refine vms0 ?_
  refine ⟨fun hlt=>?_,fun hge=>?_⟩
  · have hx:=any_cons hlt hj
    refine callO.pc (pc90 t (ends t)[j]) ?_
    refine vms0 ?_
    refine ⟨fun hh=>?_,fun hh=>?_⟩
    · refine endK.ret ?_ rfl
      have:=hx.1 (by simp [hh])
      simp [evRes,getT,retV,Tryz.f54,chk1,h1,this]
    · refine ⟨j+1,hx.2 (by simp [hh]),by simp only;omega,?_⟩
      refine Gn.canonA rfl ?_
      skip
      simp [wk,slP]
  have h2:=any_end hge hj
  clear hge hj
  refine T.rounds tok mixed cfg0 (fun i:Nat=>⟨(.dead::.ptr 0 0 0::.int .i64 0::.dead::.dead::slP (ends t)::.dead::.dead::.dead::.dead::.dead::.dead::.dead::.dead::.dead::.dead::.dead::.dead::.dead::.dead::.dead::.dead::.dead::.dead::.dead::.dead::.dead::.dead::.dead::.dead::.dead::.dead::.dead::.dead::.dead::.dead::.dead::.dead::.dead::.dead::.dead::.dead::.dead::.dead::.dead::.dead::.dead::.dead::.dead::.dead::.dead::.dead::.dead::.dead::.dead::.dead::.dead::.dead::.dead::.dead::.dead::slP (ends t)::.int .i64 (ends t).length::.int .i64 i::.dead::.dead::.dead::.dead::.dead::.dead::.dead::.dead::.dead::.dead::.dead::.dead::.dead::.dead::.dead::.dead::.dead::.dead::.dead::.dead::.dead::.dead::.dead::.dead::.dead::.dead::.dead::.dead::.dead::.dead::.dead::.dead::[]),[.cells 0 (encT t)]⟩)
    (fun i=>dup ((ends t).take i) ((ends t).drop i)=dup [] (ends t)) (fun i=>(ends t).length-i) 0 ?_ rfl ?_
  · exact Gn.canonA (J:=[]) rfl (by simp [wk,slP])
  intro i hi
  refine vms0 ?_
  refine ⟨fun hlt=>?_,fun hge=>?_⟩
  · skip
    rw [drop_cons hlt,dup] at hi
    obtain ⟨pre,hpre⟩:∃pre,pre=(ends t).take i:=⟨_,rfl⟩
    obtain ⟨x,hxe⟩:∃x,x=(ends t)[i]:=⟨_,rfl⟩
    have hpl:pre.length=i:=by rw [hpre,List.length_take];omega
    rw [←hpre,←hxe] at hi
    refine T.rounds tok mixed cfg0 (fun k:Nat=>⟨(.dead::.ptr 0 0 0::.int .i64 0::.dead::.dead::slP (ends t)::.dead::.dead::.dead::.ptr 1 0 0::.dead::.dead::.dead::.dead::.dead::.dead::.dead::.dead::.dead::.dead::.dead::.dead::.dead::.dead::.dead::.dead::.dead::.dead::.dead::.dead::.dead::.dead::.dead::.dead::.dead::.dead::.dead::.dead::.dead::.dead::.dead::.dead::.dead::.dead::.dead::.dead::.dead::.dead::.dead::.dead::.dead::.dead::.dead::.dead::.dead::.dead::.dead::.dead::.dead::.dead::.dead::slP (ends t)::.int .i64 (ends t).length::.int .i64 i::.dead::.dead::.dead::.dead::.dead::.dead::slP pre::.int .i64 pre.length::.int .i64 k::.dead::.dead::.dead::.dead::.dead::.dead::.dead::.dead::.dead::.dead::.dead::.dead::.dead::.dead::.dead::.dead::.dead::.dead::.dead::.dead::.dead::.dead::.dead::[]),[.cells 0 (encT t),.cells 0 (encP x)]⟩)
      (fun k=>(pre.drop k).any (fun b=>decide (x=b))=pre.any (fun b=>decide (x=b))) (fun k=>pre.length-k) 0 ?_ rfl ?_
    · refine Gn.canonA (J:=[]) (by rw [hxe];rfl) ?_
      simp [wk,slP,hpl]
      rw [take_flat lenP,hpre]
    intro k hk
    refine vms0 ?_
    refine ⟨fun hlt2=>?_,fun hge2=>?_⟩
    · have hx:=any_cons hlt2 hk
      refine ⟨fun he=>?_,fun he=>?_⟩
      · refine endK.ret ?_ rfl
        have h3:=hx.1 (by simp [he])
        rw [h3] at hi
        simp [evRes,getT,retV,Tryz.f54,chk1,h1,h2,←hi]
      · refine ⟨k+1,hx.2 (by simp [he]),by simp only;omega,?_⟩
        refine Gn.canonA rfl ?_
        skip
        simp [wk,slP]
    · have h3:=any_end hge2 hk
      rw [h3,Bool.false_or] at hi
      refine ⟨i+1,?_,by simp only;omega,?_⟩
      · show dup ((ends t).take (i+1)) ((ends t).drop (i+1))=_
        rw [List.take_add_one,List.getElem?_eq_getElem hlt,←hpre,←hxe]
        exact hi
      · refine Gn.canonA rfl ?_
        skip
        simp [wk,slP]
  have h3:dup [] (ends t)=false:=by rw [List.drop_of_length_le (by omega)] at hi;exact hi.symm
  clear hge hi
  refine T.rounds tok mixed cfg0 (fun j:Nat=>⟨(.dead::.ptr 0 0 0::.int .i64 0::.dead::.dead::.dead::.dead::.dead::.dead::.dead::.dead::.dead::.dead::.dead::.dead::.dead::.dead::.dead::.dead::.dead::.dead::.dead::.dead::.dead::.dead::.dead::.dead::.dead::.dead::.dead::.dead::.dead::.dead::.dead::.dead::.dead::.dead::.dead::.dead::.dead::.dead::.dead::.dead::.dead::.dead::.dead::.dead::.dead::.dead::.dead::.dead::.dead::.dead::.dead::.dead::.dead::.dead::.dead::.dead::.dead::.dead::.dead::.dead::.dead::.dead::.dead::.dead::.dead::.dead::.dead::.dead::.dead::.dead::.dead::.dead::.dead::.dead::.dead::.dead::.dead::.dead::.dead::slL t.links::.int .i64 t.links.length::.int .i64 j::.dead::.dead::.dead::.dead::.dead::.dead::.dead::.dead::.dead::.dead::.dead::[]),[.cells 0 (encT t)]⟩)
    (fun j=>(t.links.drop j).any (fun l=>decide (l.a.1=l.b.1))=t.links.any (fun l=>decide (l.a.1=l.b.1))) (fun j=>t.links.length-j) 0 ?_ rfl ?_
  · exact Gn.canonA (J:=[]) rfl (by simp [wk,slL])
  intro j hj
  refine vms0 ?_
  refine ⟨fun hlt=>?_,fun hge=>?_⟩
  · have hx:=any_cons hlt hj
    refine ⟨fun he=>?_,fun he=>?_⟩
    · refine endK.ret ?_ rfl
      have h4:=hx.1 (by simp [he])
      simp [evRes,getT,retV,Tryz.f54,chk1,h1,h2,h3,h4]
    · refine ⟨j+1,hx.2 (by simp [he]),by simp only;omega,?_⟩
      refine Gn.canonA rfl ?_
      skip
      simp [wk,slL]
  · refine endK.ret ?_ rfl
    simp [evRes,getT,retV,Tryz.f54,chk1,h1,h2,h3,any_end hge hj]
end
section
attribute [local push_cast] encT encP encL slI slP slL cfg0 gfp_lenP gfp_lenL gfd_lenL lfl_lenP lfl_lenL eqP getI_nat
theorem pc57 (t:Tp) (hf:t.fit):PC Tryz.prog 57 [.agg (encT t)] (.int .i64 (chk t)):=by
  refine PC.walk tok mixed cfg0 Tryz.func57 rfl Tryz.call57 (by simp [belAll,V.bel,belT,belP]) rfl ?_
  have hfp:=hf.ports
  have hfl:=hf.links
  have hfh:=hf.hosts
  refine vms1 Tryz.ntmps57 ?_
  repeat' (first | intro _ | refine And.intro ?_ ?_)
  all_goals try (refine endK.ret ?_ rfl;simp only [evRes,getT,retV,Tryz.f57,chk, *,↓reduceIte];done)
  have hc:chk t=chk1 t:=by simp only [chk, *,↓reduceIte]
  rw [hc]
  refine T.rounds tok mixed cfg0 (fun j:Nat=>⟨(.dead::.ptr 0 0 0::.int .i64 0::.int .i64 j::.dead::.dead::.dead::.dead::.dead::.dead::.dead::.dead::.dead::.dead::.dead::.dead::.dead::.dead::.dead::.dead::.dead::.dead::.dead::.dead::.dead::.dead::.dead::.dead::.dead::.dead::.dead::.dead::.dead::.dead::.dead::.dead::.dead::.dead::.dead::.dead::.dead::.dead::.dead::.dead::.dead::.dead::.dead::.dead::.dead::.dead::.dead::.dead::.dead::.dead::.dead::.dead::.dead::.dead::.dead::.dead::.dead::.dead::.dead::.dead::.dead::.dead::.dead::.dead::.dead::.dead::.dead::.dead::.dead::.dead::.dead::.dead::.dead::.dead::.dead::.dead::.dead::.dead::.dead::.dead::.dead::.dead::.dead::.dead::.dead::.dead::.dead::.dead::.dead::.dead::.dead::.dead::.dead::.dead::.dead::.dead::.dead::.dead::.dead::.dead::.dead::.dead::.dead::.dead::.dead::[]),[.cells 0 (encT t)]⟩)
    (fun j=>(t.ports.drop j).any badN=t.ports.any badN) (fun j=>t.ports.length-j) 0 ?_ rfl ?_
  · exact Gn.canonA (J:=[]) rfl (by simp [wk,slI])
  intro j hj
  refine vms0 ?_
  refine ⟨fun hlt=>?_,fun hge=>?_⟩
  · have hx:=any_cons hlt hj
    repeat' (first | intro _ | refine And.intro ?_ ?_)
    all_goals first
      | (refine endK.ret ?_ rfl
         have:=hx.1 (by simp [badN, *])
         simp [evRes,getT,retV,Tryz.f57,chk1,this]
         done)
      | (refine ⟨j+1,hx.2 (by simp [badN, *]),by simp only;omega,?_⟩
         refine Gn.canonA (J:=[]) rfl ?_
         skip
         simp [wk,slI])
  have h1:=any_end hge hj
  clear hge hj
  refine callO.pc (pc93 t hf) ?_
  refine vms0 ?_
  refine T.rounds tok mixed cfg0 (fun j:Nat=>⟨(.dead::.ptr 0 0 0::.int .i64 0::.dead::slP (ends t)::.int .i64 j::.dead::.dead::.dead::.dead::.dead::.dead::.dead::.dead::.dead::.dead::.dead::.dead::.dead::.dead::.dead::.dead::.dead::.dead::.dead::.dead::.dead::.dead::.dead::.dead::.dead::.dead::.dead::.dead::.dead::.dead::.dead::.dead::.dead::.dead::.dead::.dead::.dead::.dead::.dead::.dead::.dead::.dead::.dead::.dead::.dead::.dead::.dead::.dead::.dead::.dead::.dead::.dead::.dead::.dead::.dead::.dead::.dead::.dead::.dead::.dead::.dead::.dead::.dead::.dead::.dead::.dead::.dead::.dead::.dead::.dead::.dead::.dead::.dead::.dead::.dead::.dead::.dead::.dead::.dead::.dead::.dead::.dead::.dead::.dead::.dead::.dead::.dead::.dead::.dead::.dead::.dead::.dead::.dead::.dead::.dead::.dead::.dead::.dead::.dead::.dead::.dead::.dead::.dead::[]),[.cells 0 (encT t)]⟩)
    (fun j=>((ends t).drop j).any (fun a=>!has t a)=(ends t).any (fun a=>!has t a)) (fun j=>(ends t).length-j) 0 ?_ rfl ?_
  · exact Gn.canonA (J:=[]) rfl (by simp [wk,slP])
  have hle:(ends t).length≤20000000000:=by simp only [ends,List.length_append,endsOf_length];omega
  intro j hj
  refine vms0 ?_
  refine ⟨fun hlt=>?_,fun hge=>?_⟩
  · have hx:=any_cons hlt hj
    skip
    refine callG.pc1 (pc94 t (ends t)[j]) ?_
    refine vms0 ?_
    refine ⟨fun hh=>?_,fun hh=>?_⟩
    · refine endK.ret ?_ rfl
      have:=hx.1 (by simp [hh])
      simp [evRes,getT,retV,Tryz.f57,chk1,h1,this]
    · refine ⟨j+1,hx.2 (by simp [hh]),by simp only;omega,?_⟩
      refine Gn.canonA (J:=[]) rfl ?_
      skip
      simp [wk,slP]
  have h2:=any_end hge hj
  clear hge hj
  refine T.rounds tok mixed cfg0 (fun i:Nat=>⟨(.dead::.ptr 0 0 0::.int .i64 0::.dead::slP (ends t)::.dead::.int .i64 i::.dead::.dead::.dead::.dead::.dead::.dead::.dead::.dead::.dead::.dead::.dead::.dead::.dead::.dead::.dead::.dead::.dead::.dead::.dead::.dead::.dead::.dead::.dead::.dead::.dead::.dead::.dead::.dead::.dead::.dead::.dead::.dead::.dead::.dead::.dead::.dead::.dead::.dead::.dead::.dead::.dead::.dead::.dead::.dead::.dead::.dead::.dead::.dead::.dead::.dead::.dead::.dead::.dead::.dead::.dead::.dead::.dead::.dead::.dead::.dead::.dead::.dead::.dead::.dead::.dead::.dead::.dead::.dead::.dead::.dead::.dead::.dead::.dead::.dead::.dead::.dead::.dead::.dead::.dead::.dead::.dead::.dead::.dead::.dead::.dead::.dead::.dead::.dead::.dead::.dead::.dead::.dead::.dead::.dead::.dead::.dead::.dead::.dead::.dead::.dead::.dead::.dead::[]),[.cells 0 (encT t)]⟩)
    (fun i=>dup ((ends t).take i) ((ends t).drop i)=dup [] (ends t)) (fun i=>(ends t).length-i) 0 ?_ rfl ?_
  · exact Gn.canonA (J:=[]) rfl (by simp [wk,slP])
  intro i hi
  refine vms0 ?_
  refine ⟨fun hlt=>?_,fun hge=>?_⟩
  · rw [drop_cons hlt,dup] at hi
    obtain ⟨pre,hpre⟩:∃pre,pre=(ends t).take i:=⟨_,rfl⟩
    have hpl:pre.length=i:=by rw [hpre,List.length_take];omega
    rw [←hpre] at hi
    refine T.rounds tok mixed cfg0 (fun k:Nat=>⟨(.dead::.ptr 0 0 0::.int .i64 0::.dead::slP (ends t)::.dead::.int .i64 i::.int .i64 k::.dead::.dead::.dead::.dead::.dead::.dead::.dead::.dead::.dead::.dead::.dead::.dead::.dead::.dead::.dead::.dead::.dead::.dead::.dead::.dead::.dead::.dead::.dead::.dead::.dead::.dead::.dead::.dead::.dead::.dead::.dead::.dead::.dead::.dead::.dead::.dead::.dead::.dead::.dead::.dead::.dead::.dead::.dead::.dead::.dead::.dead::.dead::.dead::.dead::.dead::.dead::.dead::.dead::.dead::.dead::.dead::.dead::.dead::.dead::.dead::.dead::.dead::.dead::.dead::.dead::.dead::.dead::.dead::.dead::.dead::.dead::.dead::.dead::.dead::.dead::.dead::.dead::.dead::.dead::.dead::.dead::.dead::.dead::.dead::.dead::.dead::.dead::.dead::.dead::.dead::.dead::.dead::.dead::.dead::.dead::.dead::.dead::.dead::.dead::.dead::.dead::[]),[.cells 0 (encT t)]⟩)
      (fun k=>k≤i∧(pre.drop k).any (fun b=>decide ((ends t)[i]=b))=pre.any (fun b=>decide ((ends t)[i]=b))) (fun k=>i-k) 0 ?_ ⟨Nat.zero_le _,rfl⟩ ?_
    · exact Gn.canonA (J:=[]) rfl (by simp [wk,slP])
    intro k hk
    have hk0:=hk.1
    have hk1:=hk.2
    clear hk
    by_cases hki:k<i
    · have hke:k<(ends t).length:=by omega
      refine vms3 hki hke hlt ?_
      have hkp:k<pre.length:=by omega
      have hpk:pre[k]=(ends t)[k]:=by simp [hpre]
      have hx:=any_cons hkp hk1
      rw [hpk] at hx
      refine ⟨fun he=>?_,fun he=>?_⟩
      · refine endK.ret ?_ rfl
        have h3:=hx.1 (by simp [he])
        rw [h3] at hi
        simp [evRes,getT,retV,Tryz.f57,chk1,h1,h2,←hi]
      · refine ⟨k+1,⟨hki,hx.2 (by simp [he])⟩,by simp only;omega,?_⟩
        refine Gn.canonA (J:=[]) rfl ?_
        skip
        simp [wk,slP]
    · refine vms1 hki ?_
      have h3:=any_end (by omega:¬k<pre.length) hk1
      rw [h3,Bool.false_or] at hi
      refine ⟨i+1,?_,by simp only;omega,?_⟩
      · show dup ((ends t).take (i+1)) ((ends t).drop (i+1))=_
        rw [List.take_add_one,List.getElem?_eq_getElem hlt,←hpre]
        exact hi
      · refine Gn.canonA (J:=[]) rfl ?_
        skip
        simp [wk,slP]
  have h3:dup [] (ends t)=false:=by rw [List.drop_of_length_le (by omega)] at hi;exact hi.symm
  clear hge hi
  refine T.rounds tok mixed cfg0 (fun j:Nat=>⟨(.dead::.ptr 0 0 0::.int .i64 0::.dead::.dead::.dead::.dead::.dead::.int .i64 j::.dead::.dead::.dead::.dead::.dead::.dead::.dead::.dead::.dead::.dead::.dead::.dead::.dead::.dead::.dead::.dead::.dead::.dead::.dead::.dead::.dead::.dead::.dead::.dead::.dead::.dead::.dead::.dead::.dead::.dead::.dead::.dead::.dead::.dead::.dead::.dead::.dead::.dead::.dead::.dead::.dead::.dead::.dead::.dead::.dead::.dead::.dead::.dead::.dead::.dead::.dead::.dead::.dead::.dead::.dead::.dead::.dead::.dead::.dead::.dead::.dead::.dead::.dead::.dead::.dead::.dead::.dead::.dead::.dead::.dead::.dead::.dead::.dead::.dead::.dead::.dead::.dead::.dead::.dead::.dead::.dead::.dead::.dead::.dead::.dead::.dead::.dead::.dead::.dead::.dead::.dead::.dead::.dead::.dead::.dead::.dead::.dead::.dead::.dead::.dead::[]),[.cells 0 (encT t)]⟩)
    (fun j=>(t.links.drop j).any (fun l=>decide (l.a.1=l.b.1))=t.links.any (fun l=>decide (l.a.1=l.b.1))) (fun j=>t.links.length-j) 0 ?_ rfl ?_
  · exact Gn.canonA (J:=[]) rfl (by simp [wk,slL])
  intro j hj
  refine vms0 ?_
  refine ⟨fun hlt=>?_,fun hge=>?_⟩
  · have hx:=any_cons hlt hj
    refine ⟨fun he=>?_,fun he=>?_⟩
    · refine endK.ret ?_ rfl
      have h4:=hx.1 (by simp [he])
      simp [evRes,getT,retV,Tryz.f57,chk1,h1,h2,h3,h4]
    · refine ⟨j+1,hx.2 (by simp [he]),by simp only;omega,?_⟩
      refine Gn.canonA (J:=[]) rfl ?_
      skip
      simp [wk,slL]
  · refine endK.ret ?_ rfl
    simp [evRes,getT,retV,Tryz.f57,chk1,h1,h2,h3,any_end hge hj]
end
section
def small (t:Tp):Bool:=decide ((t.ports.length:Int)≤20)&&(decide ((t.links.length:Int)≤40)&&decide ((t.hosts.length:Int)≤20))
theorem small_fit {t:Tp} (h:small t=true):t.fit:=by
 simp only [small,Bool.and_eq_true,decide_eq_true_eq] at h
 exact ⟨by omega,by omega,by omega⟩
attribute [local push_cast] encT encP encL slI slP slL cfg0 gfp_lenP gfp_lenL gfd_lenL lfl_lenP lfl_lenL eqP
theorem pc16 (t:Tp):PC Tryz.prog 16 [.agg (encT t)] (.bool (small t)):=by
 refine PC.walk tok mixed cfg0 Tryz.func16 rfl Tryz.call16 (by simp [belAll,V.bel,belT,belP]) rfl ?_
 refine vms1 Tryz.ntmps16 ?_
 repeat' (first | intro _ | refine And.intro ?_ ?_)
 all_goals
  refine endK.ret ?_ rfl
  simp only [evRes,getT,retV,Tryz.f16]
  simp [small, *]
def useOf (t:Tp) (p:Int × Int):Int × Int:=if (linkAt t p).2 then (1,(linkAt t p).1) else if (hostAt t p).2 then (2,(hostAt t p).1) else (0,0)
def encII (r:Int × Int):V:=.tup [.int .i64 r.1,.int .i64 r.2]
theorem pc147 (t:Tp) (p:Int × Int) (hf:t.fit):PC Tryz.prog 147 [.agg (encT t),.agg (encP p)] (encII (useOf t p)):=by
 refine PC.walk tok mixed cfg0 Tryz.func147 rfl Tryz.call147 (by simp [belAll,V.bel,belT,belP]) rfl ?_
 refine vms1 Tryz.ntmps147 ?_
 refine callO.pc (pc176 t p hf) ?_
 simp (maxSteps:=2000000) -implicitDefEqProofs +contextual (disch:=first | assumption | omega | decide +kernel) only [push_cast,↓capI,seval,Nat.reduceLeDiff,Nat.reduceEqDiff,reduceCtorEq,↓reduceIte,encIB]
 refine ⟨fun h=>?_,fun h=>callO.pc (pc177 t p hf) ?_⟩
 ·refine endK.ret ?_ rfl
  simp [evRes,getT,retV,Tryz.f147,useOf,encII,h]
 simp (maxSteps:=2000000) -implicitDefEqProofs +contextual (disch:=first | assumption | omega | decide +kernel) only [push_cast,↓capI,seval,Nat.reduceLeDiff,Nat.reduceEqDiff,reduceCtorEq,↓reduceIte,encIB]
 repeat' (first | intro _ | refine And.intro ?_ ?_)
 all_goals
  refine endK.ret ?_ rfl
  simp [evRes,getT,retV,Tryz.f147,useOf,encII, *]
end
section
theorem eq_cons {α:Type} [DecidableEq α] {a b:List α} {j:Nat} (ha:j<a.length) (hb:j<b.length) {q:Bool} (h:decide (a.drop j=b.drop j)=q) :
  (a[j]≠b[j]→q=false)∧(a[j]=b[j]→decide (a.drop (j+1)=b.drop (j+1))=q):=by
 have e:(a.drop j=b.drop j)↔(a[j]=b[j]∧a.drop (j+1)=b.drop (j+1)):=by rw [drop_cons ha,drop_cons hb,List.cons.injEq]
 cases q with
 | true =>
  have h:=e.1 (of_decide_eq_true h)
  exact ⟨fun hn=>absurd h.1 hn,fun _=>decide_eq_true h.2⟩
 | false =>
  have h:=of_decide_eq_false h
  exact ⟨fun _=>rfl,fun h1=>decide_eq_false fun h2=>h (e.2 ⟨h1,h2⟩)⟩
theorem eq_end {α:Type} [DecidableEq α] {a b:List α} {j:Nat} (ha:a.length≤j) (hb:b.length≤j) {q:Bool} (h:decide (a.drop j=b.drop j)=q):q=true:=by
 rw [List.drop_of_length_le ha,List.drop_of_length_le hb] at h
 simpa using h.symm
def lnk (a b:Int) (l:Lk):Bool:=!l.dn&&(decide (l.a.1=a)&&decide (l.b.1=b)||decide (l.b.1=a)&&decide (l.a.1=b))
end
section
def row (t:Tp) (a k:Nat):List Int:=((List.range k).filter fun (b:Nat)=>t.links.any (lnk a b)).map Int.ofNat
def rowV (t:Tp) (k a:Nat):V:=slI (row t a k)
@[simp] theorem bel_rowV {t:Tp} {k a m:Nat}:(rowV t k a).bel m=true:=bel_slI _
def nbrs (t:Tp):List (List Int):=tab t.ports.length fun a=>row t a t.ports.length
def slLL (l:List (List Int)):V:=.sl false (l.map slI) l.length
def encN (t:Tp):V:=if chk t=0 then slLL (nbrs t) else .sl true [] 0
@[simp] theorem bel_encN {t:Tp} {n:Nat}:(encN t).bel n=true:=by
 unfold encN
 split
 ·simp only [slLL,V.bel];exact belAll_map (fun l=>bel_slI l) _
 ·rfl
def mid (a:Nat) (f:Nat→V) (x:V) (i:Nat):V:=if i<a then f i else if i=a then x else .sl true [] 0
@[simp] theorem belMid {a n m:Nat} {f:Nat→V} {x:V} (hf:∀i,(f i).bel m=true) (hx:x.bel m=true):belAll m (tab n (mid a f x))=true:=by
 refine belAll_tab fun i _=>?_
 simp only [mid]
 split
 ·exact hf i
 ·split
  ·exact hx
  ·rfl
theorem chk_small {t:Tp} (h:chk t=0):0<t.ports.length∧t.ports.length≤16∧t.links.length≤32∧t.hosts.length≤16:=by
 unfold chk at h
 split at h
 ·omega
 ·split at h
  ·omega
  ·split at h
   ·omega
   ·split at h
    ·omega
    ·omega
@[simp] theorem bel_nils {n m:Nat}:belAll m (tab n fun _=>V.sl true [] 0)=true:=belAll_tab fun _ _=>rfl
@[simp] theorem bel_mid1 {n m a k:Nat} {t:Tp}:belAll m (tab n (mid a (rowV t k) (.sl true [] 0)))=true:=belMid (fun _=>bel_rowV) rfl
@[simp] theorem bel_mid2 {n m a k id ver off len sz:Nat} {t:Tp} (h:id<m):belAll m (tab n (mid a (rowV t k) (.buf id ver off len sz)))=true:=belMid (fun _=>bel_rowV) (by simp [V.bel,h])
end
end Go.Proofs.YtlbmbbaefncleaaGreatDoor.Top
set_option maxHeartbeats 4000000
namespace Go.Proofs.YtlbmbbaefncleaaGreatDoor.Top
open Go.Vm
section
def rowsO (n m:Nat) (f:Nat→Nat→Bool):List Ob:=tab m fun a=>.cells 0 (tab n fun b=>.bool (f a b))
def bufI (n i:Nat):V:=.buf (i+2) 0 0 n 1
@[simp] theorem bel_bufs {n a m:Nat} (h:a+2≤m):belAll m (tab n (mid a (bufI n) (.sl true [] 0)))=true:=by
 refine belAll_tab fun i _=>?_
 simp only [mid]
 split
 ·simp [bufI,V.bel];omega
 ·split<;>rfl
@[simp] theorem bel_bufI {n k m:Nat} (h:k+2≤m):belAll m (tab k (bufI n))=true:=belAll_tab fun i _=>by simp [bufI,bel_buf];omega
@[simp] theorem bel_bools {n m:Nat} {f:Nat→Bool}:belAll m (tab n fun b=>V.bool (f b))=true:=belAll_tab fun _ _=>rfl
@[simp] theorem bel_rowsO {n k m:Nat} {f:Nat→Nat→Bool}:belObs m (rowsO n k f)=true:=belObs_tabN fun _ _=>bel_bools
@[simp] theorem bel_rowsT {n k m:Nat} {f:Nat→Nat→Bool}:belObs m (tab k fun a=>Ob.cells 0 (tab n fun b=>.bool (f a b)))=true:=bel_rowsO
@[simp] theorem bel_rowsB {n k m:Nat} {f:Nat→Nat→Bool} {B:List Ob}:belObs m (rowsO n k f++B)=belObs m B:=belObs_tab fun _ _=>bel_bools
@[simp] theorem bel_curs {n a k m id ver off len sz:Nat} {t:Tp} (h:id<m):belAll m (tab n (mid a (rowV t k) (.buf id ver off len sz)))=true:=bel_mid2 h
theorem chk_links {t:Tp} (h:chk t=0) {l:Lk} (hl:l ∈ t.links):∃x y:Nat,l.a.1=x∧l.b.1=y∧x<t.ports.length∧y<t.ports.length∧x≠y:=by
 have h1:chk1 t=0:=by
  unfold chk at h
  repeat' split at h
  all_goals first | omega | exact h
 unfold chk1 at h1
 split at h1
 ·omega
 split at h1
 ·omega
 rename_i he
 split at h1
 ·omega
 split at h1
 ·omega
 rename_i hd
 have hhas:∀a ∈ ends t,has t a=true:=by
  intro a ha
  simp only [List.any_eq_true,not_exists,not_and,Bool.not_eq_true,Bool.not_eq_false'] at he
  exact he a ha
 have hm:l.a ∈ ends t∧l.b ∈ ends t:=by
  simp only [ends,endsOf,List.mem_append,List.mem_flatMap]
  exact ⟨.inl ⟨l,hl,by simp⟩,.inl ⟨l,hl,by simp⟩⟩
 have ha:=hhas _ hm.1
 have hb:=hhas _ hm.2
 simp only [has,Bool.and_eq_true,decide_eq_true_eq] at ha hb
 have hne:¬l.a.1=l.b.1:=by
  simp only [List.any_eq_true,not_exists,not_and,decide_eq_true_eq] at hd
  exact hd l hl
 exact ⟨l.a.1.toNat,l.b.1.toNat,by omega,by omega,by omega,by omega,by omega⟩
end
section
def peer (t:Tp) (p:Int × Int):(Int × Int) × Int :=
  if chk t≠0 then ((0,0),chk t) else
  match linkAt t p with
  | (_,false)=>((0,0),8)
  | (i,true) =>
    let l:=t.links.getD i.toNat default
    if l.dn then ((0,0),20) else if l.a=p then (l.b,0) else (l.a,0)
def encPE (r:(Int × Int) × Int):V:=.tup [.agg (encP r.1),.int .i64 r.2]
theorem firstAt_is {α:Type} {f:α→Bool}:∀ {l:List α} {j:Nat},firstAt f l j=(0,false)∨∃k,k<l.length∧firstAt f l j=(((j+k:Nat):Int),true)
  | [],j=>.inl rfl
  | x::l,j=>by
    unfold firstAt
    split
    · exact .inr ⟨0,by simp,rfl⟩
    · rcases @firstAt_is α f l (j+1) with h | ⟨k,h1,h2⟩
      · exact .inl h
      · exact .inr ⟨k+1,by simpa using h1,by rw [h2,show j+1+k=j+(k+1) by omega]⟩
theorem linkAt_is (t:Tp) (p:Int × Int):linkAt t p=(0,false)∨∃k:Nat,k<t.links.length∧linkAt t p=((k:Int),true):=by
  have:=@firstAt_is _ (fun l=>decide (l.a=p)||decide (l.b=p)) t.links 0
  simpa [linkAt] using this
attribute [local push_cast] encT encP encL slI slP slL cfg0 gfp_lenP gfp_lenL gfd_lenL lfl_lenP lfl_lenL eqP getI_nat
theorem pc104 (t:Tp) (p:Int × Int) (hf:t.fit):PC Tryz.prog 104 [.agg (encT t),.agg (encP p)] (encPE (peer t p)):=by
  refine PC.walk tok mixed cfg0 Tryz.func104 rfl Tryz.call104 (by simp [belAll,V.bel,belT,belP]) rfl ?_
  refine vms1 Tryz.ntmps104 ?_
  refine callO.pc (pc57 t hf) ?_
  refine vms0 ?_
  refine callO.pc (pc149 t p hf) ?_
  rcases linkAt_is t p with hl | ⟨k,hk,hl⟩
  · simp (maxSteps:=2000000) -implicitDefEqProofs +contextual (disch:=first | assumption | omega | decide +kernel) only [push_cast,↓capI,seval,Nat.reduceLeDiff,Nat.reduceEqDiff,reduceCtorEq,↓reduceIte,encIB,hl]
    repeat' (first | intro _ | refine And.intro ?_ ?_)
    all_goals
      refine endK.ret ?_ rfl
      simp (maxSteps:=2000000) -implicitDefEqProofs +contextual (disch:=first | assumption | omega | decide +kernel) only [push_cast,↓capI,seval,Nat.reduceLeDiff,Nat.reduceEqDiff,reduceCtorEq,↓reduceIte,evRes,retV,Tryz.f104]
      simp [peer,encPE,encP,hl, *]
  · simp (maxSteps:=2000000) -implicitDefEqProofs +contextual (disch:=first | assumption | omega | decide +kernel) only [push_cast,↓capI,seval,Nat.reduceLeDiff,Nat.reduceEqDiff,reduceCtorEq,↓reduceIte,encIB,hl,hk]
    have hg:t.links.getD k default=t.links[k]:=by rw [List.getD_eq_getElem?_getD,List.getElem?_eq_getElem hk];rfl
    repeat' (first | intro _ | refine And.intro ?_ ?_)
    all_goals first
      | (refine endK.ret ?_ rfl
         simp (maxSteps:=2000000) -implicitDefEqProofs +contextual (disch:=first | assumption | omega | decide +kernel) only [push_cast,↓capI,seval,Nat.reduceLeDiff,Nat.reduceEqDiff,reduceCtorEq,↓reduceIte,evRes,retV,Tryz.f104]
         simp [peer,encPE,encP,hl,hg, *]
         done)
      | kernel_rfl
      | skip
theorem pc100 (t:Tp) (p:Int × Int) (hf:t.fit):PC Tryz.prog 100 [.agg (encT t),.agg (encP p)] (encPE (peer t p)):=by
  refine PC.walk tok mixed cfg0 Tryz.func100 rfl Tryz.call100 (by simp [belAll,V.bel,belT,belP]) rfl ?_
  refine vms1 Tryz.ntmps100 ?_
  refine callO.pc (pc54 t hf) ?_
  refine vms0 ?_
  refine ⟨fun h0=>?_,fun h0=>?_⟩
  · refine endK.ret ?_ rfl
    simp (maxSteps:=2000000) -implicitDefEqProofs +contextual (disch:=first | assumption | omega | decide +kernel) only [push_cast,↓capI,seval,Nat.reduceLeDiff,Nat.reduceEqDiff,reduceCtorEq,↓reduceIte,evRes,retV,Tryz.f100]
    simp [peer,encPE,encP,h0]
  refine callO.pc (pc147 t p hf) ?_
  rcases linkAt_is t p with hl | ⟨k,hk,hl⟩
  · have hu:(useOf t p).1≠1:=by unfold useOf;rw [hl];simp only [Bool.false_eq_true,if_false];split<;>simp
    simp (maxSteps:=2000000) -implicitDefEqProofs +contextual (disch:=first | assumption | omega | decide +kernel) only [push_cast,↓capI,seval,Nat.reduceLeDiff,Nat.reduceEqDiff,reduceCtorEq,↓reduceIte,encII,hu]
    refine endK.ret ?_ rfl
    simp (maxSteps:=2000000) -implicitDefEqProofs +contextual (disch:=first | assumption | omega | decide +kernel) only [push_cast,↓capI,seval,Nat.reduceLeDiff,Nat.reduceEqDiff,reduceCtorEq,↓reduceIte,evRes,retV,Tryz.f100]
    simp [peer,encPE,encP,h0,hl]
  · have hu:useOf t p=(1,(k:Int)):=by simp [useOf,hl]
    simp (maxSteps:=2000000) -implicitDefEqProofs +contextual (disch:=first | assumption | omega | decide +kernel) only [push_cast,↓capI,seval,Nat.reduceLeDiff,Nat.reduceEqDiff,reduceCtorEq,↓reduceIte,encII,hu,hk]
    have hg:t.links.getD k default=t.links[k]:=by rw [List.getD_eq_getElem?_getD,List.getElem?_eq_getElem hk];rfl
    repeat' (first | intro _ | refine And.intro ?_ ?_)
    all_goals first
      | (refine endK.ret ?_ rfl
         simp (maxSteps:=2000000) -implicitDefEqProofs +contextual (disch:=first | assumption | omega | decide +kernel) only [push_cast,↓capI,seval,Nat.reduceLeDiff,Nat.reduceEqDiff,reduceCtorEq,↓reduceIte,evRes,retV,Tryz.f100]
         simp [peer,encPE,encP,hl,hg, *]
         done)
      | kernel_rfl
      | trace_state
end
section
theorem firstAt_spec {α:Type} {f:α→Bool}:∀ {l:List α} {j:Nat},(firstAt f l j=(0,false)∧∀x ∈ l,f x=false)∨∃k,∃h:k<l.length,firstAt f l j=(((j+k:Nat):Int),true)∧f l[k]=true
 | [],j=>.inl ⟨rfl,fun x h=>by simp at h⟩
 | x::l,j=>by
  unfold firstAt
  by_cases hx:f x=true
  ·rw [if_pos hx]
   exact .inr ⟨0,by simp,rfl,by simpa using hx⟩
  ·rw [if_neg hx]
   rcases @firstAt_spec α f l (j+1) with ⟨h1,h2⟩ | ⟨k,h0,h1,h2⟩
   ·refine .inl ⟨h1,fun y hy=>?_⟩
    rcases List.mem_cons.1 hy with rfl | hy
    ·simpa using hx
    ·exact h2 y hy
   ·exact .inr ⟨k+1,by simpa using h0,by rw [h1,show j+1+k=j+(k+1) by omega],by simpa using h2⟩
theorem dup_nodup:∀ {l pre:List (Int × Int)},dup pre l=false→l.Nodup∧∀a ∈ l,a ∉ pre
 | [],pre,_=>⟨List.nodup_nil,fun a h=>by simp at h⟩
 | x::l,pre,h=>by
  rw [dup,Bool.or_eq_false_iff] at h
  obtain ⟨h1,h2⟩:=dup_nodup h.2
  refine ⟨List.nodup_cons.2 ⟨fun hx=>h2 x hx (by simp),h1⟩,fun a ha=>?_⟩
  rcases List.mem_cons.1 ha with rfl | ha
  ·intro hp
   have:=h.1
   simp only [List.any_eq_false,decide_eq_true_eq] at this
   exact this a hp rfl
  ·exact fun hp=>h2 a ha (by simp [hp])
structure Valid (t:Tp):Prop where
 pos:0<t.ports.length
 small:t.ports.length≤16
 ports:∀x ∈ t.ports,1≤x∧x≤16
 nodup:(ends t).Nodup
 link:∀l ∈ t.links,∃x y:Nat,l.a.1=x∧l.b.1=y∧x<t.ports.length∧y<t.ports.length∧x≠y
theorem chk_valid {t:Tp} (h:chk t=0):Valid t:=by
 have hs:=chk_small h
 have h1:chk1 t=0:=by
  unfold chk at h
  repeat' split at h
  all_goals first | omega | exact h
 unfold chk1 at h1
 split at h1
 ·omega
 rename_i hp
 split at h1
 ·omega
 split at h1
 ·omega
 rename_i hd
 refine ⟨hs.1,hs.2.1,?_,(dup_nodup (by simpa using hd)).1,fun l hl=>chk_links h hl⟩
 intro x hx
 simp only [List.any_eq_true,not_exists,not_and,Bool.not_eq_true] at hp
 have:=hp x hx
 simp only [badN,Bool.or_eq_false_iff,decide_eq_false_iff_not] at this
 omega
theorem ends_at {l:List Lk}:∀ {i:Nat} (h:i<l.length),(endsOf l)[2*i]? = some l[i].a∧(endsOf l)[2*i+1]? = some l[i].b:=by
 induction l with
 | nil=>intro i h;simp at h
 | cons x l ih =>
  intro i h
  cases i with
  | zero=>exact ⟨rfl,rfl⟩
  | succ i =>
   have:=ih (i:=i) (by simpa using h)
   rw [show 2*(i+1)=2*i+1+1 by omega]
   simpa [endsOf] using this
theorem nodup_at {α:Type} {l:List α} (h:l.Nodup) {i j:Nat} {x:α} (hi:l[i]? = some x) (hj:l[j]? = some x):i=j:=by
 obtain ⟨h1,h2⟩:=List.getElem?_eq_some_iff.1 hi
 obtain ⟨h3,h4⟩:=List.getElem?_eq_some_iff.1 hj
 have:=List.pairwise_iff_getElem.1 h
 rcases Nat.lt_trichotomy i j with hlt | heq | hgt
 ·exact absurd (h2.trans h4.symm) (this i j h1 h3 hlt)
 ·exact heq
 ·exact absurd (h4.trans h2.symm) (this j i h3 h1 hgt)
section
variable {t:Tp} (hv:Valid t)
include hv
theorem Valid.links:(endsOf t.links).Nodup:=(List.nodup_append.1 hv.nodup).1
theorem Valid.same {i j:Nat} (hi:i<t.links.length) (hj:j<t.links.length) {p:Int × Int} (h1:t.links[i].a=p∨t.links[i].b=p) (h2:t.links[j].a=p∨t.links[j].b=p):i=j:=by
 obtain ⟨a1,a2⟩:=ends_at hi
 obtain ⟨b1,b2⟩:=ends_at hj
 rcases h1 with h1 | h1<;>rcases h2 with h2 | h2
 ·rw [h1] at a1;rw [h2] at b1;have:=nodup_at hv.links a1 b1;omega
 ·rw [h1] at a1;rw [h2] at b2;have:=nodup_at hv.links a1 b2;omega
 ·rw [h1] at a2;rw [h2] at b1;have:=nodup_at hv.links a2 b1;omega
 ·rw [h1] at a2;rw [h2] at b2;have:=nodup_at hv.links a2 b2;omega
theorem Valid.apart {i:Nat} (hi:i<t.links.length):t.links[i].a≠t.links[i].b:=by
 intro h
 obtain ⟨a1,a2⟩:=ends_at hi
 rw [h] at a1
 have:=nodup_at hv.links a1 a2
 omega
theorem Valid.host {i:Nat} (hi:i<t.links.length) {p:Int × Int} (h1:t.links[i].a=p∨t.links[i].b=p):p ∉ t.hosts:=by
 intro hp
 have:=(List.nodup_append.1 hv.nodup).2.2
 obtain ⟨a1,a2⟩:=ends_at hi
 rcases h1 with h1 | h1
 ·rw [h1] at a1
  exact this p (List.mem_of_getElem? a1) p hp rfl
 ·rw [h1] at a2
  exact this p (List.mem_of_getElem? a2) p hp rfl
theorem Valid.linkIs {k:Nat} (hk:k<t.links.length) {p:Int × Int} (h:t.links[k].a=p∨t.links[k].b=p):linkAt t p=((k:Int),true):=by
 unfold Go.Proofs.YtlbmbbaefncleaaGreatDoor.Top.linkAt
 rcases @firstAt_spec _ (fun l=>decide (l.a=p)||decide (l.b=p)) t.links 0 with ⟨_,h2⟩ | ⟨j,h0,h1,h2⟩
 ·have:=h2 _ (List.getElem_mem hk)
  simp only [Bool.or_eq_false_iff,decide_eq_false_iff_not] at this
  rcases h with h | h
  ·exact absurd h this.1
  ·exact absurd h this.2
 ·simp only [Bool.or_eq_true,decide_eq_true_eq] at h2
  obtain rfl:=hv.same hk h0 h h2
  rw [h1,Nat.zero_add]
theorem Valid.hostIs {k:Nat} (hk:k<t.links.length) {p:Int × Int} (h:t.links[k].a=p∨t.links[k].b=p):(hostAt t p).2=false:=by
 unfold Go.Proofs.YtlbmbbaefncleaaGreatDoor.Top.hostAt
 rcases @firstAt_spec _ (fun h=>decide (h=p)) t.hosts 0 with ⟨h1,_⟩ | ⟨j,h0,h1,h2⟩
 ·rw [h1]
 ·simp only [decide_eq_true_eq] at h2
  exact absurd (h2 ▸ List.getElem_mem h0) (hv.host hk h)
theorem Valid.portIs (h0:chk t=0) (p:Int × Int) :
  (linkAt t p=(0,false)∧peer t p=((0,0),8)) ∨
  (∃k,∃hk:k<t.links.length,linkAt t p=((k:Int),true)∧(hostAt t p).2=false∧t.links[k].dn=true∧peer t p=((0,0),20)) ∨
  (∃k,∃hk:k<t.links.length,∃q:Int × Int,∃x y:Nat,linkAt t p=((k:Int),true)∧(hostAt t p).2=false∧t.links[k].dn=false∧peer t p=(q,0)∧peer t q=(p,0) ∧
   p.1=x∧q.1=y∧x<t.ports.length∧y<t.ports.length∧x≠y∧lnk x y t.links[k]=true∧lnk y x t.links[k]=true):=by
 have hc:¬chk t≠0:=fun h=>h h0
 rcases @firstAt_spec _ (fun l=>decide (l.a=p)||decide (l.b=p)) t.links 0 with ⟨h1,h2⟩ | ⟨k,hk,h1,h2⟩
 ·refine .inl ⟨h1,?_⟩
  unfold peer
  rw [if_neg hc,show linkAt t p=(0,false) from h1]
 ·simp only [Bool.or_eq_true,decide_eq_true_eq] at h2
  have hl:=hv.linkIs hk h2
  have hh:=hv.hostIs hk h2
  have hg:t.links.getD k default=t.links[k]:=by rw [List.getD_eq_getElem?_getD,List.getElem?_eq_getElem hk];rfl
  cases hd:t.links[k].dn with
  | true =>
   refine .inr (.inl ⟨k,hk,hl,hh,hd,?_⟩)
   unfold peer
   rw [if_neg hc,hl]
   simp only [Int.toNat_natCast,hg,hd,if_true]
  | false =>
   obtain ⟨x,y,hx,hy,hxn,hyn,hxy⟩:=hv.link _ (List.getElem_mem hk)
   have hab:=hv.apart hk
   right;right
   have key:∀q,t.links[k].a=q∨t.links[k].b=q→peer t q=(if t.links[k].a=q then t.links[k].b else t.links[k].a,0):=by
    intro q hq
    unfold peer
    rw [if_neg hc,hv.linkIs hk hq]
    simp only [Int.toNat_natCast,hg,hd]
    simp only [Bool.false_eq_true,if_false]
    split<;>rfl
   rcases h2 with h2 | h2
   ·refine ⟨k,hk,t.links[k].b,x,y,hl,hh,hd,?_,?_,by rw [←h2];exact hx,hy,hxn,hyn,hxy,?_,?_⟩
    ·rw [key p (.inl h2),if_pos h2]
    ·rw [key _ (.inr rfl),if_neg hab,h2]
    ·simp [lnk,hd,hx,hy]
    ·simp [lnk,hd,hx,hy]
   ·refine ⟨k,hk,t.links[k].a,y,x,hl,hh,hd,?_,?_,by rw [←h2];exact hy,hx,hyn,hxn,fun h=>hxy h.symm,?_,?_⟩
    ·rw [key p (.inr h2),if_neg (by rw [←h2];exact hab)]
    ·rw [key _ (.inl rfl),if_pos rfl,h2]
    ·simp [lnk,hd,hx,hy]
    ·simp [lnk,hd,hx,hy]
end
end
end Go.Proofs.YtlbmbbaefncleaaGreatDoor.Top

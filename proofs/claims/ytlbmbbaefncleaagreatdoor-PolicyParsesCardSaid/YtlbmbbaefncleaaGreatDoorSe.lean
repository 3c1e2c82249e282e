/-
  Joined by a program from the texts Vm5.
-/
import Derived.Test.YtlbmbbaefncleaaGreatDoorSd
set_option linter.all false
namespace Go.Vm
variable [GlobTab]
theorem setO_set:∀(H:List Ob) (i:Nat) (o:Ob),setO H i o=H.set i o
 | [],i,o=>by cases i<;>rfl
 | _::_,0,o=>rfl
 | x::xs,i+1,o=>by simp only [setO,List.set_cons_succ,setO_set xs i o]
section
variable {O:Nat→Prop} {β:List Pl} {w:World} {P:Program} {tt:Nat→TI} {H:List Ob}
theorem ext_nil:Ext β w (β++[.nilb 0]) w:=by
 refine ⟨Nat.le_refl _,fun _ _ _=>rfl,rfl,rfl,rfl,?_,?_⟩
 ·rintro b ⟨i,l,h1,h2⟩
  rw [List.getElem?_append] at h1
  split at h1
  ·exact .inl ⟨i,l,h1,h2⟩
  ·rw [List.getElem?_singleton] at h1
   split at h1
   ·simp at h1;subst h1;simp [Pl.block?] at h2
   ·simp at h1
 ·intro i l hi
  rw [List.getElem?_append_left (List.getElem?_eq_some_iff.1 hi).1,hi]
  exact l.le_refl
theorem inB_nil {b:Nat} (h:InB (β++[.nilb 0]) b):InB β b:=by
 obtain ⟨i,l,h1,h2⟩:=h
 rw [List.getElem?_append] at h1
 split at h1
 ·exact ⟨i,l,h1,h2⟩
 ·rw [List.getElem?_singleton] at h1
  split at h1
  ·simp at h1;subst h1;simp [Pl.block?] at h2
  ·simp at h1
theorem HR.addNil (hh:HR O β w H):HR O (β++[.nilb 0]) w (H++[.cells 0 []]):=by
 have hlen:=hh.len
 have he:=ext_nil (β:=β) (w:=w)
 refine ⟨by simp [hlen],?_,?_,fun b h=>hh.lt b (inB_nil h),fun b h=>hh.apart b (inB_nil h),hh.old,hh.glob.ext he⟩
 ·intro i loc o hi ho
  rw [List.getElem?_append] at hi ho
  rw [hlen] at hi
  split at hi
  ·rename_i h
   rw [if_pos h] at ho
   have h0:=hh.ob i loc o hi ho
   cases o with
   | unborn=>exact h0
   | dead=>exact h0
   | cells ver l =>
    simp only [ObR] at h0 ⊢
    refine Or.imp (fun h=>h) ?_ h0
    rintro ⟨b,base,cs,ty,h1,h2,h3,h4⟩
    exact ⟨b,base,cs,ty,h1,h2,h3,VRs.ext he _ _ h4⟩
   | map es =>
    simp only [ObR] at h0 ⊢
    obtain ⟨b,en,clock,h1,h2,h3,h4⟩:=h0
    exact ⟨b,en,clock,h1,h2,VRs.ext he _ _ h3,VRs.ext he _ _ h4⟩
  ·rename_i h
   rw [if_neg h,List.getElem?_singleton] at ho
   rw [List.getElem?_singleton] at hi
   split at hi
   ·rename_i h0
    rw [if_pos h0] at ho
    simp at hi ho
    subst hi ho
    simp [ObR]
   ·simp at hi
 ·intro i j l l' b h1 h2 h3 h4
  have key:∀(i:Nat) (l:Pl),(β++[.nilb 0])[i]? = some l→l.block? = some b→β[i]? = some l:=by
   intro i l h1 h3
   rw [List.getElem?_append] at h1
   split at h1
   ·exact h1
   ·rw [List.getElem?_singleton] at h1
    split at h1
    ·simp at h1;subst h1;simp [Pl.block?] at h3
    ·simp at h1
  exact hh.inj i j l l' b (key i l h1 h3) (key j l' h2 h4) h3 h4
end
def tab {α:Type} (n:Nat) (g:Nat→α):List α:=(List.range n).map g
section
variable {α:Type} {n i k m:Nat} {g g':Nat→α} {B:List α}
theorem tab_length:(tab n g).length=n:=by simp [tab]
theorem tab_cons:tab (n+1) g=g 0::tab n (fun i=>g (i+1)):=by
 simp only [tab,List.range_succ_eq_map,List.map_cons,List.map_map];rfl
theorem tab_get (h:i<n):(tab n g)[i]? = some (g i):=by simp [tab,h]
theorem tab_ext (h:∀i,i<n→g i=g' i):tab n g=tab n g':=by
 unfold tab
 exact List.map_congr_left (fun i hi=>h i (List.mem_range.1 hi))
theorem tab_set {x:α}:(tab n g).set i x=tab n (fun k=>if k=i then x else g k):=by
 apply List.ext_getElem?
 intro j
 rw [List.getElem?_set,tab_length]
 by_cases hj:j<n
 ·rw [tab_get hj,tab_get hj]
  by_cases e:i=j
  ·subst e;simp [hj]
  ·rw [if_neg e,if_neg (fun h=>e h.symm)]
 ·rw [List.getElem?_eq_none (l:=tab n fun k=>if k=i then x else g k) (by rw [tab_length];omega),List.getElem?_eq_none (l:=tab n g) (by rw [tab_length];omega)]
  by_cases e:i=j
  ·rw [if_pos e,if_neg (by omega)]
  ·rw [if_neg e]
theorem tab_map {β:Type} {f:α→β}:(tab n g).map f=tab n (fun i=>f (g i)):=by simp [tab]
theorem tab_drop:(tab n g).drop i=tab (n-i) (fun k=>g (i+k)):=by
 apply List.ext_getElem?
 intro j
 rw [List.getElem?_drop]
 by_cases hj:j<n-i
 ·rw [tab_get hj,tab_get (by omega)]
 ·rw [List.getElem?_eq_none (by rw [tab_length];omega),List.getElem?_eq_none (by rw [tab_length];omega)]
theorem tab_mem {x:α}:x ∈ tab n g↔∃i,i<n∧g i=x:=by simp [tab]
end
section
variable {n i k m:Nat} {g:Nat→Ob} {B:List Ob}
theorem setO_tabN {x:Ob}:setO (tab n g) i x=tab n (fun k=>if k=i then x else g k):=by
 rw [setO_set,tab_set]
theorem belObs_tab (h:∀i,i<n→(g i).bel m=true):belObs m (tab n g++B)=belObs m B:=by
 induction n generalizing g with
 | zero=>rfl
 | succ n ih =>
  rw [tab_cons,List.cons_append,belObs,h 0 (by omega),Bool.true_and,ih]
  intro i hi
  exact h (i+1) (by omega)
theorem belObs_tabN (h:∀i,i<n→(g i).bel m=true):belObs m (tab n g)=true:=by
 have:=belObs_tab (B:=[]) h
 rw [List.append_nil] at this
 rw [this];rfl
end
section
variable {n i k m:Nat} {g:Nat→V} {B:List V}
theorem belAll_tab (h:∀i,i<n→(g i).bel m=true):belAll m (tab n g)=true:=by
 rw [belAll_iff]
 intro v hv
 obtain ⟨i,hi,rfl⟩:=tab_mem.1 hv
 exact h i hi
theorem getV_tab (h:i<n):getV ((tab n g).drop (i*1)) 0 1=[g i]:=by
 unfold getV
 rw [Nat.mul_one,List.drop_zero,tab_drop,show n-i=(n-i-1)+1 by omega,tab_cons]
 rfl
theorem getV_tabO (h:i<n):getV (tab n g) (i*1) 1=[g i]:=by
 unfold getV
 rw [Nat.mul_one,tab_drop,show n-i=(n-i-1)+1 by omega,tab_cons]
 rfl
theorem getV_tabP (h:i<n):getV (tab n g) i 1=[g i]:=by
 have:=getV_tabO (g:=g) h
 rwa [Nat.mul_one] at this
theorem putV_one {l:List V} {x:V}:∀ {i:Nat},putV l i [x]=l.set i x:=by
 induction l with
 | nil=>intro i;cases i<;>rfl
 | cons y l ih =>
  intro i
  cases i with
  | zero=>simp only [putV,putV_nil,List.set_cons_zero]
  | succ i=>simp only [putV,ih,List.set_cons_succ]
theorem putV_tab {x:V}:putV (tab n g) i [x]=tab n (fun k=>if k=i then x else g k):=by rw [putV_one,tab_set]
end
theorem bel_int {n:Nat} {k:IntKind} {x:Int}:(V.int k x).bel n=true:=by simp only [V.bel]
theorem bel_bool {n:Nat} {x:Bool}:(V.bool x).bel n=true:=by simp only [V.bel]
theorem bel_str {n:Nat} {x:List UInt8}:(V.str x).bel n=true:=by simp only [V.bel]
theorem bel_nilp {n:Nat}:V.nilp.bel n=true:=by simp only [V.bel]
theorem bel_nili {n:Nat}:V.nili.bel n=true:=by simp only [V.bel]
theorem bel_nilf {n:Nat}:V.nilf.bel n=true:=by simp only [V.bel]
theorem bel_raw {n:Nat} {u:Value}:(V.raw u).bel n=true:=by simp only [V.bel]
theorem bel_nilm {n:Nat}:V.nilm.bel n=true:=by simp only [V.bel]
theorem bel_dead {n:Nat}:V.dead.bel n=true:=by simp only [V.bel]
theorem bel_agg {n:Nat} {c:List V}:(V.agg c).bel n=belAll n c:=by simp only [V.bel]
theorem bel_tup {n:Nat} {c:List V}:(V.tup c).bel n=belAll n c:=by simp only [V.bel]
theorem bel_sl {n m:Nat} {b:Bool} {c:List V}:(V.sl b c m).bel n=belAll n c:=by simp only [V.bel]
theorem bel_fp {n:Nat} {c:List V}:(V.fp c).bel n=belAll n c:=by simp only [V.bel]
theorem bel_buf {n id a b c d:Nat}:(V.buf id a b c d).bel n=decide (id<n):=by
 simp only [V.bel]
 by_cases h:id<n
 ·rw [decide_eq_true h];exact Nat.ble_eq_true_of_le h
 ·rw [decide_eq_false h]
  cases hb:Nat.blt id n with
  | false=>rfl
  | true=>exact absurd (Nat.le_of_ble_eq_true hb) h
theorem bel_ptr {n id a b:Nat}:(V.ptr id a b).bel n=decide (id<n):=bel_buf (a:=0) (b:=0) (c:=0) (d:=0)
theorem bel_mp {n id:Nat}:(V.mp id).bel n=decide (id<n):=bel_buf (a:=0) (b:=0) (c:=0) (d:=0)
theorem bel_ifc {n:Nat} {t:TypeId} {v:V}:(V.ifc t v).bel n=v.bel n:=by simp only [V.bel]
theorem bel_fn {n:Nat} {f:Fn} {a b:List V}:(V.fn f a b).bel n=(belAll n a&&belAll n b):=by simp only [V.bel]
theorem bel_opt {n:Nat} {b:Bool} {v:V}:(V.opt b v).bel n=v.bel n:=by simp only [V.bel]
theorem belAll_nil {n:Nat}:belAll n []=true:=by simp only [belAll]
theorem belAll_cons {n:Nat} {x:V} {xs:List V}:belAll n (x::xs)=(x.bel n&&belAll n xs):=by simp only [belAll]
theorem belO_cells {n v:Nat} {l:List V}:(Ob.cells v l).bel n=belAll n l:=by rw [Ob.bel]
theorem belO_dead {n:Nat}:Ob.dead.bel n=true:=by unfold Ob.bel;rfl
theorem belO_unborn {n:Nat}:Ob.unborn.bel n=true:=by unfold Ob.bel;rfl
theorem belObs_nil {n:Nat}:belObs n []=true:=by rw [belObs]
theorem belObs_cons {n:Nat} {x:Ob} {xs:List Ob}:belObs n (x::xs)=(x.bel n&&belObs n xs):=by rw [belObs]
theorem belObs_append {n:Nat}:∀ {xs ys:List Ob},belObs n (xs++ys)=(belObs n xs&&belObs n ys)
 | [],ys=>by simp [belObs]
 | x::xs,ys=>by simp [belObs,belObs_append,Bool.and_assoc]
mutual
theorem fz_lt {id ver:Nat} {l:List V}:∀(x:V),x.bel id=true→fz id ver l x=x
 | .buf i vr off n sz,h=>by
  rw [bel_buf,decide_eq_true_eq] at h
  simp only [fz]
  have:Nat.beq i id=false:=by
   cases hb:Nat.beq i id with
   | false=>rfl
   | true=>have:=Nat.eq_of_beq_eq_true hb;omega
  rw [this]
 | .ptr i vr off,h=>by
  rw [bel_ptr,decide_eq_true_eq] at h
  simp only [fz]
  have:Nat.beq i id=false:=by
   cases hb:Nat.beq i id with
   | false=>rfl
   | true=>have:=Nat.eq_of_beq_eq_true hb;omega
  rw [this]
 | .agg vs,h=>by rw [bel_agg] at h;simp only [fz,fzs_lt vs h]
 | .tup vs,h=>by rw [bel_tup] at h;simp only [fz,fzs_lt vs h]
 | .int _ _,h=>by simp only [fz]
 | .bool _,h=>by simp only [fz]
 | .str _,h=>by simp only [fz]
 | .nilp,h=>by simp only [fz]
 | .nili,h=>by simp only [fz]
 | .nilf,h=>by simp only [fz]
 | .nilm,h=>by simp only [fz]
 | .raw _,h=>by simp only [fz]
 | .sl _ _ _,h=>by simp only [fz]
 | .fp _,h=>by simp only [fz]
 | .mp _,h=>by simp only [fz]
 | .ifc _ _,h=>by simp only [fz]
 | .fn _ _ _,h=>by simp only [fz]
 | .opt _ _,h=>by simp only [fz]
 | .dead,h=>by simp only [fz]
theorem fzs_lt {id ver:Nat} {l:List V}:∀(xs:List V),belAll id xs=true→fzs id ver l xs=xs
 | [],_=>rfl
 | x::xs,h=>by
  rw [belAll_cons,Bool.and_eq_true] at h
  simp only [fzs,fz_lt x h.1,fzs_lt xs h.2]
end
mutual
def lax:V→V
 | .sl true _ n=>.sl false [] n
 | .sl false cs n=>.sl false (laxs cs) n
 | .agg vs=>.agg (laxs vs)
 | .tup vs=>.tup (laxs vs)
 | .fp vs=>.fp (laxs vs)
 | .ifc t v=>.ifc t (lax v)
 | x=>x
def laxs:List V→List V
 | []=>[]
 | x::xs=>lax x::laxs xs
end
section
variable {own:Nat→Prop} {w:World} {β:List Pl} {P:Program}
mutual
theorem VR.lax:∀(x:V) (v:Value),VR own w β x v→VR own w β (lax x) v
 | .sl true cs n,v,h=>by
  simp only [Go.Vm.lax,VR] at h ⊢
  rcases h with ⟨a,h1,h2,_⟩ | ⟨h,_⟩
  ·exact .inl ⟨a,h1,h2,fun h=>absurd h (by simp)⟩
  ·exact absurd h (by simp)
 | .sl false cs n,v,h=>by
  simp only [Go.Vm.lax,VR] at h ⊢
  refine h.imp id ?_
  rintro ⟨h0,b,off,cap,l,h1,h2,h3,h4,h5,h6⟩
  exact ⟨h0,b,off,cap,l,h1,h2,h3,h4,h5,VRs.lax cs l h6⟩
 | .agg vs,v,h=>by
  simp only [Go.Vm.lax,VR] at h ⊢
  obtain ⟨l,h1,h2⟩:=h
  exact ⟨l,h1,VRs.lax vs l h2⟩
 | .tup vs,v,h=>by
  simp only [Go.Vm.lax,VR] at h ⊢
  obtain ⟨l,h1,h2⟩:=h
  exact ⟨l,h1,VRs.lax vs l h2⟩
 | .fp vs,v,h=>by
  simp only [Go.Vm.lax,VR] at h ⊢
  obtain ⟨b,off,l,h1,h3,h4,h5,h6⟩:=h
  exact ⟨b,off,l,h1,h3,h4,h5,VRs.lax vs l h6⟩
 | .ifc t x,v,h=>by
  simp only [Go.Vm.lax,VR] at h ⊢
  obtain ⟨y,h1,h2⟩:=h
  exact ⟨y,h1,VR.lax x y h2⟩
 | .int _ _,v,h=>by simpa only [Go.Vm.lax] using h
 | .bool _,v,h=>by simpa only [Go.Vm.lax] using h
 | .str _,v,h=>by simpa only [Go.Vm.lax] using h
 | .nilp,v,h=>by simpa only [Go.Vm.lax] using h
 | .nili,v,h=>by simpa only [Go.Vm.lax] using h
 | .nilf,v,h=>by simpa only [Go.Vm.lax] using h
 | .nilm,v,h=>by simpa only [Go.Vm.lax] using h
 | .raw _,v,h=>by simpa only [Go.Vm.lax] using h
 | .buf _ _ _ _ _,v,h=>by simpa only [Go.Vm.lax] using h
 | .ptr _ _ _,v,h=>by simpa only [Go.Vm.lax] using h
 | .mp _,v,h=>by simpa only [Go.Vm.lax] using h
 | .fn _ _ _,v,h=>by simpa only [Go.Vm.lax] using h
 | .opt _ _,v,h=>by simpa only [Go.Vm.lax] using h
 | .dead,v,h=>by simpa only [Go.Vm.lax] using h
theorem VRs.lax:∀(xs:List V) (vs:List Value),VRs own w β xs vs→VRs own w β (laxs xs) vs
 | [],[],_=>by simp only [laxs,VRs]
 | x::xs,y::ys,h=>by
  simp only [laxs,VRs] at h ⊢
  exact ⟨VR.lax x y h.1,VRs.lax xs ys h.2⟩
 | [],_::_,h=>by simp only [VRs] at h
 | _::_,[],h=>by simp only [VRs] at h
end
theorem GCall.lax {n:Nat} {args:List V} {v:V} {H H':List Ob} (h:GCall P n (laxs args) H v H'):GCall P n args H v H' :=
 ⟨h.1,fun O β w vals hh hv=>h.2 O β w vals hh (VRs.lax _ _ hv)⟩
theorem PC.lax {n:Nat} {args:List V} {v:V} (h:PC P n (laxs args) v):PC P n args v:=fun H=>(h H).lax
theorem laxs_append:∀ {xs ys:List V},laxs (xs++ys)=laxs xs++laxs ys
 | [],_=>rfl
 | x::xs,ys=>by simp only [List.cons_append,laxs,laxs_append]
end
section
variable {α:Type} {f:α→V} {i:Nat}
end
attribute [simp] bel_int bel_bool bel_str bel_nilp bel_nili bel_nilf bel_nilm bel_raw bel_dead bel_agg bel_tup bel_sl bel_fp bel_buf bel_ptr bel_mp bel_ifc bel_fn bel_opt belAll_nil belAll_cons belO_cells belO_dead belO_unborn belObs_nil belObs_cons belObs_append belAll_tab belObs_tab belObs_tabN
end Go.Vm
namespace Go.Vm
variable [GlobTab]
section
variable {tt:Nat→TI} {m t:Nat} {cs:List V}
theorem typ_str (hk:(tt t).k=.str) (h:Typ tt (m+1) t cs):∃s,cs=[.str s]∧s.length≤maxLen:=by
 simpa only [Typ,hk] using h
theorem typA_cons {a:Nat} {ts:List Nat} {xs:List V} (h:TypA tt m (a::ts) xs):∃v vs cs,xs=v::vs∧v=mkV (tt a) cs∧Typ tt m a cs∧TypA tt m ts vs:=by
 match xs,h with
 | v::vs,⟨⟨cs,h1,h2⟩,h3⟩=>exact ⟨v,vs,cs,rfl,h1,h2,h3⟩
 | [],h=>simp [TypA] at h
theorem typA_nil {xs:List V} (h:TypA tt m [] xs):xs=[]:=by
 match xs,h with
 | [],_=>rfl
 | _::_,h=>simp [TypA] at h
end
end Go.Vm
namespace Go.Vm
variable [GlobTab]
mutual
def V.pur:V→Bool
 | .agg vs=>purs vs
 | .tup vs=>purs vs
 | .sl isnil _ _=>isnil
 | .fp _=>false
 | .ifc _ v=>v.pur
 | .fn _ a b=>purs a&&purs b
 | .opt _ v=>v.pur
 | _=>true
def purs:List V→Bool
 | []=>true
 | v::vs=>v.pur&&purs vs
end
def Ob.pur:Ob→Bool
 | .cells _ l=>purs l
 | .map es=>purs (es.map (·.1))&&purs (es.map (·.2))
 | _=>true
def pursO:List Ob→Bool
 | []=>true
 | o::os=>o.pur&&pursO os
section
variable {P:Program} {O:Nat→Prop} {β β':List Pl} {w w':World} {H:List Ob}
mutual
theorem VR.pur {own own':Nat→Prop}:∀(x:V) (v:Value),x.pur=true→VR own w β x v→VR own' w β x v
 | .agg vs,v,h,hv=>by
  simp only [V.pur] at h
  simp only [VR] at hv ⊢
  obtain ⟨l,h1,h2⟩:=hv
  exact ⟨l,h1,VRs.pur vs l h h2⟩
 | .tup vs,v,h,hv=>by
  simp only [V.pur] at h
  simp only [VR] at hv ⊢
  obtain ⟨l,h1,h2⟩:=hv
  exact ⟨l,h1,VRs.pur vs l h h2⟩
 | .sl isnil cs n,v,h,hv=>by
  simp only [V.pur] at h
  subst h
  simp only [VR] at hv ⊢
  rcases hv with h | h
  ·exact .inl h
  ·exact absurd h.1 (by decide)
 | .fp _,v,h,hv=>by simp [V.pur] at h
 | .ifc t x,v,h,hv=>by
  simp only [V.pur] at h
  simp only [VR] at hv ⊢
  obtain ⟨y,h1,h2⟩:=hv
  exact ⟨y,h1,VR.pur x y h h2⟩
 | .fn f a b,v,h,hv=>by
  simp only [V.pur,Bool.and_eq_true] at h
  simp only [VR] at hv ⊢
  obtain ⟨la,lb,h1,h2,h3⟩:=hv
  exact ⟨la,lb,h1,VRs.pur a la h.1 h2,VRs.pur b lb h.2 h3⟩
 | .opt g x,v,h,hv=>by
  simp only [V.pur] at h
  simp only [VR] at hv ⊢
  exact ⟨fun hg=>VR.pur x v h (hv.1 hg),hv.2⟩
 | .int _ _,v,_,h=>by simpa only [VR] using h
 | .bool _,v,_,h=>by simpa only [VR] using h
 | .str _,v,_,h=>by simpa only [VR] using h
 | .nilp,v,_,h=>by simpa only [VR] using h
 | .nili,v,_,h=>by simpa only [VR] using h
 | .nilf,v,_,h=>by simpa only [VR] using h
 | .nilm,v,_,h=>by simpa only [VR] using h
 | .raw _,v,_,h=>by simpa only [VR] using h
 | .buf _ _ _ _ _,v,_,h=>by simpa only [VR] using h
 | .ptr _ _ _,v,_,h=>by simpa only [VR] using h
 | .mp _,v,_,h=>by simpa only [VR] using h
 | .dead,v,_,h=>by simp only [VR]
theorem VRs.pur {own own':Nat→Prop}:∀(xs:List V) (vs:List Value),purs xs=true→VRs own w β xs vs→VRs own' w β xs vs
 | [],[],_,_=>by simp only [VRs]
 | x::xs,y::ys,h,hv=>by
  simp only [purs,Bool.and_eq_true] at h
  simp only [VRs] at hv ⊢
  exact ⟨VR.pur x y h.1 hv.1,VRs.pur xs ys h.2 hv.2⟩
 | [],_::_,_,h=>by simp only [VRs] at h
 | _::_,[],_,h=>by simp only [VRs] at h
end
mutual
theorem VR.less {own own':Nat→Prop} (ho:∀b,own' b→own b):∀(x:V) (v:Value),VR own w β x v→VR own' w β x v
 | .agg vs,v,hv=>by
  simp only [VR] at hv ⊢
  obtain ⟨l,h1,h2⟩:=hv
  exact ⟨l,h1,VRs.less ho vs l h2⟩
 | .tup vs,v,hv=>by
  simp only [VR] at hv ⊢
  obtain ⟨l,h1,h2⟩:=hv
  exact ⟨l,h1,VRs.less ho vs l h2⟩
 | .sl isnil cells len,v,hv=>by
  simp only [VR] at hv ⊢
  refine Or.imp (fun h=>h) ?_ hv
  rintro ⟨h0,b,off,cap,l,h1,h2,h3,h4,h5,h6⟩
  exact ⟨h0,b,off,cap,l,h1,h2,h3,fun h=>h4 (ho b h),h5,VRs.less ho cells l h6⟩
 | .fp cells,v,hv=>by
  simp only [VR] at hv ⊢
  obtain ⟨b,off,l,h1,h3,h4,h5,h6⟩:=hv
  exact ⟨b,off,l,h1,h3,fun h=>h4 (ho b h),h5,VRs.less ho cells l h6⟩
 | .ifc t x,v,hv=>by
  simp only [VR] at hv ⊢
  obtain ⟨y,h1,h2⟩:=hv
  exact ⟨y,h1,VR.less ho x y h2⟩
 | .fn f a b,v,hv=>by
  simp only [VR] at hv ⊢
  obtain ⟨la,lb,h1,h2,h3⟩:=hv
  exact ⟨la,lb,h1,VRs.less ho a la h2,VRs.less ho b lb h3⟩
 | .opt g x,v,hv=>by
  simp only [VR] at hv ⊢
  exact ⟨fun hg=>VR.less ho x v (hv.1 hg),hv.2⟩
 | .int _ _,v,h=>by simpa only [VR] using h
 | .bool _,v,h=>by simpa only [VR] using h
 | .str _,v,h=>by simpa only [VR] using h
 | .nilp,v,h=>by simpa only [VR] using h
 | .nili,v,h=>by simpa only [VR] using h
 | .nilf,v,h=>by simpa only [VR] using h
 | .nilm,v,h=>by simpa only [VR] using h
 | .raw _,v,h=>by simpa only [VR] using h
 | .buf _ _ _ _ _,v,h=>by simpa only [VR] using h
 | .ptr _ _ _,v,h=>by simpa only [VR] using h
 | .mp _,v,h=>by simpa only [VR] using h
 | .dead,v,h=>by simp only [VR]
theorem VRs.less {own own':Nat→Prop} (ho:∀b,own' b→own b):∀(xs:List V) (vs:List Value),VRs own w β xs vs→VRs own' w β xs vs
 | [],[],_=>by simp only [VRs]
 | x::xs,y::ys,hv=>by
  simp only [VRs] at hv ⊢
  exact ⟨VR.less ho x y hv.1,VRs.less ho xs ys hv.2⟩
 | [],_::_,h=>by simp only [VRs] at h
 | _::_,[],h=>by simp only [VRs] at h
end
mutual
def brw (H:List Ob):V→V
 | .buf id ver off len sz =>
  match getO H id with
  | .cells v l=>(match Nat.beq v ver with | true=>.sl false ((l.drop off).take (len*sz)) len | false=>.buf 0 0 0 0 0)
  | _=>.buf 0 0 0 0 0
 | .agg vs=>.agg (brws H vs)
 | .tup vs=>.tup (brws H vs)
 | x=>x
def brws (H:List Ob):List V→List V
 | []=>[]
 | x::xs=>brw H x::brws H xs
end
abbrev noOwn:Nat→Prop:=fun _=>False
theorem noOwn_nil {b:Nat} (h:Own noOwn [] b):False:=by
 rcases h with h | ⟨i,l,hi,_⟩
 ·exact h
 ·simp at hi
mutual
theorem brw_VR (hh:HR O β w H):∀(x:V) (v:Value),(brw H x).bel 0=true→VR (Own O β) w β x v→VR (Own noOwn []) w [] (brw H x) v
 | .buf id ver off len sz,v,hb,h=>by
  simp only [brw] at hb ⊢
  split at hb
  ·rename_i v' l hg
   split at hb
   ·rename_i hv
    obtain rfl:=Nat.eq_of_beq_eq_true hv
    rw [bel_sl] at hb
    have hH:H[id]? = some (.cells v' l):=getO_eq hg (by simp)
    have hlt:=(List.getElem?_eq_some_iff.1 hH).1
    obtain ⟨loc,hloc⟩:∃loc,β[id]? = some loc:=⟨β[id]'(by rw [hh.len];exact hlt),List.getElem?_eq_getElem _⟩
    have hob:=hh.ob id loc _ hloc hH
    simp only [ObR] at hob
    simp only [VR] at h
    obtain ⟨⟨a,c,rfl,hc,ha⟩,hbf⟩:=h
    rw [hloc] at hbf
    simp only [VR]
    rcases hob with ⟨rfl,rfl⟩ | ⟨b,base,cs,ty,rfl,h2,h3,h4⟩
    ·simp only [BufR] at hbf
     obtain ⟨h3,_,h5⟩:=hbf.2 trivial
     exact .inl ⟨none,h3,h5,fun _=>rfl⟩
    ·simp only [BufR] at hbf
     obtain ⟨a',cap,h5,h6,⟨o,ho⟩,h7,h8⟩:=hbf.2 trivial
     simp only [Value.slice.injEq,true_and] at h5
     obtain ⟨rfl,rfl⟩:=h5
     have hsz:b<w.heap.size:=hh.lt b ⟨id,_,hloc,rfl⟩
     refine .inr ⟨trivial,b,?_⟩
     by_cases hz:c=0
     ·have hn:len=0:=by omega
      subst hn
      refine ⟨o,c,[],by rw [ho],hc,hsz,noOwn_nil,fun i v hv=>by simp at hv,?_⟩
      simp [VRs]
     ·refine ⟨base+off,c,((((cs.toList.drop base).take l.length).drop off).take (len*sz)),by rw [h7 hz],hc,hsz,noOwn_nil,?_,?_⟩
      ·intro i v hv
       rw [List.getElem?_take] at hv
       split at hv
       ·rw [List.getElem?_drop,List.getElem?_take] at hv
        split at hv
        ·rw [List.getElem?_drop,Array.getElem?_toList] at hv
         rw [cell_of_heap h2,Nat.add_assoc];exact hv
        ·simp at hv
       ·simp at hv
      ·have h9:=(h4.drop off).take (len*sz)
       exact VRs.up _ _ hb (VRs.less (fun b hb=>(noOwn_nil hb).elim) _ _ h9)
   ·simp [V.bel] at hb
  ·simp [V.bel] at hb
 | .agg vs,v,hb,h=>by
  simp only [brw,bel_agg] at hb
  simp only [brw,VR] at h ⊢
  obtain ⟨u,h1,h2⟩:=h
  exact ⟨u,h1,brws_VR hh vs u hb h2⟩
 | .tup vs,v,hb,h=>by
  simp only [brw,bel_tup] at hb
  simp only [brw,VR] at h ⊢
  obtain ⟨u,h1,h2⟩:=h
  exact ⟨u,h1,brws_VR hh vs u hb h2⟩
 | .int a b,v,hb,h=>by simp only [brw] at hb ⊢;exact VR.up _ _ hb (VR.less (fun b hb=>(noOwn_nil hb).elim) _ _ h)
 | .bool _,v,hb,h=>by simp only [brw] at hb ⊢;exact VR.up _ _ hb (VR.less (fun b hb=>(noOwn_nil hb).elim) _ _ h)
 | .str _,v,hb,h=>by simp only [brw] at hb ⊢;exact VR.up _ _ hb (VR.less (fun b hb=>(noOwn_nil hb).elim) _ _ h)
 | .nilp,v,hb,h=>by simp only [brw] at hb ⊢;exact VR.up _ _ hb (VR.less (fun b hb=>(noOwn_nil hb).elim) _ _ h)
 | .nili,v,hb,h=>by simp only [brw] at hb ⊢;exact VR.up _ _ hb (VR.less (fun b hb=>(noOwn_nil hb).elim) _ _ h)
 | .nilf,v,hb,h=>by simp only [brw] at hb ⊢;exact VR.up _ _ hb (VR.less (fun b hb=>(noOwn_nil hb).elim) _ _ h)
 | .nilm,v,hb,h=>by simp only [brw] at hb ⊢;exact VR.up _ _ hb (VR.less (fun b hb=>(noOwn_nil hb).elim) _ _ h)
 | .raw _,v,hb,h=>by simp only [brw] at hb ⊢;exact VR.up _ _ hb (VR.less (fun b hb=>(noOwn_nil hb).elim) _ _ h)
 | .sl _ _ _,v,hb,h=>by simp only [brw] at hb ⊢;exact VR.up _ _ hb (VR.less (fun b hb=>(noOwn_nil hb).elim) _ _ h)
 | .fp _,v,hb,h=>by simp only [brw] at hb ⊢;exact VR.up _ _ hb (VR.less (fun b hb=>(noOwn_nil hb).elim) _ _ h)
 | .ptr _ _ _,v,hb,h=>by simp only [brw] at hb ⊢;exact VR.up _ _ hb (VR.less (fun b hb=>(noOwn_nil hb).elim) _ _ h)
 | .mp _,v,hb,h=>by simp only [brw] at hb ⊢;exact VR.up _ _ hb (VR.less (fun b hb=>(noOwn_nil hb).elim) _ _ h)
 | .ifc _ _,v,hb,h=>by simp only [brw] at hb ⊢;exact VR.up _ _ hb (VR.less (fun b hb=>(noOwn_nil hb).elim) _ _ h)
 | .fn _ _ _,v,hb,h=>by simp only [brw] at hb ⊢;exact VR.up _ _ hb (VR.less (fun b hb=>(noOwn_nil hb).elim) _ _ h)
 | .opt _ _,v,hb,h=>by simp only [brw] at hb ⊢;exact VR.up _ _ hb (VR.less (fun b hb=>(noOwn_nil hb).elim) _ _ h)
 | .dead,v,hb,h=>by simp only [brw,VR]
theorem brws_VR (hh:HR O β w H):∀(xs:List V) (vs:List Value),belAll 0 (brws H xs)=true→VRs (Own O β) w β xs vs→VRs (Own noOwn []) w [] (brws H xs) vs
 | [],[],_,_=>by simp only [brws,VRs]
 | x::xs,y::ys,hb,h=>by
  simp only [brws,belAll,Bool.and_eq_true] at hb
  simp only [brws,VRs] at h ⊢
  exact ⟨brw_VR hh x y hb.1 h.1,brws_VR hh xs ys hb.2 h.2⟩
 | [],_::_,_,h=>by simp only [VRs] at h
 | _::_,[],_,h=>by simp only [VRs] at h
end
theorem pursO_get:∀ {J:List Ob} {i:Nat} {o:Ob},pursO J=true→J[i]? = some o→o.pur=true
 | [],i,o,_,h=>by simp at h
 | x::xs,0,o,hp,h=>by
  simp only [pursO,Bool.and_eq_true] at hp
  simp at h
  subst h
  exact hp.1
 | x::xs,i+1,o,hp,h=>by
  simp only [pursO,Bool.and_eq_true] at hp
  exact pursO_get hp.2 (by simpa using h)
theorem GCall.borrow {n:Nat} {args:List V} {v:V} {J:List Ob} (H:List Ob) (h0:GCall P n (brws H args) [] v J) (ha:belAll 0 (brws H args)=true) (hv:v.pur=true) (hJ:pursO J=true) :
  GCall P n args H (v.sh H.length) (H++shOs H.length J):=by
 refine ⟨h0.1,fun O β w vals hh hva=>?_⟩
 have hO:HR noOwn [] w []:=⟨rfl,fun i loc o hi _=>by simp at hi,fun i j l l' b hi=>by simp at hi,fun b ⟨i,l,hi,_⟩=>by simp at hi,fun b ⟨i,l,hi,_⟩=>by simp at hi,fun b hb=>hb.elim,hh.glob.sub fun b hb=>by
  rcases hb with hb | ⟨i,l,hi,_⟩
  ·exact hb.elim
  ·simp at hi⟩
 refine (h0.2 noOwn [] w vals hO (brws_VR hh args vals ha hva)).mono ?_
 rintro e w' ⟨u,β',rfl,g1,g2,g3⟩
 have hfresh:∀b,InB β' b→w.heap.size≤b:=fun b hb=>(g3.fresh b hb).resolve_left (fun ⟨i,l,hi,_⟩=>by simp at hi)
 have g1':HR (Own O β) β' w' J:=by
  refine ⟨g1.len,?_,g1.inj,g1.lt,?_,?_,hh.glob.nil.ext g3⟩
  ·intro i loc o hi ho
   have h1:=g1.ob i loc o hi ho
   have hp:=pursO_get hJ ho
   cases o with
   | unborn=>exact h1
   | dead=>exact h1
   | cells ver l =>
    simp only [ObR] at h1 ⊢
    simp only [Ob.pur] at hp
    refine Or.imp (fun h=>h) ?_ h1
    rintro ⟨b,base,cs,ty,a1,a2,a3,a4⟩
    exact ⟨b,base,cs,ty,a1,a2,a3,VRs.pur _ _ hp a4⟩
   | map es =>
    simp only [ObR] at h1 ⊢
    simp only [Ob.pur,Bool.and_eq_true] at hp
    obtain ⟨b,en,clock,a1,a2,a3,a4⟩:=h1
    exact ⟨b,en,clock,a1,a2,VRs.pur _ _ hp.1 a3,VRs.pur _ _ hp.2 a4⟩
  ·intro b hb ho
   have:=hfresh b hb
   rcases ho with ho | ho
   ·have:=hh.old b ho;omega
   ·have:=hh.lt b ho;omega
  ·rintro b (ho | ho)
   ·exact Nat.lt_of_lt_of_le (hh.old b ho) g3.size
   ·exact Nat.lt_of_lt_of_le (hh.lt b ho) g3.size
 obtain ⟨a1,a2,a3⟩:=frame_tail hh g1' (VR.pur v u hv g2) g3
 exact ⟨u,β++β',rfl,a1,a2,a3⟩
mutual
theorem brw_keeps {H H':List Ob} (hk:Keeps H H'):∀(x:V),(brw H x).bel 0=true→brw H' x=brw H x
 | .buf id ver off len sz,h=>by
  simp only [brw] at h ⊢
  split at h
  ·rename_i v l hg
   rw [hk _ _ _ hg]
  ·simp [V.bel] at h
 | .agg vs,h=>by
  simp only [brw,bel_agg] at h
  simp only [brw,brws_keeps hk vs h]
 | .tup vs,h=>by
  simp only [brw,bel_tup] at h
  simp only [brw,brws_keeps hk vs h]
 | .int _ _,_=>by simp only [brw]
 | .bool _,_=>by simp only [brw]
 | .str _,_=>by simp only [brw]
 | .nilp,_=>by simp only [brw]
 | .nili,_=>by simp only [brw]
 | .nilf,_=>by simp only [brw]
 | .nilm,_=>by simp only [brw]
 | .raw _,_=>by simp only [brw]
 | .sl _ _ _,_=>by simp only [brw]
 | .fp _,_=>by simp only [brw]
 | .ptr _ _ _,_=>by simp only [brw]
 | .mp _,_=>by simp only [brw]
 | .ifc _ _,_=>by simp only [brw]
 | .fn _ _ _,_=>by simp only [brw]
 | .opt _ _,_=>by simp only [brw]
 | .dead,_=>by simp only [brw]
theorem brws_keeps {H H':List Ob} (hk:Keeps H H'):∀(xs:List V),belAll 0 (brws H xs)=true→brws H' xs=brws H xs
 | [],_=>by simp only [brws]
 | x::xs,h=>by
  simp only [brws,belAll,Bool.and_eq_true] at h
  simp only [brws,brw_keeps hk x h.1,brws_keeps hk xs h.2]
end
theorem callO.lent {n:Nat} {args a b:List V} {v:V} {J:List Ob} {KV:V→List Ob→Prop} (h:PCJ P n (brws H (a++args++b)) v J) (ha:belAll 0 (brws H (a++args++b))=true) (hv:v.pur=true) (hJ:pursO J=true)
  (k:KV (v.sh H.length) (H++shOs H.length J)):callO P (.fn (.func n) a b) args H KV:=⟨_,_,.inl (GCall.borrow H h.nil ha hv hJ),k⟩
theorem PC.toJ {n:Nat} {args:List V} {v:V} (h:PC P n args v) (hv:v.bel 0=true):PCJ P n args v []:=by
 intro H
 have:=h H
 rw [V.sh_bel v hv]
 simpa [shOs] using this
theorem callG.lent {g:Bool} {n:Nat} {args a b:List V} {v:V} {KG:V→Prop} (h:g=true→PC P n (brws H (a++args++b)) v) (ha:g=true→belAll 0 (brws H (a++args++b))=true) (hv:v.pur=true) (hb:v.bel 0=true)
  (k:KG v):callG P g (.fn (.func n) a b) args H KG:=by
 refine ⟨v,fun hg H' hk=>?_,k⟩
 have e:=brws_keeps hk _ (ha hg)
 have:=GCall.borrow H' (args:=a++args++b) (by rw [e];exact ((h hg).toJ hb).nil) (by rw [e];exact ha hg) hv rfl
 rw [V.sh_bel v hb,shOs,List.append_nil] at this
 exact .inl this
theorem callX.lent {n:Nat} {args a b:List V} {v:V} {J:List Ob} {KV:V→List Ob→Prop} (h:PCJ P n (brws H (a++args++b)) v J) (ha:belAll 0 (brws H (a++args++b))=true) (hv:v.pur=true) (hJ:pursO J=true) (hu:noUn (shOs H.length J))
  (k:KV (v.sh H.length) (H++shOs H.length J)):callX P (.fn (.func n) a b) args H KV :=
 ⟨_,_,hu,fun H' hl hk=>by
  have e:=brws_keeps hk _ ha
  have:=GCall.borrow H' (args:=a++args++b) (by rw [e];exact h.nil) (by rw [e];exact ha) hv hJ
  rw [hl] at this
  exact .inl this,k⟩
end
end Go.Vm

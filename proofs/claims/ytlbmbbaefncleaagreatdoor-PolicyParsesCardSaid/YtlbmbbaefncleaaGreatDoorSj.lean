/-
  Joined by a program from the texts Vm10.
-/
import Derived.Test.YtlbmbbaefncleaaGreatDoorSi
set_option linter.all false
namespace Go.Vm
variable [GlobTab]
mutual
theorem V.rn_lt {m:Nat} {q:Nat→Nat} (hq:∀i,i<m→q i=i):∀(x:V),x.bel m=true→x.rn q=x
 | .buf i v off n sz,h=>by rw [bel_buf,decide_eq_true_eq] at h;simp only [V.rn,hq i h]
 | .ptr i v off,h=>by rw [bel_ptr,decide_eq_true_eq] at h;simp only [V.rn,hq i h]
 | .mp i,h=>by rw [bel_mp,decide_eq_true_eq] at h;simp only [V.rn,hq i h]
 | .agg vs,h=>by rw [bel_agg] at h;simp only [V.rn,rns_lt hq vs h]
 | .tup vs,h=>by rw [bel_tup] at h;simp only [V.rn,rns_lt hq vs h]
 | .sl b cs n,h=>by rw [bel_sl] at h;simp only [V.rn,rns_lt hq cs h]
 | .fp cs,h=>by rw [bel_fp] at h;simp only [V.rn,rns_lt hq cs h]
 | .ifc t v,h=>by rw [bel_ifc] at h;simp only [V.rn,V.rn_lt hq v h]
 | .fn f a b,h=>by rw [bel_fn,Bool.and_eq_true] at h;simp only [V.rn,rns_lt hq a h.1,rns_lt hq b h.2]
 | .opt g v,h=>by rw [bel_opt] at h;simp only [V.rn,V.rn_lt hq v h]
 | .int a b,_=>by simp only [V.rn]
 | .bool b,_=>by simp only [V.rn]
 | .str s,_=>by simp only [V.rn]
 | .nilp,_=>by simp only [V.rn]
 | .nili,_=>by simp only [V.rn]
 | .nilf,_=>by simp only [V.rn]
 | .nilm,_=>by simp only [V.rn]
 | .raw _,_=>by simp only [V.rn]
 | .dead,_=>by simp only [V.rn]
theorem rns_lt {m:Nat} {q:Nat→Nat} (hq:∀i,i<m→q i=i):∀(xs:List V),belAll m xs=true→rns q xs=xs
 | [],_=>rfl
 | x::xs,h=>by
  rw [belAll_cons,Bool.and_eq_true] at h
  simp only [rns,V.rn_lt hq x h.1,rns_lt hq xs h.2]
end
theorem rnsM_lt {m:Nat} {q:Nat→Nat} (hq:∀i,i<m→q i=i) (es:List (V × V)) (h1:belAll m (es.map (·.1))=true) (h2:belAll m (es.map (·.2))=true):(es.map fun e=>(e.1.rn q,e.2.rn q))=es:=by
 induction es with
 | nil=>rfl
 | cons e es ih =>
  rw [List.map_cons,belAll_cons,Bool.and_eq_true] at h1 h2
  rw [List.map_cons,ih h1.2 h2.2,V.rn_lt hq _ h1.1,V.rn_lt hq _ h2.1]
theorem Ob.rn_lt {m:Nat} {q:Nat→Nat} (hq:∀i,i<m→q i=i):∀(o:Ob),o.bel m=true→o.rn q=o
 | .cells v l,h=>by rw [belO_cells] at h;simp only [Ob.rn,rns_lt hq l h]
 | .map es,h=>by
  simp only [Ob.bel,Bool.and_eq_true] at h
  simp only [Ob.rn,rnsM_lt hq es h.1 h.2]
 | .unborn,_=>rfl
 | .dead,_=>rfl
theorem rnOs_lt {m:Nat} {q:Nat→Nat} (hq:∀i,i<m→q i=i):∀(os:List Ob),belObs m os=true→rnOs q os=os
 | [],_=>rfl
 | x::xs,h=>by
  rw [belObs_cons,Bool.and_eq_true] at h
  simp only [rnOs,Ob.rn_lt hq x h.1,rnOs_lt hq xs h.2]
theorem setPs_range {A K B:List Ob} (hl:B.length=A.length):setPs (A++K) (List.range A.length) B=B++K:=by
 refine List.ext_getElem? fun i=>?_
 have hr:(List.range A.length).length=B.length:=by rw [List.length_range,hl]
 by_cases h:i<A.length
 ·have hi:(List.range A.length)[i]? = some i:=by rw [List.getElem?_range h]
  rw [setPs_in List.nodup_range hr hi (by rw [List.length_append];omega),List.getElem?_append_left (by omega)]
 ·rw [setPs_out (by rw [List.mem_range];exact h),List.getElem?_append_right (by omega),List.getElem?_append_right (by omega),hl]
theorem qf_range {m M i:Nat} (h:i<m):qf (List.range m) M i=i:=qf_in (by rw [List.getElem?_range h])
section
variable {P:Program} {KV:V→List Ob→Prop}
theorem GCall.app {n:Nat} {args:List V} {v:V} {G G':List Ob} (K:List Ob) (h:GCall P n args G v G') (hl:G'.length=G.length) (ha:belAll G.length args=true) (hb:belObs G.length G=true) (hv:v.bel G.length=true) (hb':belObs G.length G'=true) :
  GCall P n args (G++K) v (G'++K):=by
 have hq:∀i,i<G.length→qf (List.range G.length) (G++K).length i=i:=fun i hi=>qf_range hi
 have:=GCall.part (J:=[]) (H:=G++K) (ps:=List.range G.length) (by rw [List.append_nil];exact h) List.nodup_range (by rw [List.length_range]) hl (fun i p hi=>by
  have hlt:i<G.length:=by
   have:=(List.getElem?_eq_some_iff.1 hi).1
   rwa [List.length_range] at this
  rw [List.getElem?_range hlt] at hi
  simp at hi
  subst hi
  rw [List.getElem?_append_left hlt,List.getElem?_eq_getElem hlt,Option.map_some]
  have hbo:(G[i]).bel G.length=true:=belObs_get hb (List.getElem?_eq_getElem hlt)
  rw [Ob.rn_lt hq _ hbo])
 rw [rns_lt hq _ ha,V.rn_lt hq _ hv,rnOs_lt hq _ hb',setPs_range hl,rnOs,List.append_nil] at this
 exact this
theorem callO.app {n:Nat} {args a b:List V} {v:V} {G G' H:List Ob} (K:List Ob) (h:GCall P n (a++args++b) G v G') (hH:H=G++K) (hl:G'.length=G.length) (ha:belAll G.length (a++args++b)=true) (hb:belObs G.length G=true) (hv:v.bel G.length=true) (hb':belObs G.length G'=true)
  (k:KV v (G'++K)):callO P (.fn (.func n) a b) args H KV:=by
 subst hH
 exact ⟨_,_,.inl (GCall.app K h hl ha hb hv hb'),k⟩
end
end Go.Vm

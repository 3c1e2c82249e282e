/-
  Joined by a program from the texts Vm11.
-/
import Derived.Test.YtlbmbbaefncleaaGreatDoorSj
set_option linter.all false
namespace Go.Vm
variable [GlobTab]
mutual
def lndW (f:V→V) (m:Nat) (H:List Ob):V→V
 | .buf id ver off len sz =>
  match Nat.blt id m with
  | true=>.buf id ver off len sz
  | false=>match getO H id with
   | .cells v l=>(match Nat.beq v ver with | true=>.sl false (((l.drop off).take (len*sz)).map f) len | false=>.buf m 0 0 0 0)
   | _=>.buf m 0 0 0 0
 | .ptr id ver off =>
  match Nat.blt id m with
  | true=>.ptr id ver off
  | false=>match getO H id with
   | .cells v l=>(match Nat.beq v ver with | true=>.fp ((l.drop off).map f) | false=>.ptr m 0 0)
   | _=>.ptr m 0 0
 | .mp id=>match Nat.blt id m with | true=>.mp id | false=>.dead
 | .agg vs=>.agg (lndWs f m H vs)
 | .tup vs=>.tup (lndWs f m H vs)
 | .ifc t v=>.ifc t (lndW f m H v)
 | .fn n a b=>.fn n (lndWs f m H a) (lndWs f m H b)
 | x=>x
def lndWs (f:V→V) (m:Nat) (H:List Ob):List V→List V
 | []=>[]
 | x::xs=>lndW f m H x::lndWs f m H xs
end
abbrev lnd (m:Nat) (H:List Ob):V→V:=lndW id m H
abbrev lnds (m:Nat) (H:List Ob):List V→List V:=lndWs id m H
abbrev lnds1 (m:Nat) (H:List Ob):List V→List V:=lndWs (lnd m H) m H
section
variable {P:Program} {O:Nat→Prop} {β β':List Pl} {w w':World} {H:List Ob}
mutual
theorem VR.congr {own:Nat→Prop} {n:Nat} (he:∀i,i<n→β'[i]? = β[i]?):∀(x:V) (v:Value),x.bel n=true→VR own w β x v→VR own w β' x v
 | .int _ _,v,_,h=>by simpa only [VR] using h
 | .bool _,v,_,h=>by simpa only [VR] using h
 | .str _,v,_,h=>by simpa only [VR] using h
 | .nilp,v,_,h=>by simpa only [VR] using h
 | .nili,v,_,h=>by simpa only [VR] using h
 | .nilf,v,_,h=>by simpa only [VR] using h
 | .nilm,v,_,h=>by simpa only [VR] using h
 | .raw _,v,_,h=>by simpa only [VR] using h
 | .agg vs,v,hb,h=>by
  rw [bel_agg] at hb
  simp only [VR] at h ⊢
  obtain ⟨l,h1,h2⟩:=h
  exact ⟨l,h1,VRs.congr he vs l hb h2⟩
 | .tup vs,v,hb,h=>by
  rw [bel_tup] at hb
  simp only [VR] at h ⊢
  obtain ⟨l,h1,h2⟩:=h
  exact ⟨l,h1,VRs.congr he vs l hb h2⟩
 | .sl isnil cells len,v,hb,h=>by
  rw [bel_sl] at hb
  simp only [VR] at h ⊢
  refine Or.imp (fun h=>h) ?_ h
  rintro ⟨h0,b,off,cap,l,h1,h2,h3,h4,h5,h6⟩
  exact ⟨h0,b,off,cap,l,h1,h2,h3,h4,h5,VRs.congr he cells l hb h6⟩
 | .fp cells,v,hb,h=>by
  rw [bel_fp] at hb
  simp only [VR] at h ⊢
  obtain ⟨b,off,l,h1,h3,h4,h5,h6⟩:=h
  exact ⟨b,off,l,h1,h3,h4,h5,VRs.congr he cells l hb h6⟩
 | .buf id ver off len sz,v,hb,h=>by
  rw [bel_buf,decide_eq_true_eq] at hb
  simp only [VR] at h ⊢
  rw [he _ hb];exact h
 | .ptr id ver off,v,hb,h=>by
  rw [bel_ptr,decide_eq_true_eq] at hb
  simp only [VR] at h ⊢
  rw [he _ hb];exact h
 | .mp id,v,hb,h=>by
  rw [bel_mp,decide_eq_true_eq] at hb
  simp only [VR] at h ⊢
  rw [he _ hb];exact h
 | .ifc t x,v,hb,h=>by
  rw [bel_ifc] at hb
  simp only [VR] at h ⊢
  obtain ⟨y,h1,h2⟩:=h
  exact ⟨y,h1,VR.congr he x y hb h2⟩
 | .fn f a b,v,hb,h=>by
  rw [bel_fn,Bool.and_eq_true] at hb
  simp only [VR] at h ⊢
  obtain ⟨la,lb,h1,h2,h3⟩:=h
  exact ⟨la,lb,h1,VRs.congr he a la hb.1 h2,VRs.congr he b lb hb.2 h3⟩
 | .opt g x,v,hb,h=>by
  rw [bel_opt] at hb
  simp only [VR] at h ⊢
  exact ⟨fun hg=>VR.congr he x v hb (h.1 hg),h.2⟩
 | .dead,v,_,h=>by simp only [VR]
theorem VRs.congr {own:Nat→Prop} {n:Nat} (he:∀i,i<n→β'[i]? = β[i]?):∀(xs:List V) (vs:List Value),belAll n xs=true→VRs own w β xs vs→VRs own w β' xs vs
 | [],[],_,_=>by simp only [VRs]
 | x::xs,y::ys,hb,h=>by
  rw [belAll_cons,Bool.and_eq_true] at hb
  simp only [VRs] at h ⊢
  exact ⟨VR.congr he x y hb.1 h.1,VRs.congr he xs ys hb.2 h.2⟩
 | [],_::_,_,h=>by simp only [VRs] at h
 | _::_,[],_,h=>by simp only [VRs] at h
end
theorem own_take_of (hh:HR O β w H) {m id b:Nat} {l:Pl} (hi:β[id]? = some l) (hl:l.block? = some b) (hm:m≤id):¬Own O (β.take m) b:=by
 rintro (h | ⟨i,l',h1,h2⟩)
 ·exact hh.apart b ⟨id,l,hi,hl⟩ h
 ·rw [List.getElem?_take] at h1
  split at h1
  ·have:=hh.inj i id l' l b h1 hi h2 hl
   omega
  ·simp at h1
theorem VRs.mapf {f:V→V} {m:Nat} (hf:∀(x:V) (v:Value),(f x).bel m=true→VR (Own O β) w β x v→VR (Own O (β.take m)) w (β.take m) (f x) v):∀(xs:List V) (vs:List Value),belAll m (xs.map f)=true→VRs (Own O β) w β xs vs→VRs (Own O (β.take m)) w (β.take m) (xs.map f) vs
 | [],[],_,_=>by simp only [List.map_nil,VRs]
 | x::xs,y::ys,hb,h=>by
  rw [List.map_cons,belAll_cons,Bool.and_eq_true] at hb
  simp only [List.map_cons,VRs] at h ⊢
  exact ⟨hf x y hb.1 h.1,VRs.mapf hf xs ys hb.2 h.2⟩
 | [],_::_,_,h=>by simp only [VRs] at h
 | _::_,[],_,h=>by simp only [VRs] at h
mutual
theorem lndW_VR {f:V→V} (hh:HR O β w H) (m:Nat) (hf:∀(x:V) (v:Value),(f x).bel m=true→VR (Own O β) w β x v→VR (Own O (β.take m)) w (β.take m) (f x) v):∀(x:V) (v:Value),(lndW f m H x).bel m=true→VR (Own O β) w β x v→VR (Own O (β.take m)) w (β.take m) (lndW f m H x) v
 | .buf id ver off len sz,v,hb,h=>by
  simp only [lndW] at hb ⊢
  split at hb
  ·exact VR.take _ _ hb h
  ·rename_i hlt
   have hge:m≤id:=Nat.le_of_not_lt fun h'=>by
    have:=Nat.ble_eq_true_of_le h'
    unfold Nat.blt at hlt
    rw [this] at hlt
    cases hlt
   split at hb
   ·rename_i v' l hg
    split at hb
    ·rename_i hv
     obtain rfl:=Nat.eq_of_beq_eq_true hv
     rw [bel_sl] at hb
     have hH:H[id]? = some (.cells v' l):=getO_eq hg (by simp)
     have hlt:=(List.getElem?_eq_some_iff.1 hH).1
     obtain ⟨loc,hloc⟩:∃loc,β[id]? = some loc:=⟨β[id]'(by rw [hh.len];exact hlt),List.getElem?_eq_getElem _⟩
     have hob:=hh.ob id loc _ hloc hH
     simp only [ObR] at hob
     simp only [VR] at h
     obtain ⟨⟨a,c,rfl,hc,ha⟩,hbf⟩:=h
     rw [hloc] at hbf
     simp only [VR]
     rcases hob with ⟨rfl,rfl⟩ | ⟨b,base,cs,ty,rfl,h2,h3,h4⟩
     ·simp only [BufR] at hbf
      obtain ⟨h3,_,h5⟩:=hbf.2 trivial
      exact .inl ⟨none,h3,h5,fun _=>rfl⟩
     ·simp only [BufR] at hbf
      obtain ⟨a',cap,h5,h6,⟨o,ho⟩,h7,h8⟩:=hbf.2 trivial
      simp only [Value.slice.injEq,true_and] at h5
      obtain ⟨rfl,rfl⟩:=h5
      have hsz:b<w.heap.size:=hh.lt b ⟨id,_,hloc,rfl⟩
      have hno:=own_take_of hh hloc rfl hge
      refine .inr ⟨trivial,b,?_⟩
      by_cases hz:c=0
      ·have hn:len=0:=by omega
       subst hn
       refine ⟨o,c,[],by rw [ho],hc,hsz,hno,fun i v hv=>by simp at hv,?_⟩
       simp [VRs]
      ·refine ⟨base+off,c,((((cs.toList.drop base).take l.length).drop off).take (len*sz)),by rw [h7 hz],hc,hsz,hno,?_,?_⟩
       ·intro i v hv
        rw [List.getElem?_take] at hv
        split at hv
        ·rw [List.getElem?_drop,List.getElem?_take] at hv
         split at hv
         ·rw [List.getElem?_drop,Array.getElem?_toList] at hv
          rw [cell_of_heap h2,Nat.add_assoc];exact hv
         ·simp at hv
        ·simp at hv
       ·exact VRs.mapf hf _ _ hb ((h4.drop off).take (len*sz))
    ·simp [V.bel] at hb
   ·simp [V.bel] at hb
 | .ptr id ver off,v,hb,h=>by
  simp only [lndW] at hb ⊢
  split at hb
  ·exact VR.take _ _ hb h
  ·rename_i hlt
   have hge:m≤id:=Nat.le_of_not_lt fun h'=>by
    have:=Nat.ble_eq_true_of_le h'
    unfold Nat.blt at hlt
    rw [this] at hlt
    cases hlt
   split at hb
   ·rename_i v' l hg
    split at hb
    ·rename_i hv
     obtain rfl:=Nat.eq_of_beq_eq_true hv
     rw [bel_fp] at hb
     have hH:H[id]? = some (.cells v' l):=getO_eq hg (by simp)
     have hlt:=(List.getElem?_eq_some_iff.1 hH).1
     obtain ⟨loc,hloc⟩:∃loc,β[id]? = some loc:=⟨β[id]'(by rw [hh.len];exact hlt),List.getElem?_eq_getElem _⟩
     have hob:=hh.ob id loc _ hloc hH
     simp only [ObR] at hob
     simp only [VR] at h
     obtain ⟨_,hpf⟩:=h
     rw [hloc] at hpf
     simp only [VR]
     rcases hob with ⟨rfl,rfl⟩ | ⟨b,base,cs,ty,rfl,h2,h3,h4⟩
     ·simp only [PtrR] at hpf
      omega
     ·simp only [PtrR] at hpf
      have hp:=hpf.2 trivial
      have hsz:b<w.heap.size:=hh.lt b ⟨id,_,hloc,rfl⟩
      refine ⟨b,base+off,(((cs.toList.drop base).take l.length).drop off),hp,hsz,own_take_of hh hloc rfl hge,?_,VRs.mapf hf _ _ hb (h4.drop off)⟩
      intro i v hv
      rw [List.getElem?_drop,List.getElem?_take] at hv
      split at hv
      ·rw [List.getElem?_drop,Array.getElem?_toList] at hv
       rw [cell_of_heap h2,Nat.add_assoc];exact hv
      ·simp at hv
    ·simp [V.bel] at hb
   ·simp [V.bel] at hb
 | .agg vs,v,hb,h=>by
  simp only [lndW,bel_agg] at hb
  simp only [lndW,VR] at h ⊢
  obtain ⟨u,h1,h2⟩:=h
  exact ⟨u,h1,lndWs_VR hh m hf vs u hb h2⟩
 | .tup vs,v,hb,h=>by
  simp only [lndW,bel_tup] at hb
  simp only [lndW,VR] at h ⊢
  obtain ⟨u,h1,h2⟩:=h
  exact ⟨u,h1,lndWs_VR hh m hf vs u hb h2⟩
 | .ifc t x,v,hb,h=>by
  simp only [lndW,bel_ifc] at hb
  simp only [lndW,VR] at h ⊢
  obtain ⟨y,h1,h2⟩:=h
  exact ⟨y,h1,lndW_VR hh m hf x y hb h2⟩
 | .fn f a b,v,hb,h=>by
  simp only [lndW,bel_fn,Bool.and_eq_true] at hb
  simp only [lndW,VR] at h ⊢
  obtain ⟨la,lb,h1,h2,h3⟩:=h
  exact ⟨la,lb,h1,lndWs_VR hh m hf a la hb.1 h2,lndWs_VR hh m hf b lb hb.2 h3⟩
 | .int a b,v,hb,h=>by simp only [lndW] at hb ⊢;exact VR.take _ _ hb h
 | .bool _,v,hb,h=>by simp only [lndW] at hb ⊢;exact VR.take _ _ hb h
 | .str _,v,hb,h=>by simp only [lndW] at hb ⊢;exact VR.take _ _ hb h
 | .nilp,v,hb,h=>by simp only [lndW] at hb ⊢;exact VR.take _ _ hb h
 | .nili,v,hb,h=>by simp only [lndW] at hb ⊢;exact VR.take _ _ hb h
 | .nilf,v,hb,h=>by simp only [lndW] at hb ⊢;exact VR.take _ _ hb h
 | .nilm,v,hb,h=>by simp only [lndW] at hb ⊢;exact VR.take _ _ hb h
 | .raw _,v,hb,h=>by simp only [lndW] at hb ⊢;exact VR.take _ _ hb h
 | .mp id,v,hb,h=>by
  simp only [lndW] at hb ⊢
  split
  ·rename_i hlt
   rw [hlt] at hb
   exact VR.take _ _ hb h
  ·simp only [VR]
 | .sl _ _ _,v,hb,h=>by simp only [lndW] at hb ⊢;exact VR.take _ _ hb h
 | .fp _,v,hb,h=>by simp only [lndW] at hb ⊢;exact VR.take _ _ hb h
 | .opt _ _,v,hb,h=>by simp only [lndW] at hb ⊢;exact VR.take _ _ hb h
 | .dead,v,hb,h=>by simp only [lndW,VR]
theorem lndWs_VR {f:V→V} (hh:HR O β w H) (m:Nat) (hf:∀(x:V) (v:Value),(f x).bel m=true→VR (Own O β) w β x v→VR (Own O (β.take m)) w (β.take m) (f x) v):∀(xs:List V) (vs:List Value),belAll m (lndWs f m H xs)=true→VRs (Own O β) w β xs vs→VRs (Own O (β.take m)) w (β.take m) (lndWs f m H xs) vs
 | [],[],_,_=>by simp only [lndWs,VRs]
 | x::xs,y::ys,hb,h=>by
  simp only [lndWs,belAll_cons,Bool.and_eq_true] at hb
  simp only [lndWs,VRs] at h ⊢
  exact ⟨lndW_VR hh m hf x y hb.1 h.1,lndWs_VR hh m hf xs ys hb.2 h.2⟩
 | [],_::_,_,h=>by simp only [VRs] at h
 | _::_,[],_,h=>by simp only [VRs] at h
end
theorem lnds_VR (hh:HR O β w H) (m:Nat) (xs:List V) (vs:List Value) (hb:belAll m (lnds m H xs)=true) (h:VRs (Own O β) w β xs vs):VRs (Own O (β.take m)) w (β.take m) (lnds m H xs) vs :=
 lndWs_VR hh m (fun _ _ h1 h2=>VR.take _ _ h1 h2) xs vs hb h
theorem lnds1_VR (hh:HR O β w H) (m:Nat) (xs:List V) (vs:List Value) (hb:belAll m (lnds1 m H xs)=true) (h:VRs (Own O β) w β xs vs):VRs (Own O (β.take m)) w (β.take m) (lnds1 m H xs) vs :=
 lndWs_VR hh m (fun x v h1 h2=>lndW_VR hh m (fun _ _ h1 h2=>VR.take _ _ h1 h2) x v h1 h2) xs vs hb h
theorem GCall.lendW {n:Nat} {args:List V} {v:V} {G G':List Ob} (K:List Ob) {args':List V} (hA:∀(O:Nat→Prop) (β:List Pl) (w:World) (vals:List Value),HR O β w (G++K)→VRs (Own O β) w β args vals→VRs (Own O (β.take G.length)) w (β.take G.length) args' vals) (h0:GCall P n args' G v G') (hl:G'.length=G.length) (hb:belObs G.length G=true)
  (hv:v.bel G.length=true) (hvp:v.pur=true) (hb':belObs G.length G'=true) (hp:pursO G'=true):GCall P n args (G++K) v (G'++K):=by
 refine ⟨h0.1,fun O β w vals hh hva=>?_⟩
 have hlen:=hh.len
 rw [List.length_append] at hlen
 have hG:=HR.take hh hb
 refine (h0.2 O _ w vals hG (hA O β w vals hh hva)).mono ?_
 rintro e w' ⟨u,β1,rfl,g1,g2,g3⟩
 have hl1:β1.length=G.length:=by rw [g1.len,hl]
 obtain ⟨β2,hβ2⟩:∃β2,β2=β1++β.drop G.length:=⟨_,rfl⟩
 have hlow:∀i,i<G.length→β2[i]? = β1[i]?:=fun i hi=>by rw [hβ2,List.getElem?_append_left (by omega)]
 have hhigh:∀i,G.length≤i→β2[i]? = β[i]?:=fun i hi=>by
  rw [hβ2,List.getElem?_append_right (by omega),List.getElem?_drop,hl1]
  congr 1;omega
 have hlt1:∀i l,β1[i]? = some l→i<G.length:=fun i l h=>by
  have:=(List.getElem?_eq_some_iff.1 h).1;omega
 have hkeep:∀b,b<w.heap.size→¬InB (β.take G.length) b→w'.heap[b]? = w.heap[b]?:=g3.keep
 have htake:∀b,InB (β.take G.length) b→InB β b:=by
  rintro b ⟨i,l,h1,h2⟩
  rw [List.getElem?_take] at h1
  split at h1
  ·exact ⟨i,l,h1,h2⟩
  ·simp at h1
 have he:Ext β w β2 w':=by
  refine ⟨g3.size,fun b hb hn=>hkeep b hb (fun h=>hn (htake b h)),g3.os,g3.tape,g3.output,?_,?_⟩
  ·rintro b ⟨i,l,h1,h2⟩
   by_cases hi:i<G.length
   ·rw [hlow i hi] at h1
    exact (g3.fresh b ⟨i,l,h1,h2⟩).imp (htake b) id
   ·rw [hhigh i (by omega)] at h1
    exact .inl ⟨i,l,h1,h2⟩
  ·intro i l hi
   by_cases hig:i<G.length
   ·rw [hlow i hig]
    exact g3.loc i l (by rw [List.getElem?_take_of_lt hig];exact hi)
   ·rw [hhigh i (by omega),hi];exact l.le_refl
 have hin2:∀b,InB β2 b→InB β1 b∨∃i l,G.length≤i∧β[i]? = some l∧l.block? = some b:=by
  rintro b ⟨i,l,h1,h2⟩
  by_cases hi:i<G.length
  ·rw [hlow i hi] at h1;exact .inl ⟨i,l,h1,h2⟩
  ·rw [hhigh i (by omega)] at h1;exact .inr ⟨i,l,by omega,h1,h2⟩
 refine ⟨u,β2,rfl,?_,VR.congr hlow v u hv (VR.pur v u hvp g2),he⟩
 have hmix:∀(i j:Nat) (l l':Pl) (b:Nat),β1[i]? = some l→l.block? = some b→G.length≤j→β[j]? = some l'→l'.block? = some b→False:=by
  intro i j l l' b h1 h2 h3 h4 h5
  rcases g3.fresh b ⟨i,l,h1,h2⟩ with ⟨i0,l0,h6,h7⟩ | h6
  ·rw [List.getElem?_take] at h6
   split at h6
   ·have:=hh.inj i0 j l0 l' b h6 h4 h7 h5
    omega
   ·simp at h6
  ·have:=hh.lt b ⟨j,l',h4,h5⟩
   omega
 refine ⟨by rw [hβ2,List.length_append,List.length_append,hl1,hl,List.length_drop];omega,?_,?_,?_,?_,g1.old,hh.glob.ext he⟩
 ·intro i loc o hi ho
  by_cases hig:i<G.length
  ·rw [hlow i hig] at hi
   rw [List.getElem?_append_left (by omega)] at ho
   have h1:=g1.ob i loc o hi ho
   have hpo:=pursO_get hp ho
   have hbo:=belObs_get hb' ho
   cases o with
   | unborn=>exact h1
   | dead=>exact h1
   | cells ver l =>
    rw [belO_cells] at hbo
    simp only [Ob.pur] at hpo
    simp only [ObR] at h1 ⊢
    refine Or.imp (fun h=>h) ?_ h1
    rintro ⟨b,base,cs,ty,a1,a2,a3,a4⟩
    exact ⟨b,base,cs,ty,a1,a2,a3,VRs.congr hlow _ _ hbo (VRs.pur _ _ hpo a4)⟩
   | map es =>
    simp only [Ob.bel,Bool.and_eq_true] at hbo
    simp only [Ob.pur,Bool.and_eq_true] at hpo
    simp only [ObR] at h1 ⊢
    obtain ⟨b,en,clock,a1,a2,a3,a4⟩:=h1
    exact ⟨b,en,clock,a1,a2,VRs.congr hlow _ _ hbo.1 (VRs.pur _ _ hpo.1 a3),VRs.congr hlow _ _ hbo.2 (VRs.pur _ _ hpo.2 a4)⟩
  ·rw [hhigh i (by omega)] at hi
   have ho':(G++K)[i]? = some o:=by
    rw [List.getElem?_append_right (by omega)] at ho ⊢
    rw [←hl];exact ho
   have h0:=hh.ob i loc o hi ho'
   have hk2:∀b,loc.block? = some b→w'.heap[b]? = w.heap[b]?:=fun b hb2=>hkeep b (hh.lt b ⟨i,loc,hi,hb2⟩) (fun h=>own_take_of hh hi hb2 (by omega) (.inr h))
   cases o with
   | unborn=>exact h0
   | dead=>exact h0
   | cells ver l =>
    simp only [ObR] at h0 ⊢
    refine Or.imp (fun h=>h) ?_ h0
    rintro ⟨b,base,cs,ty,h1,h2,h3,h4⟩
    exact ⟨b,base,cs,ty,h1,by rw [hk2 b (by rw [h1];rfl)];exact h2,h3,VRs.ext he _ _ h4⟩
   | map es =>
    simp only [ObR] at h0 ⊢
    obtain ⟨b,en,clock,h1,h2,h3,h4⟩:=h0
    exact ⟨b,en,clock,h1,by rw [hk2 b (by rw [h1];rfl)];exact h2,VRs.ext he _ _ h3,VRs.ext he _ _ h4⟩
 ·intro i j l l' b h1 h2 h3 h4
  by_cases hi:i<G.length
  ·rw [hlow i hi] at h1
   by_cases hj:j<G.length
   ·rw [hlow j hj] at h2
    exact g1.inj i j l l' b h1 h2 h3 h4
   ·rw [hhigh j (by omega)] at h2
    exact (hmix i j l l' b h1 h3 (by omega) h2 h4).elim
  ·rw [hhigh i (by omega)] at h1
   by_cases hj:j<G.length
   ·rw [hlow j hj] at h2
    exact (hmix j i l' l b h2 h4 (by omega) h1 h3).elim
   ·rw [hhigh j (by omega)] at h2
    exact hh.inj i j l l' b h1 h2 h3 h4
 ·intro b hb2
  rcases hin2 b hb2 with h | ⟨i,l,_,h1,h2⟩
  ·exact g1.lt b h
  ·exact Nat.lt_of_lt_of_le (hh.lt b ⟨i,l,h1,h2⟩) g3.size
 ·intro b hb2 ho
  rcases hin2 b hb2 with h | ⟨i,l,_,h1,h2⟩
  ·exact g1.apart b h ho
  ·exact hh.apart b ⟨i,l,h1,h2⟩ ho
theorem GCall.lend {n:Nat} {args:List V} {v:V} {G G':List Ob} (K:List Ob) (h0:GCall P n (lnds G.length (G++K) args) G v G') (hl:G'.length=G.length) (ha:belAll G.length (lnds G.length (G++K) args)=true) (hb:belObs G.length G=true)
  (hv:v.bel G.length=true) (hvp:v.pur=true) (hb':belObs G.length G'=true) (hp:pursO G'=true):GCall P n args (G++K) v (G'++K) :=
 GCall.lendW K (fun _ _ _ vals hh hva=>lnds_VR hh _ args vals ha hva) h0 hl hb hv hvp hb' hp
mutual
theorem lndW_keeps {f f':V→V} {m:Nat} {H H':List Ob} (hk:Keeps H H') (hf:∀x,(f x).bel m=true→f' x=f x):∀(x:V),(lndW f m H x).bel m=true→lndW f' m H' x=lndW f m H x
 | .buf id ver off len sz,h=>by
  simp only [lndW] at h ⊢
  split at h
  ·rfl
  ·split at h
   ·rename_i v l hg
    rw [hk _ _ _ hg]
    simp only
    split at h
    ·rw [bel_sl] at h
     rw [List.map_congr_left fun x hx=>hf x (belAll_iff.1 h _ (List.mem_map_of_mem hx))]
    ·simp [V.bel] at h
   ·simp [V.bel] at h
 | .ptr id ver off,h=>by
  simp only [lndW] at h ⊢
  split at h
  ·rfl
  ·split at h
   ·rename_i v l hg
    rw [hk _ _ _ hg]
    simp only
    split at h
    ·rw [bel_fp] at h
     rw [List.map_congr_left fun x hx=>hf x (belAll_iff.1 h _ (List.mem_map_of_mem hx))]
    ·simp [V.bel] at h
   ·simp [V.bel] at h
 | .mp id,_=>by simp only [lndW]
 | .agg vs,h=>by
  simp only [lndW,bel_agg] at h
  simp only [lndW,lndWs_keeps hk hf vs h]
 | .tup vs,h=>by
  simp only [lndW,bel_tup] at h
  simp only [lndW,lndWs_keeps hk hf vs h]
 | .ifc t v,h=>by
  simp only [lndW,bel_ifc] at h
  simp only [lndW,lndW_keeps hk hf v h]
 | .fn n a b,h=>by
  simp only [lndW,bel_fn,Bool.and_eq_true] at h
  simp only [lndW,lndWs_keeps hk hf a h.1,lndWs_keeps hk hf b h.2]
 | .int _ _,_=>by simp only [lndW]
 | .bool _,_=>by simp only [lndW]
 | .str _,_=>by simp only [lndW]
 | .nilp,_=>by simp only [lndW]
 | .nili,_=>by simp only [lndW]
 | .nilf,_=>by simp only [lndW]
 | .nilm,_=>by simp only [lndW]
 | .raw _,_=>by simp only [lndW]
 | .sl _ _ _,_=>by simp only [lndW]
 | .fp _,_=>by simp only [lndW]
 | .opt _ _,_=>by simp only [lndW]
 | .dead,_=>by simp only [lndW]
theorem lndWs_keeps {f f':V→V} {m:Nat} {H H':List Ob} (hk:Keeps H H') (hf:∀x,(f x).bel m=true→f' x=f x):∀(xs:List V),belAll m (lndWs f m H xs)=true→lndWs f' m H' xs=lndWs f m H xs
 | [],_=>by simp only [lndWs]
 | x::xs,h=>by
  simp only [lndWs,belAll_cons,Bool.and_eq_true] at h
  simp only [lndWs,lndW_keeps hk hf x h.1,lndWs_keeps hk hf xs h.2]
end
theorem lnds1_keeps {m:Nat} {H H':List Ob} (hk:Keeps H H') {xs:List V} (h:belAll m (lnds1 m H xs)=true):lnds1 m H' xs=lnds1 m H xs :=
 lndWs_keeps hk (fun x hx=>lndW_keeps hk (fun _ _=>rfl) x hx) xs h
theorem PC.lend1 {n:Nat} {args:List V} {v:V} (H:List Ob) (h:PC P n (lnds1 0 H args) v) (ha:belAll 0 (lnds1 0 H args)=true) (hv:v.bel 0=true) (hvp:v.pur=true):GCall P n args H v H :=
 GCall.lendW (G:=[]) (G':=[]) H (fun _ _ _ vals hh hva=>lnds1_VR hh 0 args vals ha hva) (h []) rfl rfl hv hvp rfl rfl
theorem callG.lend1 {g:Bool} {n:Nat} {args a b:List V} {v:V} {KG:V→Prop} (h:g=true→PC P n (lnds1 0 H (a++args++b)) v) (ha:g=true→belAll 0 (lnds1 0 H (a++args++b))=true) (hv:v.bel 0=true) (hvp:v.pur=true)
  (k:KG v):callG P g (.fn (.func n) a b) args H KG:=by
 refine ⟨v,fun hg H' hk=>.inl ?_,k⟩
 have e:=lnds1_keeps hk (ha hg)
 exact PC.lend1 H' (by rw [e];exact h hg) (by rw [e];exact ha hg) hv hvp
theorem callO.lend1 {n:Nat} {args a b:List V} {v:V} {KV:V→List Ob→Prop} (h:PC P n (lnds1 0 H (a++args++b)) v) (ha:belAll 0 (lnds1 0 H (a++args++b))=true) (hv:v.bel 0=true) (hvp:v.pur=true)
  (k:KV v H):callO P (.fn (.func n) a b) args H KV:=⟨v,H,.inl (PC.lend1 H h ha hv hvp),k⟩
theorem callO.lend {n:Nat} {args a b:List V} {v:V} {G G':List Ob} {KV:V→List Ob→Prop} (K:List Ob) (h:GCall P n (lnds G.length H (a++args++b)) G v G') (hH:H=G++K) (hl:G'.length=G.length)
  (ha:belAll G.length (lnds G.length H (a++args++b))=true) (hb:belObs G.length G=true) (hv:v.bel G.length=true) (hvp:v.pur=true) (hb':belObs G.length G'=true) (hp:pursO G'=true)
  (k:KV v (G'++K)):callO P (.fn (.func n) a b) args H KV:=by
 subst hH
 exact ⟨_,_,.inl (GCall.lend K h hl ha hb hv hvp hb' hp),k⟩
end
end Go.Vm

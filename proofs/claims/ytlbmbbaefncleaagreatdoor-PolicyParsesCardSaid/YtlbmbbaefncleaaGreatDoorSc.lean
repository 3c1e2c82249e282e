/-
  Joined by a program from the texts Vm3.
-/
import Derived.Test.YtlbmbbaefncleaaGreatDoorSb
import Derived.IntWalk
set_option linter.all false
namespace Go.Vm
variable [GlobTab]
def ofScal:Value→V
 | .bool b=>.bool b
 | .int k n=>.int k n
 | .string s=>.str s.data.toList
 | .pointer none=>.nilp
 | .slice none 0 0=>.sl true [] 0
 | .map none=>.nilm
 | .nilFunc=>.nilf
 | .nilIface=>.nili
 | _=>.dead
def ofConst:Value→V
 | .agg cs=>.agg (cs.toList.map ofScal)
 | v=>ofScal v
def getT:List V→Nat→V
 | [],_=>.dead
 | x::_,0=>x
 | _::xs,n+1=>getT xs n
def putT:List V→Option Nat→V→List V
 | xs,none,_=>xs
 | [],some _,_=>[]
 | _::xs,some 0,v=>v::xs
 | x::xs,some (n+1),v=>x::putT xs (some n) v
def evT (tm:List V):Operand→V
 | .tmp t=>getT tm t
 | .const v=>ofConst v
 | .global g=>match GlobTab.gl g with | some l=>.fp (glV l) | none=>.dead
 | .func f=>.fn (.func f) [] []
def V.st:V→V
 | .opt _ v=>v
 | v=>v
def optSide (g:Bool):List V→Prop→Prop
 | [],p=>p
 | .opt g' _::xs,p=>(g=true→g'=true)∧optSide g xs p
 | _::xs,p=>optSide g xs p
def Res.thenSame (r:Res) (H:List Ob) (K:V→Prop):Prop :=
 match r with
 | .ok v H'=>H'=H∧K v
 | .need p v H'=>H'=H∧p∧K v
 | .bad=>False
def pkB (g:Bool) (x:V) (K:V→Prop):Prop:=match x.st with | .bool p=>optSide g [x] (K (.bool p)) | _=>False
def pickR (g:Bool) (args:List V) (K:V→Prop):Prop :=
 match args with
 | [c,x,y] =>
  match c.st with
  | .bool b=>optSide g [c] ((b=true→pkB g x K)∧(b=false→pkB g y K))
  | _=>False
 | _=>False
def gw (want b:Bool):Bool:=match want with | true=>b | false=>!b
def gval (ops:List Oper) (tm:List V) (j:Nat) (want:Bool):Option Bool :=
 match ops[j]? with
 | some o=>match o.dst with
  | some d=>match getT tm d with
   | .bool b=>some (gw want b)
   | .opt g (.bool b)=>some (g&&gw want b)
   | .opt false .dead=>some false
   | _=>none
  | none=>none
 | none=>none
def GCall (P:Program) (n:Nat) (args:List V) (H:List Ob) (v:V) (H':List Ob):Prop :=
 (∀(vals:Array Value) (w:World),(callFunc n vals).run P w=.ok (.enter n vals) w) ∧
 ∀(O:Nat→Prop) (β:List Pl) (w:World) (vals:List Value),HR O β w H→VRs (Own O β) w β args vals →
  Calls P n vals.toArray w (fun e w'=>∃u β',e=.returned u∧HR O β' w' H'∧VR (Own O β') w' β' v u∧Ext β w β' w')
def XCall (P:Program) (n:Nat) (args:List V) (v:V):Prop :=
 ∀(own:Nat→Prop) (w:World) (β:List Pl) (vals:List Value),VRs own w β args vals→∃u,(callFunc n vals.toArray).run P w=.ok (.value u) w∧VR own w β v u
def ACall (P:Program) (f:V) (args:List V) (H:List Ob) (v:V) (H':List Ob):Prop :=
 match f with
 | .fn (.func n) a b=>GCall P n (a++args++b) H v H'∨(H'=H∧XCall P n (a++args++b) v)
 | _=>False
def Keeps (H H':List Ob):Prop:=∀(i ver:Nat) (l:List V),getO H i=.cells ver l→getO H' i=.cells ver l
theorem Keeps.refl (H:List Ob):Keeps H H:=fun _ _ _ h=>h
def MethAt (P:Program) (t:Nat) (name:String) (n:Nat):Prop :=
 ∀(v:Value) (args:Array Value) (w:World),(callMethod (.iface t v) name args).run P w=(callFunc n (#[v]++args)).run P w
def ICall (P:Program) (f:V) (name:String) (args:List V) (H:List Ob) (v:V) (H':List Ob):Prop :=
 match f with
 | .ifc t x=>∃n,MethAt P t name n∧ACall P (.fn (.func n) [] []) (x::args) H v H'
 | _=>False
def isEff (ef:List Nat) (o:Oper):Bool :=
 match o.op with
 | .alloc _=>true
 | .box _ _=>true
 | .makeSlice _ _ _=>true
 | .store _ _ _=>true
 | .makeMap _ _=>true
 | .mapUpdate _ _ _ _=>true
 | .insert _ _ _ _=>true
 | .call c=>match c.callee with
  | .builtin .len=>false
  | .builtin .min=>false
  | .builtin .max=>false
  | .builtin _=>true
  | _=>memN ef o.dst
 | _=>false
def runO (P:Program) (tt:Nat→TI) (cfg:Cfg) (o:Oper) (args:List V) (H:List Ob) (K:V→List Ob→Prop):Prop :=
 match o.op with
 | .pick _ _ _=>pickR true args fun v=>K v H
 | .call c=>match c.callee with
  | .builtin _=>optSide true args ((opR tt cfg.lv o.dst o.op (args.map V.st) true H.length H).then K)
  | .value _=>match args with
   | f::rest=>optSide true args (∃v H',ACall P f.st (rest.map V.st) H v H'∧K v H')
   | []=>False
  | .invoke _ name=>match args with
   | f::rest=>optSide true args (∃v H',ICall P f.st name (rest.map V.st) H v H'∧K v H')
   | []=>False
 | _=>optSide true args ((opR tt cfg.lv o.dst o.op (args.map V.st) true H.length H).then K)
def frz:Bool→V→Prop
 | false,_=>True
 | true,.fp _=>True
 | true,_=>False
def ksK:Option (List Nat)→Bool→V→Prop
 | none,b,a=>frz b a
 | some _,true,a=>frz true a
 | some l,false,a=>match a with | .ptr id _ _=>memN l (some id)=true | .fp _=>True | _=>False
theorem ksK_true {ks:Option (List Nat)} {a:V} (h:ksK ks true a):frz true a:=by cases ks<;>exact h
def frzL (ks:Option (List Nat)) (b:Bool):List V→Prop
 | [a]=>ksK ks b a.st
 | _=>True
def runG (P:Program) (tt:Nat→TI) (cfg:Cfg) (o:Oper) (g:Bool) (args:List V) (H:List Ob) (K:V→Prop):Prop :=
 match o.op with
 | .pick _ _ _=>pickR g args K
 | .call c=>match c.callee with
  | .builtin _=>optSide g args ((opR tt cfg.lv o.dst o.op (args.map V.st) g H.length H).thenSame H K)
  | .value _=>match args with
   | f::rest=>optSide g args (∃v,(g=true→∀H',Keeps H H'→ACall P f.st (rest.map V.st) H' v H')∧K v)
   | []=>False
  | .invoke _ _=>False
 | .load _ _=>optSide g args (frzL cfg.ks (memN cfg.fl o.dst) args∧(opR tt cfg.lv o.dst o.op (args.map V.st) g H.length H).thenSame H K)
 | _=>optSide g args ((opR tt cfg.lv o.dst o.op (args.map V.st) g H.length H).thenSame H K)
def evOp (P:Program) (tt:Nat→TI) (cfg:Cfg) (ops:List Oper) (o:Oper) (tm:List V) (H:List Ob) (K:List V→List Ob→Prop):Prop :=
 match o.guard with
 | none=>runO P tt cfg o ((opnds o.op).map (evT tm)) H fun v H'=>K (putT tm o.dst v) H'
 | some (j,want) =>
  match gval ops tm j want with
  | none=>False
  | some g=>(g=true→runO P tt cfg o ((opnds o.op).map (evT tm)) H fun v H'=>K (putT tm o.dst (.opt true v)) H')∧(g=false→K (putT tm o.dst (.opt false .dead)) H)
def evOps (P:Program) (tt:Nat→TI) (cfg:Cfg) (ops:List Oper):List Oper→List V→List Ob→(List V→List Ob→Prop)→Prop
 | [],tm,H,K=>K tm H
 | o::rest,tm,H,K=>evOp P tt cfg ops o tm H fun tm' H'=>evOps P tt cfg ops rest tm' H' K
section
variable {O:Nat→Prop} {β:List Pl} {w:World} {H:List Ob} {P:Program} {tt:Nat→TI} {cfg:Cfg}
theorem ofScal_sound {own:Nat→Prop} (v:Value):VR own w β (ofScal v) v:=by
 cases v with
 | pointer a=>cases a<;>simp [ofScal,VR]
 | map a=>cases a<;>simp [ofScal,VR]
 | slice a n c =>
  cases a with
  | none =>
   cases n with
   | zero=>cases c<;>simp [ofScal,VR]
   | succ n=>simp [ofScal,VR]
  | some a=>simp [ofScal,VR]
 | _=>simp [ofScal,VR]
theorem ofConst_sound {own:Nat→Prop} (v:Value):VR own w β (ofConst v) v:=by
 cases v with
 | agg cs =>
  simp only [ofConst,VR]
  refine ⟨cs.toList,by simp,VRs.of_get (by simp) ?_⟩
  intro i x u hx hu
  rw [List.getElem?_map,hu] at hx
  simp at hx
  rw [←hx];exact ofScal_sound u
 | _=>simp only [ofConst];exact ofScal_sound _
theorem getT_sound {own:Nat→Prop}:∀ {tm:List V} {vs:List Value} (t:Nat),VRs own w β tm vs→VR own w β (getT tm t) (vs.getD t undef)
 | [],[],t,_=>by simp [getT,VR]
 | x::xs,v::vs,0,h=>by simp only [VRs] at h;simpa [getT] using h.1
 | x::xs,v::vs,t+1,h=>by simp only [VRs] at h;simpa [getT] using getT_sound t h.2
 | [],_::_,_,h=>by simp [VRs] at h
 | _::_,[],_,h=>by simp [VRs] at h
theorem putT_sound {own:Nat→Prop} {a:Act} {tm:List V} {x:V} {v:Value} (d:Option Nat) (h:VRs own w β tm a.tmps.toList) (hx:VR own w β x v) :
  VRs own w β (putT tm d x) (a.put d v).tmps.toList:=by
 cases d with
 | none=>simpa [putT,Act.put] using h
 | some d =>
  simp only [Act.put,Array.toList_setIfInBounds]
  have e:∀(tm:List V) (d:Nat),putT tm (some d) x=tm.set d x:=by
   intro tm
   induction tm with
   | nil=>intro d;cases d<;>rfl
   | cons y ys ih=>intro d;cases d<;>simp [putT,ih]
  rw [e]
  exact VRs.set d h hx
theorem glV_VRs {own:Nat→Prop}:∀(l:List (IntKind × Int)),VRs own w β (glV l) (l.map fun p=>Value.int p.1 p.2)
 | []=>by simp [glV,VRs]
 | p::l=>by
  have:=glV_VRs (own:=own) l
  simp only [glV] at this
  simp only [glV,List.map_cons,VRs,VR,true_and]
  exact this
theorem evT_sound {own:Nat→Prop} {a:Act} {tm:List V} (h:VRs own w β tm a.tmps.toList) (hgt:GT own w) (o:Operand):VR own w β (evT tm o) (a.eval o):=by
 cases o with
 | tmp t =>
  simp only [evT,Act.eval]
  have:=getT_sound t h
  have e:a.tmps.toList.getD t undef=a.tmps.getD t undef:=by simp [List.getD,Array.getElem?_toList]
  rwa [e] at this
 | const v=>exact ofConst_sound v
 | global g =>
  simp only [evT,Act.eval]
  split
  ·rename_i l hg
   obtain ⟨h1,h2,h3⟩:=hgt g l hg
   simp only [VR]
   exact ⟨g,0,_,rfl,h1,h2,h3,glV_VRs l⟩
  ·simp only [VR]
 | func f=>simp only [evT,Act.eval,VR];exact ⟨[],[],rfl,by simp [VRs],by simp [VRs]⟩
theorem evTs_sound {own:Nat→Prop} {a:Act} {tm:List V} (h:VRs own w β tm a.tmps.toList) (hgt:GT own w):∀(os:List Operand),VRs own w β (os.map (evT tm)) (os.map a.eval)
 | []=>by simp [VRs]
 | o::os=>by simp only [List.map_cons,VRs];exact ⟨evT_sound h hgt o,evTs_sound h hgt os⟩
theorem st_VR {own:Nat→Prop} {x:V} {v:Value} (h:VR own w β x v) (hg:∀g y,x=.opt g y→g=true):VR own w β x.st v:=by
 cases x<;>simp only [V.st]<;>try exact h
 simp only [VR] at h
 exact h.1 (hg _ _ rfl)
theorem optSide_true {g:Bool} (hg:g=true):∀ {xs:List V} {p:Prop},optSide g xs p→(∀x ∈ xs,∀g' y,x=.opt g' y→g'=true)∧p
 | [],p,h=>by simpa [optSide] using h
 | x::xs,p,h=>by
  cases x<;>simp only [optSide] at h
  case opt g' y =>
   obtain ⟨h1,h2⟩:=optSide_true hg h.2
   refine ⟨?_,h2⟩
   intro x hx g2 y2 he
   rcases List.mem_cons.1 hx with rfl | hx
   ·cases he;exact h.1 hg
   ·exact h1 x hx g2 y2 he
  all_goals
   obtain ⟨h1,h2⟩:=optSide_true hg h
   refine ⟨?_,h2⟩
   intro x hx g2 y2 he
   rcases List.mem_cons.1 hx with rfl | hx
   ·cases he
   ·exact h1 x hx g2 y2 he
theorem optSide_any {g:Bool}:∀ {xs:List V} {p:Prop},optSide g xs p→p
 | [],p,h=>by simpa [optSide] using h
 | x::xs,p,h=>by
  cases x<;>simp only [optSide] at h
  case opt=>exact optSide_any h.2
  all_goals exact optSide_any h
theorem st_VRs {own:Nat→Prop}:∀ {xs:List V} {vs:List Value},VRs own w β xs vs→(∀x ∈ xs,∀g y,x=.opt g y→g=true)→VRs own w β (xs.map V.st) vs
 | [],[],_,_=>by simp [VRs]
 | x::xs,v::vs,h,hg=>by
  simp only [VRs,List.map_cons] at h ⊢
  exact ⟨st_VR h.1 (hg x (by simp)),st_VRs h.2 (fun y hy=>hg y (by simp [hy]))⟩
 | [],_::_,h,_=>by simp [VRs] at h
 | _::_,[],h,_=>by simp [VRs] at h
def OpOK (P:Program) (O:Nat→Prop) (β:List Pl) (w:World) (o:Oper) (a:Act) (K:V→List Ob→Prop):Prop :=
 ∀(next:Act→World→Prop) (Q:Exit→Act→World→Prop),
  (∀x H' v β' w',K x H'→HR O β' w' H'→VR (Own O β') w' β' x v→Ext β w β' w'→next (a.put o.dst v) w')→o.wp P a w next Q
theorem OpOK.of_good2 {o:Oper} {a:Act} {K:V→List Ob→Prop} (h:Good2 O β w ((execOp a.eval o).run P w) K):OpOK P O β w o a K:=by
 intro next Q hn
 obtain ⟨v,w',h1,x,H',β',h2,h3,h4,h5⟩:=h
 unfold Oper.wp
 rcases h1 with h1 | ⟨h1,rfl⟩
 ·rw [h1];exact hn x H' v β' w' h2 h3 h4 h5
 ·rw [h1];exact hn x H' undef β' w' h2 h3 h4 h5
theorem OpOK.mono {o:Oper} {a:Act} {K K':V→List Ob→Prop} (h:OpOK P O β w o a K) (hk:∀x H,K x H→K' x H):OpOK P O β w o a K' :=
 fun next Q hn=>h next Q fun x H' v β' w' h1=>hn x H' v β' w' (hk _ _ h1)
theorem free_len:Free H H.length:=.inl rfl
theorem call_sound (hh:HR O β w H) {o:Oper} {a:Act} {c:Call} {fo:Operand} (ho:o.op=.call c) (hc:c.callee=.value fo) {f:V} {args:List V} {K:V→List Ob→Prop} {v:V} {H':List Ob}
  (hf:VR (Own O β) w β f (a.eval fo)) (hv:VRs (Own O β) w β args (c.args.toList.map a.eval)) (h:ACall P f args H v H') (hK:K v H'):OpOK P O β w o a K:=by
 intro next Q hn
 unfold ACall at h
 split at h
 ·rename_i n fa fb
  simp only [VR] at hf
  obtain ⟨la,lb,hfe,h1,h2⟩:=hf
  have hall:VRs (Own O β) w β (fa++args++fb) (la++c.args.toList.map a.eval++lb):=(h1.append hv).append h2
  have e:(la.toArray++c.args.map a.eval)++lb.toArray=(la++c.args.toList.map a.eval++lb).toArray:=by
   apply Array.ext';simp
  rcases h with h | ⟨rfl,h⟩
  case inr =>
   obtain ⟨u,hx,hu⟩:=h _ w β _ hall
   refine (OpOK.of_good2 ⟨u,w,.inl ?_,v,_,β,hK,hh,hu,Ext.refl β w⟩) next Q hn
   simp only [execOp,ho,resolve,hc,hfe,Deferred.ofValue,Sem.run_bind,Sem.run_pure,Result.andThen_ok,invoke,hx,e]
  obtain ⟨hcall,hg⟩:=h
  have hcalls:=hg O β w _ hh hall
  unfold Oper.wp
  have hr:(execOp a.eval o).run P w=.ok (.enter n (la++c.args.toList.map a.eval++lb).toArray) w:=by
   simp only [execOp,ho,resolve,hc,hfe,Deferred.ofValue,Sem.run_bind,Sem.run_pure,Result.andThen_ok,invoke,hcall,e]
  rw [hr]
  refine hcalls.mono ?_
  rintro e w' ⟨u,β',rfl,g1,g2,g3⟩
  exact hn v H' u β' w' hK g1 g2 g3
 ·exact h.elim
theorem icall_sound (hh:HR O β w H) {o:Oper} {a:Act} {c:Call} {fo:Operand} {name:String} (ho:o.op=.call c) (hc:c.callee=.invoke fo name) {f:V} {args:List V} {K:V→List Ob→Prop} {v:V} {H':List Ob}
  (hf:VR (Own O β) w β f (a.eval fo)) (hv:VRs (Own O β) w β args (c.args.toList.map a.eval)) (h:ICall P f name args H v H') (hK:K v H'):OpOK P O β w o a K:=by
 intro next Q hn
 unfold ICall at h
 split at h
 case h_2=>exact h.elim
 rename_i t x
 obtain ⟨n,hm,h⟩:=h
 simp only [VR] at hf
 obtain ⟨y,hfe,hy⟩:=hf
 have hall:VRs (Own O β) w β ([]++(x::args)++[]) (y::c.args.toList.map a.eval):=by
  rw [List.nil_append,List.append_nil]
  exact ⟨hy,hv⟩
 have e:(#[y]++c.args.map a.eval)=(y::c.args.toList.map a.eval).toArray:=by
  apply Array.ext';simp
 have e0:(#[Value.iface t y]++c.args.map a.eval)[0]? = some (Value.iface t y):=by rw [Array.getElem?_append_left (by simp)];rfl
 have e1:(#[Value.iface t y]++c.args.map a.eval).extract 1 (#[Value.iface t y]++c.args.map a.eval).size=c.args.map a.eval:=by
  apply Array.ext'
  simp
  exact List.take_of_length_le (by simp)
 have hrun:(execOp a.eval o).run P w=(callFunc n (y::c.args.toList.map a.eval).toArray).run P w:=by
  simp only [execOp,ho,resolve,hc,hfe,Sem.run_bind,Sem.run_pure,Result.andThen_ok,invoke,e0,e1]
  rw [hm,e]
 unfold ACall at h
 rcases h with h | ⟨rfl,h⟩
 case inr =>
  obtain ⟨u,hx,hu⟩:=h _ w β _ hall
  exact (OpOK.of_good2 ⟨u,w,.inl (hrun.trans hx),v,_,β,hK,hh,hu,Ext.refl β w⟩) next Q hn
 obtain ⟨hcall,hg⟩:=h
 have hcalls:=hg O β w _ hh hall
 unfold Oper.wp
 rw [hrun,hcall]
 refine hcalls.mono ?_
 rintro e w' ⟨u,β',rfl,g1,g2,g3⟩
 exact hn v H' u β' w' hK g1 g2 g3
theorem pick_sound (hh:HR O β w H) {o:Oper} {a:Act} {co xo yo:Operand} (ho:o.op=.pick co xo yo) {args:List V} {K:V→Prop}
  (hv:VRs (Own O β) w β args [a.eval co,a.eval xo,a.eval yo]) (h:pickR true args K):OpOK P O β w o a (fun v H'=>H'=H∧K v):=by
 match args,hv,h with
 | [c,x,y],hv,h =>
  simp only [VRs] at hv
  obtain ⟨h1,h2,h3,_⟩:=hv
  simp only [pickR] at h
  split at h
  ·rename_i b e1
   obtain ⟨g1,h⟩:=optSide_true rfl h
   have hc:=st_VR h1 (fun g y he=>g1 c (by simp) g y he)
   rw [e1] at hc
   simp only [VR] at hc
   refine OpOK.of_good2 ?_
   cases b with
   | true =>
    have h:=h.1 rfl
    unfold pkB at h
    split at h
    ·rename_i p e2
     obtain ⟨g2,h⟩:=optSide_true rfl h
     have hx:=st_VR h2 (fun g y he=>g2 x (by simp) g y he)
     rw [e2] at hx;simp only [VR] at hx
     exact ⟨.bool p,w,.inl (by simp [execOp,ho,hc,hx,asBool]),.bool p,H,β,⟨rfl,h⟩,hh,VR.mkBool,Ext.refl β w⟩
    ·exact h.elim
   | false =>
    have h:=h.2 rfl
    unfold pkB at h
    split at h
    ·rename_i q e3
     obtain ⟨g2,h⟩:=optSide_true rfl h
     have hy:=st_VR h3 (fun g z he=>g2 y (by simp) g z he)
     rw [e3] at hy;simp only [VR] at hy
     exact ⟨.bool q,w,.inl (by simp [execOp,ho,hc,hy,asBool]),.bool q,H,β,⟨rfl,h⟩,hh,VR.mkBool,Ext.refl β w⟩
    ·exact h.elim
  ·exact h.elim
theorem runO_sound (tok:TOK P tt) (hh:HR O β w H) {o:Oper} {a:Act} {args:List V} {K:V→List Ob→Prop} (hv:VRs (Own O β) w β args ((opnds o.op).map a.eval)) (h:runO P tt cfg o args H K):OpOK P O β w o a K:=by
 have gen:optSide true args ((opR tt cfg.lv o.dst o.op (args.map V.st) true H.length H).then K)→OpOK P O β w o a K:=by
  intro h
  obtain ⟨h1,h2⟩:=optSide_true rfl h
  exact OpOK.of_good2 (opR_sound tok hh free_len (st_VRs hv h1) h2)
 unfold runO at h
 split at h
 ·rename_i c x y e
  rw [e] at hv
  exact (pick_sound hh e hv h).mono fun v H' ⟨e,hk⟩=>e ▸ hk
 ·rename_i c e
  split at h
  ·exact gen h
  ·rename_i fo hc
   rw [e] at hv
   simp only [opnds,hc] at hv
   match args,hv,h with
   | f::rest,hv,h =>
    obtain ⟨h1,v,H',h2,h3⟩:=optSide_true rfl h
    simp only [List.cons_append,List.nil_append,List.map_cons,VRs] at hv
    exact call_sound hh e hc (st_VR hv.1 (fun g y he=>h1 f (by simp) g y he)) (st_VRs hv.2 (fun x hx=>h1 x (by simp [hx]))) h2 h3
  ·rename_i fo name hc
   rw [e] at hv
   simp only [opnds,hc] at hv
   match args,hv,h with
   | f::rest,hv,h =>
    obtain ⟨h1,v,H',h2,h3⟩:=optSide_true rfl h
    simp only [List.cons_append,List.nil_append,List.map_cons,VRs] at hv
    exact icall_sound hh e hc (st_VR hv.1 (fun g y he=>h1 f (by simp) g y he)) (st_VRs hv.2 (fun x hx=>h1 x (by simp [hx]))) h2 h3
 ·exact gen h
theorem thenSame_then {r:Res} {K:V→Prop} (h:r.thenSame H K):r.then (fun v H'=>H'=H∧K v):=by
 cases r<;>simp only [Res.thenSame,Res.then] at h ⊢
 ·exact h
 ·exact ⟨h.2.1,h.1,h.2.2⟩
theorem runG_true (tok:TOK P tt) (hh:HR O β w H) {o:Oper} {a:Act} {args:List V} {K:V→Prop} (hv:VRs (Own O β) w β args ((opnds o.op).map a.eval)) (h:runG P tt cfg o true args H K):OpOK P O β w o a (fun v H'=>H'=H∧K v):=by
 have gen:optSide true args ((opR tt cfg.lv o.dst o.op (args.map V.st) true H.length H).thenSame H K)→OpOK P O β w o a (fun v H'=>H'=H∧K v):=by
  intro h
  obtain ⟨h1,h2⟩:=optSide_true rfl h
  exact OpOK.of_good2 (opR_sound tok hh free_len (st_VRs hv h1) (thenSame_then h2))
 unfold runG at h
 split at h
 ·rename_i c x y e
  rw [e] at hv
  exact pick_sound hh e hv h
 ·rename_i c e
  split at h
  ·exact gen h
  ·rename_i fo hc
   rw [e] at hv
   simp only [opnds,hc] at hv
   match args,hv,h with
   | f::rest,hv,h =>
    obtain ⟨h1,v,h2,h3⟩:=optSide_true rfl h
    simp only [List.cons_append,List.nil_append,List.map_cons,VRs] at hv
    exact call_sound hh e hc (st_VR hv.1 (fun g y he=>h1 f (by simp) g y he)) (st_VRs hv.2 (fun x hx=>h1 x (by simp [hx]))) (h2 rfl H (Keeps.refl H)) ⟨rfl,h3⟩
  ·exact h.elim
 ·obtain ⟨h1,h2⟩:=optSide_true rfl h
  exact OpOK.of_good2 (opR_sound tok hh free_len (st_VRs hv h1) (thenSame_then h2.2))
 ·exact gen h
theorem gval_sound {ops:Array Oper} {a:Act} {tm:List V} (hv:VRs (Own O β) w β tm a.tmps.toList) {j:Nat} {want g:Bool} (h:gval ops.toList tm j want=some g) {o:Oper} (ho:o.guard=some (j,want)) :
  Region.wanted o (yielded ops a.tmps)=g:=by
 unfold gval at h
 split at h
 ·rename_i oj hj
  split at h
  ·rename_i d hd
   have hv:=getT_sound d hv
   simp only [Region.wanted,ho,yielded]
   rw [Array.getElem?_toList] at hj
   rw [hj]
   simp only [Option.bind_some,hd]
   have hget:∀u,(a.tmps.toList.getD d undef)=u→u≠undef→a.tmps[d]? = some u:=by
    intro u hu hne
    simp only [List.getD,Array.getElem?_toList] at hu
    cases hx:a.tmps[d]? with
    | none=>rw [hx] at hu;simp at hu;exact absurd hu.symm hne
    | some y=>rw [hx] at hu;simp at hu;rw [hu]
   split at h
   ·rename_i b hb
    rw [hb] at hv
    simp only [VR] at hv
    rw [hget _ hv (by simp [undef])]
    simp only [Option.some.injEq] at h
    subst h
    cases want<;>cases b<;>rfl
   ·rename_i g' b hb
    rw [hb] at hv
    simp only [VR] at hv
    simp only [Option.some.injEq] at h
    subst h
    cases g' with
    | true =>
     rw [hget _ (hv.1 rfl) (by simp [undef])]
     cases want<;>cases b<;>rfl
    | false =>
     have:=hv.2 rfl
     simp only [List.getD,Array.getElem?_toList] at this
     cases hx:a.tmps[d]? with
     | none=>rfl
     | some y =>
      rw [hx] at this;simp at this;subst this
      rfl
   ·rename_i hb
    rw [hb] at hv
    simp only [VR] at hv
    simp only [Option.some.injEq] at h
    subst h
    have:=hv.2 trivial
    simp only [List.getD,Array.getElem?_toList] at this
    cases hx:a.tmps[d]? with
    | none=>rfl
    | some y =>
     rw [hx] at this;simp at this;subst this
     rfl
   ·simp at h
  ·simp at h
 ·simp at h
theorem evOps_sound (tok:TOK P tt) {ops:Array Oper} {Q:Exit→S→Prop}:∀(l:List Oper) {tm:List V} {H:List Ob} {β0:List Pl} {w0:World} {β:List Pl} {a:Act} {w:World},
  Ext β0 w0 β w→SR O β a w ⟨tm,H⟩→evOps P tt cfg ops.toList l tm H (fun tm' H'=>Q .normal ⟨tm',H'⟩) →
  wpList P ops (fun e a' w'=>∃s' β',Q e s'∧SR O β' a' w' s'∧Ext β0 w0 β' w') l a w
 | [],tm,H,β0,w0,β,a,w,he,hs,h=>⟨⟨tm,H⟩,β,h,hs,he⟩
 | o::rest,tm,H,β0,w0,β,a,w,he,hs,h=>by
  have hv:=evTs_sound hs.tm hs.hp.glob (opnds o.op)
  have hdef:∀v,(a.put o.dst v).defers=[]:=fun v=>by
   have:=hs.defers
   cases hd:o.dst<;>simpa [Act.put,hd] using this
  -- what follows a value
  have fin:∀(wr:V→V) (K:V→List Ob→Prop),(∀own (w:World) β x v,VR own w β x v→VR own w β (wr x) v)→OpOK P O β w o a K →
    (∀x H',K x H'→evOps P tt cfg ops.toList rest (putT tm o.dst (wr x)) H' (fun tm' H'=>Q .normal ⟨tm',H'⟩)) →
    o.wp P a w (wpList P ops (fun e a' w'=>∃s' β',Q e s'∧SR O β' a' w' s'∧Ext β0 w0 β' w') rest) (fun e a' w'=>∃s' β',Q e s'∧SR O β' a' w' s'∧Ext β0 w0 β' w'):=by
   intro wr K hwr hk hr
   refine hk _ _ ?_
   intro x H' v β' w' hK h1 h2 h3
   exact evOps_sound tok rest (he.trans h3) ⟨hdef v,putT_sound o.dst (VRs.ext h3 _ _ hs.tm) (hwr _ _ _ _ _ h2),h1⟩ (hr x H' hK)
  have hopt:∀own (w:World) β x v,VR own w β x v→VR own w β (.opt true x) v:=fun own w β x v hx=>by
   simp only [VR];exact ⟨fun _=>hx,fun h=>by simp at h⟩
  have skip:∀x,evOps P tt cfg ops.toList rest (putT tm o.dst (.opt false x)) H (fun tm' H'=>Q .normal ⟨tm',H'⟩) →
    wpList P ops (fun e a' w'=>∃s' β',Q e s'∧SR O β' a' w' s'∧Ext β0 w0 β' w') rest (a.put o.dst undef) w:=fun x hk =>
   evOps_sound tok rest he ⟨hdef _,putT_sound o.dst hs.tm (by simp only [VR];exact ⟨fun h=>by simp at h,fun _=>trivial⟩),hs.hp⟩ hk
  simp only [evOps,evOp] at h
  unfold wpList
  split at h
  ·rename_i hg
   rw [if_pos (by simp [Region.wanted,hg])]
   exact .inl (fin id _ (fun _ _ _ _ _ h=>h) (runO_sound tok hs.hp hv h) fun x H' hk=>hk)
  ·rename_i j want hg
   split at h
   ·exact h.elim
   ·rename_i g hgv
    have hw:=gval_sound hs.tm hgv hg
    cases g with
     | true =>
      rw [if_pos hw]
      exact .inl (fin (.opt true) _ hopt (runO_sound tok hs.hp hv (h.1 rfl)) fun x H' hk=>hk)
     | false =>
      rw [if_neg (by rw [hw];simp)]
      exact skip _ (h.2 rfl)
end
end Go.Vm
namespace Go.Vm
variable [GlobTab]
def isE (cfg:Cfg) (o:Oper):Bool :=
 match o.op with
 | .buildSlice _ _ _=>memN cfg.lv o.dst
 | _=>isEff cfg.ef o
def isLd (o:Oper):Bool:=match o.op with | .load _ _=>true | _=>false
def isP0 (tt:Nat→TI) (cfg:Cfg) (o:Oper):Bool :=
 match o.op with
 | .move _=>true
 | .assign _=>true
 | .pick _ _ _=>true
 | .build _ _=>true
 | .buildSlice _ _ _=>!(memN cfg.lv o.dst)
 | .nilCheck _=>true
 | .binOp _ _ _ _ _=>true
 | .unOp _ _ _=>true
 | .convert s t _=>!(isBS tt (tt s) (tt t))
 | .makeInterface _ _=>true
 | .makeFunc _ _ _=>true
 | .fieldAddr _ _ _=>true
 | .field _ _ _=>true
 | .indexAddr _ _ _=>true
 | .index _ _ _=>true
 | .extract _ _=>true
 | .slice t _ _ _ _=>match (tt t).k with | .str=>true | .slice _=>true | _=>false
 | .call c=>match c.callee with
  | .builtin .min=>true
  | .builtin .max=>true
  | .builtin .len=>match c.argTypes.toList with | t::_=>(match (tt t).k with | .map _ _=>false | _=>true) | []=>true
  | _=>false
 | _=>false
def isP (tt:Nat→TI) (cfg:Cfg) (o:Oper):Bool:=isP0 tt cfg o||(isLd o&&memN cfg.fl o.dst)
def isA2 (o:Oper):Bool :=
 match o.op with
 | .alloc _=>o.dst.isSome
 | .box _ _=>o.dst.isSome
 | .makeSlice _ _ _=>o.dst.isSome
 | _=>false
def look:List (Nat × Nat)→Option Nat→Option Nat
 | _,none=>none
 | [],some _=>none
 | (d,i)::r,some n=>match Nat.beq d n with | true=>some i | false=>look r (some n)
def isUn:Ob→Prop
 | .unborn=>True
 | _=>False
def runA (tt:Nat→TI) (cfg:Cfg) (rs:List (Nat × Nat)) (o:Oper) (args:List V) (H:List Ob) (K:V→List Ob→Prop):Prop :=
 match look rs o.dst with
 | some i=>isUn (getO H i)∧optSide true args ((opR tt cfg.lv o.dst o.op (args.map V.st) true i H).then K)
 | none=>False
def isQ (o:Oper):Bool:=match o.op with | .call c=>(match c.callee with | .value _=>true | _=>false) | _=>false
def noUn:List Ob→Prop
 | []=>True
 | .unborn::_=>False
 | _::r=>noUn r
def isK (cfg:Cfg) (o:Oper):Bool:=match o.op with | .call c=>(match c.callee with | .value _=>true | .builtin .append=>memN cfg.em o.dst | _=>false) | _=>false
def runC (P:Program) (args:List V) (H:List Ob) (K:V→List Ob→Prop):Prop :=
 match args with
 | f::rest=>optSide true args (∃v J,noUn J∧(∀H',H'.length=H.length→Keeps H H'→ACall P f.st (rest.map V.st) H' v (H'++J))∧K v (H++J))
 | []=>False
def isC (cfg:Cfg) (o:Oper):Bool:=match isQ o with | true=>!(memN cfg.em o.dst) | false=>false
def KeepsC (ks:Option (List Nat)) (H H':List Ob):Prop :=
 match ks with
 | none=>Keeps H H'
 | some l=>∀(i ver:Nat) (cs:List V),memN l (some i)=true→getO H i=.cells ver cs→getO H' i=.cells ver cs
theorem KeepsC.of {ks:Option (List Nat)} {H H':List Ob} (h:Keeps H H'):KeepsC ks H H':=by
 cases ks with
 | none=>exact h
 | some l=>exact fun i ver cs _ hg=>h i ver cs hg
def keepE (ks:Option (List Nat)) (H:List Ob) (K:V→List Ob→Prop):V→List Ob→Prop:=fun v H'=>KeepsC ks H H'∧K v H'
def runX (P:Program) (tt:Nat→TI) (cfg:Cfg) (rs:List (Nat × Nat)) (o:Oper) (args:List V) (H:List Ob) (K:V→List Ob→Prop):Prop :=
 match isA2 o with
 | true=>runA tt cfg rs o args H K
 | false=>match isC cfg o with
  | true=>runC P args H K
  | false=>match isK cfg o with
   | true=>runO P tt cfg o args H (keepE cfg.ks H K)
   | false=>runO P tt cfg o args H K
def resv:List Oper→Nat→List (Nat × Nat)
 | [],_=>[]
 | o::r,n=>match isA2 o,o.dst with | true,some d=>(d,n)::resv r (n+1) | _,_=>resv r n
def unb:List Oper→List Ob
 | []=>[]
 | o::r=>match isA2 o,o.dst with | true,some _=>.unborn::unb r | _,_=>unb r
def evV (P:Program) (tt:Nat→TI) (cfg:Cfg) (rs:List (Nat × Nat)) (ops:List Oper) (o:Oper) (tm:List V) (H:List Ob) (K:V→List Ob→Prop):Prop :=
 match o.guard with
 | none =>
  match isE cfg o with
  | true=>runX P tt cfg rs o ((opnds o.op).map (evT tm)) H K
  | false=>runG P tt cfg o true ((opnds o.op).map (evT tm)) H fun v=>K v H
 | some (j,want) =>
  match gval ops tm j want with
  | none=>False
  | some g =>
   match isE cfg o with
   | false=>(g=true→runG P tt cfg o true ((opnds o.op).map (evT tm)) H fun v=>K (.opt true v) H)∧(g=false→K (.opt false .dead) H)
   | true=>(g=true→runX P tt cfg rs o ((opnds o.op).map (evT tm)) H fun v H'=>K (.opt true v) H')∧(g=false→K (.opt false .dead) H)
def evOpD (P:Program) (tt:Nat→TI) (cfg:Cfg) (rs:List (Nat × Nat)) (ops:List Oper) (o:Oper) (tm:List V) (H:List Ob) (K:List V→List Ob→Prop):Prop :=
 evV P tt cfg rs ops o tm H fun v H'=>K (putT tm o.dst v) H'
def evOpsD (P:Program) (tt:Nat→TI) (cfg:Cfg) (rs:List (Nat × Nat)) (ops:List Oper):List Oper→List V→List Ob→(List V→List Ob→Prop)→Prop
 | [],tm,H,K=>K tm H
 | o::rest,tm,H,K=>evOpD P tt cfg rs ops o tm H fun tm' H'=>evOpsD P tt cfg rs ops rest tm' H' K
section
variable {P:Program} {tt:Nat→TI} {cfg:Cfg} {rs:List (Nat × Nat)} {H:List Ob}
def Pt (A:(V→List Ob→Prop)→Prop) (v:V) (H':List Ob):Prop:=∀K:V→List Ob→Prop,K v H'→A K
def PtV (A:(V→Prop)→Prop) (v:V):Prop:=∀K:V→Prop,K v→A K
theorem then_pt {r:Res} {K:V→List Ob→Prop} (h:r.then K):∃v H',Pt (fun K=>r.then K) v H'∧K v H':=by
 cases r<;>simp only [Res.then] at h
 ·exact ⟨_,_,fun K hk=>hk,h⟩
 ·exact ⟨_,_,fun K hk=>⟨h.1,hk⟩,h.2⟩
theorem thenSame_pt {r:Res} {K:V→Prop} (h:r.thenSame H K):∃v,PtV (fun K=>r.thenSame H K) v∧K v:=by
 cases r<;>simp only [Res.thenSame] at h
 ·exact ⟨_,fun K hk=>⟨h.1,hk⟩,h.2⟩
 ·exact ⟨_,fun K hk=>⟨h.1,h.2.1,hk⟩,h.2.2⟩
theorem optSide_mk {g:Bool}:∀ {xs:List V} {p q:Prop},optSide g xs p→q→optSide g xs q
 | [],_,_,_,hq=>by simpa [optSide] using hq
 | x::xs,_,_,h,hq=>by
  cases x<;>simp only [optSide] at h ⊢
  case opt=>exact ⟨h.1,optSide_mk h.2 hq⟩
  all_goals exact optSide_mk h hq
theorem pickR_pt {g:Bool} {args:List V} {K:V→Prop} (h:pickR g args K):∃v,PtV (fun K=>pickR g args K) v∧K v:=by
 unfold pickR at h
 split at h
 ·rename_i c x y
  split at h
  ·rename_i b e1
   have h2:=optSide_any h
   have key:∀z:V,pkB g z K→∃v,PtV (fun K=>pkB g z K) v∧K v:=by
    intro z hz
    unfold pkB at hz
    split at hz
    ·rename_i p e2
     exact ⟨_,fun K hk=>by simp only [pkB,e2];exact optSide_mk hz hk,optSide_any hz⟩
    ·exact hz.elim
   cases b with
   | true =>
    obtain ⟨v,h3,h4⟩:=key x (h2.1 rfl)
    exact ⟨v,fun K hk=>by simp only [pickR,e1];exact optSide_mk h ⟨fun _=>h3 K hk,fun h=>by simp at h⟩,h4⟩
   | false =>
    obtain ⟨v,h3,h4⟩:=key y (h2.2 rfl)
    exact ⟨v,fun K hk=>by simp only [pickR,e1];exact optSide_mk h ⟨fun h=>by simp at h,fun _=>h3 K hk⟩,h4⟩
  ·exact h.elim
 ·exact h.elim
theorem runO_pt {o:Oper} {args:List V} {K:V→List Ob→Prop} (h:runO P tt cfg o args H K):∃v H',Pt (fun K=>runO P tt cfg o args H K) v H'∧K v H':=by
 have gen:∀ {K:V→List Ob→Prop},optSide true args ((opR tt cfg.lv o.dst o.op (args.map V.st) true H.length H).then K) →
   ∃v H',Pt (fun K=>optSide true args ((opR tt cfg.lv o.dst o.op (args.map V.st) true H.length H).then K)) v H'∧K v H':=by
  intro K h
  obtain ⟨v,H',h1,h2⟩:=then_pt (optSide_any h)
  exact ⟨v,H',fun K hk=>optSide_mk h (h1 K hk),h2⟩
 unfold runO at h ⊢
 split at h
 ·rename_i e
  obtain ⟨v,h1,h2⟩:=pickR_pt h
  exact ⟨v,H,fun K hk=>h1 (fun v=>K v H) hk,h2⟩
 ·rename_i c e
  split at h
  ·rename_i b hc
   obtain ⟨v,H',h1,h2⟩:=gen h
   exact ⟨v,H',fun K hk=>by simpa only [hc] using h1 K hk,h2⟩
  ·rename_i fo hc
   split at h
   ·rename_i f rest
    obtain ⟨v,H',h1,h2⟩:=optSide_any h
    exact ⟨v,H',fun K hk=>by simp only [hc];exact optSide_mk h ⟨v,H',h1,hk⟩,h2⟩
   ·exact h.elim
  ·rename_i fo nm hc
   split at h
   ·rename_i f rest
    obtain ⟨v,H',h1,h2⟩:=optSide_any h
    exact ⟨v,H',fun K hk=>by simp only [hc];exact optSide_mk h ⟨v,H',h1,hk⟩,h2⟩
   ·exact h.elim
 ·rename_i hne1 hne2
  obtain ⟨v,H',h1,h2⟩:=gen h
  refine ⟨v,H',fun K hk=>?_,h2⟩
  exact h1 K hk
theorem runG_pt {g:Bool} {o:Oper} {args:List V} {K:V→Prop} (h:runG P tt cfg o g args H K):∃v,PtV (fun K=>runG P tt cfg o g args H K) v∧K v:=by
 have gen:∀ {K:V→Prop},optSide g args ((opR tt cfg.lv o.dst o.op (args.map V.st) g H.length H).thenSame H K) →
   ∃v,PtV (fun K=>optSide g args ((opR tt cfg.lv o.dst o.op (args.map V.st) g H.length H).thenSame H K)) v∧K v:=by
  intro K h
  obtain ⟨v,h1,h2⟩:=thenSame_pt (optSide_any h)
  exact ⟨v,fun K hk=>optSide_mk h (h1 K hk),h2⟩
 unfold runG at h ⊢
 split at h
 ·exact pickR_pt h
 ·rename_i c e
  split at h
  ·rename_i b hc
   obtain ⟨v,h1,h2⟩:=gen h
   exact ⟨v,fun K hk=>by simpa only [hc] using h1 K hk,h2⟩
  ·rename_i fo hc
   split at h
   ·rename_i f rest
    obtain ⟨v,h1,h2⟩:=optSide_any h
    exact ⟨v,fun K hk=>by simp only [hc];exact optSide_mk h ⟨v,h1,hk⟩,h2⟩
   ·exact h.elim
  ·exact h.elim
 ·obtain ⟨hf,h2⟩:=optSide_any h
  obtain ⟨v,h3,h4⟩:=thenSame_pt h2
  exact ⟨v,fun K hk=>optSide_mk h ⟨hf,h3 K hk⟩,h4⟩
 ·rename_i hne1 hne2
  obtain ⟨v,h1,h2⟩:=gen h
  refine ⟨v,fun K hk=>?_,h2⟩
  exact h1 K hk
theorem runX_pt {o:Oper} {args:List V} {K:V→List Ob→Prop} (h:runX P tt cfg rs o args H K):∃v H',Pt (fun K=>runX P tt cfg rs o args H K) v H'∧K v H':=by
 unfold runX at h ⊢
 split at h
 ·unfold runA at h ⊢
  split at h
  ·obtain ⟨h0,h⟩:=h
   obtain ⟨v,H',h1,h2⟩:=then_pt (optSide_any h)
   exact ⟨v,H',fun K hk=>⟨h0,optSide_mk h (h1 K hk)⟩,h2⟩
  ·exact h.elim
 ·split at h
  ·unfold runC at h ⊢
   split at h
   ·obtain ⟨v,J,hu,ha,hk⟩:=optSide_any h
    exact ⟨v,H++J,fun K hk=>optSide_mk h ⟨v,J,hu,ha,hk⟩,hk⟩
   ·exact h.elim
  ·split at h
   ·obtain ⟨v,H',h1,h2,h3⟩:=runO_pt h
    exact ⟨v,H',fun K hk=>h1 (keepE cfg.ks H K) ⟨h2,hk⟩,h3⟩
   ·exact runO_pt h
theorem evV_pt {ops:List Oper} {o:Oper} {tm:List V} {K:V→List Ob→Prop} (h:evV P tt cfg rs ops o tm H K):∃x H',Pt (evV P tt cfg rs ops o tm H) x H'∧K x H':=by
 unfold evV at h ⊢
 split at h
 ·rename_i hg
  split at h
  ·obtain ⟨v,H',h1,h2⟩:=runX_pt h;exact ⟨v,H',h1,h2⟩
  ·obtain ⟨v,h1,h2⟩:=runG_pt h;exact ⟨v,H,fun K hk=>h1 (fun v=>K v H) hk,h2⟩
 ·rename_i j want hg
  split at h
  ·exact h.elim
  ·rename_i g hgv
   split at h
   ·rename_i hE
    cases g with
    | true =>
     obtain ⟨v,h1,h2⟩:=runG_pt (h.1 rfl)
     exact ⟨_,H,fun K hk=>by simp only [hgv,hE];exact ⟨fun _=>h1 (fun v=>K (.opt true v) H) hk,fun h=>by simp at h⟩,h2⟩
    | false=>exact ⟨_,H,fun K hk=>by simp only [hgv,hE];exact ⟨fun h=>by simp at h,fun _=>hk⟩,h.2 rfl⟩
   ·rename_i hE
    cases g with
    | true =>
     obtain ⟨v,H',h1,h2⟩:=runX_pt (h.1 rfl)
     exact ⟨_,H',fun K hk=>by simp only [hgv,hE];exact ⟨fun _=>h1 (fun v H'=>K (.opt true v) H') hk,fun h=>by simp at h⟩,h2⟩
    | false =>
     exact ⟨_,H,fun K hk=>by simp only [hgv,hE];exact ⟨fun h=>by simp at h,fun _=>hk⟩,h.2 rfl⟩
theorem evV_quiet {ops:List Oper} {o:Oper} {tm:List V} {x:V} {H':List Ob} (hE:isE cfg o=false) (h:Pt (evV P tt cfg rs ops o tm H) x H'):H'=H∧Pt (evV P tt cfg rs ops o tm H) x H:=by
 have h1:=h (fun y G=>y=x∧G=H') ⟨rfl,rfl⟩
 have h2:evV P tt cfg rs ops o tm H (fun y G=>(y=x∧G=H')∧G=H):=by
  unfold evV at h1 ⊢
  split at h1
  ·rw [hE] at h1 ⊢
   simp only at h1 ⊢
   obtain ⟨v,h3,h4⟩:=runG_pt h1
   exact h3 _ ⟨h4,trivial⟩
  ·split at h1
   ·exact h1.elim
   ·rename_i g hgv
    rw [hE] at h1
    simp only [hE] at h1 ⊢
    refine ⟨fun hg=>?_,fun hg=>⟨h1.2 hg,trivial⟩⟩
    obtain ⟨v,h3,h4⟩:=runG_pt (h1.1 hg)
    exact h3 _ ⟨h4,trivial⟩
 obtain ⟨y,G,h3,⟨h4,h5⟩,h6⟩:=evV_pt h2
 subst h4 h5 h6
 exact ⟨rfl,h3⟩
def Res.withH (r:Res) (H:List Ob):Res :=
 match r with
 | .ok v _=>.ok v H
 | .need p v _=>.need p v H
 | .bad=>.bad
theorem withH_same {r:Res} {H H2:List Ob} {K:V→Prop} (h:r.thenSame H K):(r.withH H2).thenSame H2 K:=by
 cases r<;>simp only [Res.thenSame,Res.withH] at h ⊢
 ·exact ⟨trivial,h.2⟩
 ·exact ⟨trivial,h.2⟩
theorem binR_H (t:TI) (op:BinOp) (x y:V) (g:Bool) (H H2:List Ob):binR t op x y g H2=(binR t op x y g H).withH H2:=by
 unfold binR
 repeat' split
 all_goals first | rfl | (simp_all;done)
theorem slR_H {t:TI} (ht:(match t.k with | .str=>true | .slice _=>true | _=>false)=true) (x:V) (lo hi mx:Option Int) (g:Bool) (H H2:List Ob) :
  slR tt t x lo hi mx g H2=(slR tt t x lo hi mx g H).withH H2:=by
 unfold slR
 repeat' split
 all_goals first | rfl | (simp_all;done)
theorem opR_H {o:Oper} (hp:isP0 tt cfg o=true) (args:List V) (g:Bool) (n n2:Nat) (H H2:List Ob) :
  opR tt cfg.lv o.dst o.op args g n2 H2=(opR tt cfg.lv o.dst o.op args g n H).withH H2:=by
 unfold isP0 at hp
 split at hp<;>(try (simp at hp;done))
 case h_17 =>
  rename_i t y lo hi mx e
  rw [e]
  unfold opR
  try simp only
  split
  ·unfold sliceR
   split<;>first | exact slR_H hp _ _ _ _ _ _ _ | rfl
  ·rfl
 case h_18 =>
  rename_i c e
  rw [e]
  split at hp<;>(try (simp at hp;done))
  all_goals
   rename_i hc
   unfold opR
   try simp only [hc]
   unfold builtinR
   split<;>(try rfl)<;>simp_all [lenT,lenR]
  all_goals (repeat' split)<;>first | rfl | (simp_all;done)
 case h_4 =>
  rename_i t ps e
  rw [e]
  unfold opR
  try simp only
  repeat' split
  all_goals first | rfl | (simp_all;done)
 case h_5 =>
  rename_i t n ps e
  have hm:memN cfg.lv o.dst=false:=by simpa using hp
  rw [e]
  unfold opR bSliceR
  simp only [hm]
  repeat' split
  all_goals first | rfl | (simp_all;done)
 case h_9 =>
  rename_i s t x e
  rw [e]
  have hb:isBS tt (tt s) (tt t)=false:=by simpa using hp
  unfold opR
  try simp only
  repeat' split
  all_goals first
   | rfl
   | (unfold convR;(repeat' split);all_goals first | rfl | (simp_all;done))
   | (simp_all;done)
 all_goals
  rename_i e
  rw [e]
  unfold opR
  try simp only
  repeat' split
  all_goals first
   | rfl
   | exact binR_H _ _ _ _ _ _ _
   | (unfold unR;(repeat' split);all_goals first | rfl | (simp_all;done))
   | (unfold convR;(repeat' split);all_goals first | rfl | (simp_all;done))
   | (unfold fldAR;(repeat' split);all_goals first | rfl | (simp_all;done))
   | (unfold fldR;(repeat' split);all_goals first | rfl | (simp_all;done))
   | (unfold idxAR;(repeat' split);all_goals first | rfl | (simp_all;done))
   | (unfold idxR;(repeat' split);all_goals first | rfl | (simp_all;done))
   | (simp_all;done)
end
end Go.Vm
namespace Go.Vm
variable [GlobTab]
def tmpsOf:List Operand→List Nat
  | []=>[]
  | .tmp t::r=>t::tmpsOf r
  | _::r=>tmpsOf r
def lkT (ops:List Oper) (o:Oper):List Nat :=
  match o.guard with
  | none=>tmpsOf (opnds o.op)
  | some (j,_)=>match ops[j]? with
    | some p=>match p.dst with
      | some d=>d::tmpsOf (opnds o.op)
      | none=>tmpsOf (opnds o.op)
    | none=>tmpsOf (opnds o.op)
def dstIn (d:Option Nat) (l:List Nat):Bool:=match d with | none=>false | some d=>l.any (Nat.beq d)
def dstEq (a b:Option Nat):Bool:=match a,b with | some a,some b=>Nat.beq a b | _,_=>false
def isAl (o:Oper):Bool :=
  match o.op with
  | .alloc _=>true
  | .box _ _=>true
  | .makeSlice _ _ _=>true
  | .call c=>match c.callee,c.args.toList with
    | .builtin .append,.const (.slice none 0 0)::_=>true
    | _,_=>false
  | _=>false
def isM (cfg:Cfg) (o:Oper):Bool :=
  match o.op with
  | .mapUpdate _ _ _ _=>true
  | .insert _ _ _ _=>true
  | .call c=>match c.callee with
    | .builtin .delete=>true
    | .builtin .append=>memN cfg.em o.dst
    | .value _=>true
    | _=>false
  | _=>false
def indep (tt:Nat→TI) (cfg:Cfg) (ops:List Oper) (x y:Oper):Bool :=
  !(dstIn x.dst (lkT ops y)) && !(dstIn y.dst (lkT ops x)) && !(dstEq x.dst y.dst) &&
  (match isE cfg x,isE cfg y with
   | true,true=>(isA2 x||isC cfg x)&&isA2 y
   | true,false=>isP tt cfg y
   | false,true=>isP tt cfg x||((isLd x||isQ x)&&isAl y)||((isLd x||(isQ x&&cfg.ks.isNone))&&isM cfg y)
   | false,false=>true)
def bnds (o:Oper):List Nat:=(o.after.toList.filter (Region.binds .any)).map (·.on)
def maskOf (acc:List Nat) (bs:List Nat):Nat:=bs.foldr (fun k m=>(2^k ||| acc.getD k 0) ||| m) 0
def setN:List Nat→Nat→Nat→List Nat
  | [],_,_=>[]
  | _::xs,0,v=>v::xs
  | x::xs,n+1,v=>x::setN xs n v
def mskL (ops:List Oper):List Nat→List Nat→List Nat
  | [],acc=>acc
  | i::r,acc=>mskL ops r (setN acc i (match ops[i]? with | some o=>maskOf acc (bnds o) | none=>0))
def inL (l:List Nat) (i:Nat):Bool:=l.any (Nat.beq i)
def drawGo (tt:Nat→TI) (cfg:Cfg) (ops:List Oper) (ms:List Nat):List Nat→List Nat→Bool
  | _,[]=>true
  | pre,i::r =>
    (match ops[i]? with
     | some o=>!(inL pre i)&&(bnds o).all (inL pre)&&Nat.beq (ms.getD i 0) (maskOf ms (bnds o)) &&
         pre.all fun j=>Nat.testBit (ms.getD i 0) j||(match ops[j]? with | some p=>indep tt cfg ops p o | none=>true)
     | none=>false)&&drawGo tt cfg ops ms (i::pre) r
def drawOKL (tt:Nat→TI) (cfg:Cfg) (ops:List Oper) (L:List Nat):Bool :=
  drawGo tt cfg ops (mskL ops L (List.replicate ops.length 0)) [] L&&(List.range ops.length).all (inL L)&&Nat.beq L.length ops.length
def drawOK (tt:Nat→TI) (cfg:Cfg) (ops:List Oper):Bool:=drawOKL tt cfg ops (List.range ops.length)
section
variable {P:Program} {tt:Nat→TI} {cfg:Cfg} {rs:List (Nat × Nat)} {H:List Ob} {O:Nat→Prop} {β:List Pl} {w:World}
theorem getT_putT_ne {x:V}:∀(tm:List V) (d t:Nat),d≠t→getT (putT tm (some d) x) t=getT tm t
  | [],_,_,_=>rfl
  | y::ys,0,0,h=>absurd rfl h
  | y::ys,0,t+1,_=>rfl
  | y::ys,d+1,0,_=>rfl
  | y::ys,d+1,t+1,h=>by simp only [putT,getT];exact getT_putT_ne ys d t (by omega)
theorem putT_comm {x y:V}:∀(tm:List V) (a b:Nat),a≠b→putT (putT tm (some a) x) (some b) y=putT (putT tm (some b) y) (some a) x
  | [],_,_,_=>rfl
  | z::zs,0,0,h=>absurd rfl h
  | z::zs,0,b+1,_=>rfl
  | z::zs,a+1,0,_=>rfl
  | z::zs,a+1,b+1,h=>by simp only [putT];rw [putT_comm zs a b (by omega)]
theorem putT_none {x:V} (tm:List V):putT tm none x=tm:=by cases tm<;>rfl
theorem putT_comm' {x y:V} (tm:List V) {a b:Option Nat} (h:dstEq a b=false):putT (putT tm a x) b y=putT (putT tm b y) a x:=by
  cases a with
  | none=>rw [putT_none,putT_none]
  | some a =>
    cases b with
    | none=>rw [putT_none,putT_none]
    | some b =>
      refine putT_comm tm a b ?_
      intro e;subst e
      simp [dstEq] at h
theorem evT_put {x:V} {tm:List V} {d:Option Nat}:∀ {os:List Operand},dstIn d (tmpsOf os)=false→os.map (evT (putT tm d x))=os.map (evT tm)
  | [],_=>rfl
  | o::os,h=>by
    have key:evT (putT tm d x) o=evT tm o∧dstIn d (tmpsOf os)=false:=by
      cases d with
      | none=>exact ⟨by cases tm<;>rfl,rfl⟩
      | some d =>
        cases o with
        | tmp t =>
          simp only [tmpsOf,dstIn,List.any_cons,Bool.or_eq_false_iff] at h
          refine ⟨?_,h.2⟩
          simp only [evT]
          refine getT_putT_ne tm d t ?_
          intro e;subst e;simp at h
        | _=>exact ⟨rfl,h⟩
    simp only [List.map_cons,key.1,evT_put key.2]
theorem gval_put {x:V} {tm:List V} {d:Option Nat} {ops:List Oper} {o:Oper} {j:Nat} {want:Bool} (ho:o.guard=some (j,want)) (h:dstIn d (lkT ops o)=false) :
    gval ops (putT tm d x) j want=gval ops tm j want:=by
  unfold gval
  cases hp:ops[j]? with
  | none=>rfl
  | some p =>
    cases hd:p.dst with
    | none=>simp only [hd]
    | some dp =>
      simp only [hd]
      have:getT (putT tm d x) dp=getT tm dp:=by
        cases d with
        | none=>cases tm<;>rfl
        | some d =>
          refine getT_putT_ne tm d dp ?_
          intro e;subst e
          simp [lkT,ho,hp,hd,dstIn] at h
      rw [this]
theorem lk_opnds {d:Option Nat} {ops:List Oper} {o:Oper} (h:dstIn d (lkT ops o)=false):dstIn d (tmpsOf (opnds o.op))=false:=by
  unfold lkT at h
  split at h
  · exact h
  · split at h
    · split at h
      · cases d with
        | none=>rfl
        | some d=>simp only [dstIn,List.any_cons,Bool.or_eq_false_iff] at h ⊢;exact h.2
      · exact h
    · exact h
theorem evV_put {x:V} {tm:List V} {d:Option Nat} {ops:List Oper} {o:Oper} (h:dstIn d (lkT ops o)=false):evV P tt cfg rs ops o (putT tm d x) H=evV P tt cfg rs ops o tm H:=by
  funext K
  unfold evV
  rw [evT_put (lk_opnds h)]
  split
  · rfl
  · rename_i j want hg
    rw [gval_put hg h]
theorem runG_H {o:Oper} (hp:isP tt cfg o=true) {g:Bool} {args:List V} {K:V→Prop} (H2:List Ob) (h:runG P tt cfg o g args H K):runG P tt cfg o g args H2 K:=by
  unfold isP at hp
  rw [Bool.or_eq_true] at hp
  rcases hp with hp | hp
  case inr =>
    rw [Bool.and_eq_true] at hp
    obtain ⟨hl,hm⟩:=hp
    unfold isLd at hl
    split at hl
    case h_2=>simp at hl
    rename_i t y e
    simp only [runG,e,hm] at h ⊢
    obtain ⟨hf,h2⟩:=optSide_any h
    refine optSide_mk h ⟨hf,?_⟩
    match args,hf,h2 with
    | [],_,h2=>exact h2.elim
    | [z],hf,h2 =>
      simp only [frzL] at hf
      replace hf:=ksK_true hf
      simp only [List.map_cons,List.map_nil] at h2 ⊢
      generalize z.st=zs at hf h2 ⊢
      cases zs<;>simp only [frz] at hf
      rename_i cs
      change (match ldT (tt t) with | true=>ldR (tt t) (.fp cs) g H | false=>.bad:Res).thenSame H K at h2
      change (match ldT (tt t) with | true=>ldR (tt t) (.fp cs) g H2 | false=>.bad:Res).thenSame H2 K
      cases hlt:ldT (tt t) with
      | true =>
        rw [hlt] at h2
        simpa [ldR,Res.thenSame] using h2
      | false=>rw [hlt] at h2;exact h2.elim
    | _::_::_,_,h2=>exact h2.elim
  unfold runG at h ⊢
  split at h
  · exact h
  · rename_i c e
    split at h
    · rename_i b hc
      try simp only [hc]
      refine optSide_mk h ?_
      rw [opR_H hp _ _ H.length H2.length H H2]
      exact withH_same (optSide_any h)
    · rename_i fo hc
      simp [isP0,e,hc] at hp
    · exact h.elim
  · rename_i t y e
    simp [isP0,e] at hp
  · refine optSide_mk h ?_
    rw [opR_H hp _ _ H.length H2.length H H2]
    exact withH_same (optSide_any h)
theorem evV_any {ops:List Oper} {o:Oper} {tm:List V} {x:V} (hE:isE cfg o=false) (hp:isP tt cfg o=true) (h:Pt (evV P tt cfg rs ops o tm H) x H) (H2:List Ob) :
    Pt (evV P tt cfg rs ops o tm H2) x H2:=by
  intro K hk
  have h1:=h (fun y G=>y=x∧G=H) ⟨rfl,rfl⟩
  unfold evV at h1 ⊢
  split at h1
  · rw [hE] at h1 ⊢
    simp only at h1 ⊢
    obtain ⟨v,h3,h4⟩:=runG_pt h1
    have:=runG_H hp H2 (h3 (fun v=>v=x) h4.1)
    obtain ⟨v2,h5,rfl⟩:=runG_pt this
    exact h5 _ hk
  · split at h1
    · exact h1.elim
    · rename_i g hgv
      rw [hE] at h1
      simp only [hE] at h1 ⊢
      refine ⟨fun hg=>?_,fun hg=>?_⟩
      · obtain ⟨v,h3,h4⟩:=runG_pt (h1.1 hg)
        have:=runG_H hp H2 (h3 (fun v=>V.opt true v=x) h4.1)
        obtain ⟨v2,h5,h6⟩:=runG_pt this
        exact h5 (fun v=>K (.opt true v) H2) (by rw [h6];exact hk)
      · rw [(h1.2 hg).1];exact hk
theorem getO_app {J:List Ob}:∀ {H:List Ob} {i ver:Nat} {l:List V},getO H i=.cells ver l→getO (H++J) i=.cells ver l
  | [],i,ver,l,h=>by simp [getO] at h
  | x::xs,0,ver,l,h=>by simpa [getO] using h
  | x::xs,i+1,ver,l,h=>by simp only [getO,List.cons_append] at h ⊢;exact getO_app h
theorem get_getO {i:Nat} {o:Ob}:∀ {H:List Ob},H[i]? = some o→getO H i=o:=by
  intro H h
  induction H generalizing i with
  | nil=>simp at h
  | cons x xs ih =>
    cases i with
    | zero=>simpa [getO] using h
    | succ i=>simp only [getO];exact ih (by simpa using h)
theorem getO_fill {nid id ver:Nat} {l:List V} {ob:Ob} (hf:Free H nid) (h:getO H id=.cells ver l):getO (place H nid ob) id=.cells ver l:=by
  have h1:=getO_eq h (by simp)
  apply get_getO
  rw [get_place hf.le]
  split
  · rename_i e
    subst e
    rcases hf with hf | hf
    · have:=(List.getElem?_eq_some_iff.1 h1).1;omega
    · rw [hf] at h1;simp at h1
  · exact h1
theorem ldR_fill {t:TI} {x:V} {g:Bool} {G:List Ob} {K:V→Prop} (hf:Keeps H G) (h:(ldR t x g H).thenSame H K):(ldR t x g G).thenSame G K:=by
  unfold ldR at h ⊢
  split at h
  · split at h
    · rename_i hg
      rw [hf _ _ _ hg]
      simpa [Res.thenSame] using h
    · exact h.elim
  · simpa [Res.thenSame] using h
  · exact h.elim
theorem ldR_fillC {t:TI} {x:V} {g b:Bool} {G:List Ob} {K:V→Prop} {ks:Option (List Nat)} (hx:ksK ks b x) (hf:KeepsC ks H G) (h:(ldR t x g H).thenSame H K):(ldR t x g G).thenSame G K:=by
  cases ks with
  | none=>exact ldR_fill hf h
  | some l =>
    unfold ldR at h ⊢
    split at h
    · rename_i id ver off
      split at h
      · rename_i hg
        cases b with
        | true=>exact absurd hx (by simp [ksK,frz])
        | false =>
          rw [hf _ _ _ hx hg]
          simpa [Res.thenSame] using h
      · exact h.elim
    · simpa [Res.thenSame] using h
    · exact h.elim
theorem keeps_place {nid:Nat} {ob:Ob} (hf:Free H nid):Keeps H (place H nid ob):=fun _ _ _ h=>getO_fill hf h
theorem evV_fill {ops:List Oper} {o:Oper} {tm:List V} {x:V} (hE:isE cfg o=false) (hp:(isLd o||isQ o)=true) (h:Pt (evV P tt cfg rs ops o tm H) x H) {G:List Ob} (hc:KeepsC cfg.ks H G) (hf:isQ o=true→Keeps H G) :
    Pt (evV P tt cfg rs ops o tm G) x G:=by
  have hr:∀ {g:Bool} {args:List V} {K:V→Prop},runG P tt cfg o g args H K→runG P tt cfg o g args G K:=by
    intro g args K h
    rw [Bool.or_eq_true] at hp
    rcases hp with hp | hp
    · unfold isLd at hp
      split at hp
      · rename_i t y e
        simp only [runG,e] at h ⊢
        refine optSide_mk h ⟨(optSide_any h).1,?_⟩
        have hz:=(optSide_any h).1
        have h:=(optSide_any h).2
        match args,hz,h with
        | [],_,h=>exact h.elim
        | [z0],hz,h =>
          simp only [frzL] at hz
          simp only [List.map_cons,List.map_nil] at h ⊢
          generalize z0.st=z at h hz ⊢
          change (match ldT (tt t) with | true=>ldR (tt t) z g H | false=>.bad:Res).thenSame H K at h
          change (match ldT (tt t) with | true=>ldR (tt t) z g G | false=>.bad:Res).thenSame G K
          cases hl:ldT (tt t) with
          | true=>rw [hl] at h;exact ldR_fillC hz hc h
          | false=>rw [hl] at h;exact h.elim
        | _::_::_,_,h=>exact h.elim
      · simp at hp
    · have hf:=hf hp
      unfold isQ at hp
      split at hp
      · rename_i c e
        split at hp
        · rename_i fo hc
          simp only [runG,e,hc] at h ⊢
          match args,h with
          | f::rest,h =>
            obtain ⟨v,h1,h2⟩:=optSide_any h
            exact optSide_mk h ⟨v,fun hg H' hk=>h1 hg H' fun i ver l hi=>hk i ver l (hf i ver l hi),h2⟩
          | [],h=>exact h.elim
        · simp at hp
      · simp at hp
  intro K hk
  have h1:=h (fun y G=>y=x∧G=H) ⟨rfl,rfl⟩
  unfold evV at h1 ⊢
  split at h1
  · rw [hE] at h1 ⊢
    simp only at h1 ⊢
    obtain ⟨v,h3,h4⟩:=runG_pt h1
    have:=hr (h3 (fun v=>v=x) h4.1)
    obtain ⟨v2,h5,rfl⟩:=runG_pt this
    exact h5 _ hk
  · split at h1
    · exact h1.elim
    · rename_i g hgv
      rw [hE] at h1
      simp only [hE] at h1 ⊢
      refine ⟨fun hg=>?_,fun hg=>?_⟩
      · obtain ⟨v,h3,h4⟩:=runG_pt (h1.1 hg)
        have:=hr (h3 (fun v=>V.opt true v=x) h4.1)
        obtain ⟨v2,h5,h6⟩:=runG_pt this
        exact h5 (fun v=>K (.opt true v) G) (by rw [h6];exact hk)
      · rw [(h1.2 hg).1];exact hk
theorem opAl {o:Oper} (ha:isAl o=true) {tm:List V} {nid:Nat} {K:V→List Ob→Prop} (h:(opR tt cfg.lv o.dst o.op (((opnds o.op).map (evT tm)).map V.st) true nid H).then K):∃v ob,K v (place H nid ob):=by
  have key:∀ {r:Res},r.then K→(∀v H',(r=.ok v H'∨∃p,r=.need p v H')→∃ob,H'=place H nid ob)→∃v ob,K v (place H nid ob):=by
    intro r hr hs
    cases r with
    | ok v H'=>obtain ⟨J,rfl⟩:=hs v H' (.inl rfl);exact ⟨v,J,hr⟩
    | need p v H'=>obtain ⟨J,rfl⟩:=hs v H' (.inr ⟨p,rfl⟩);exact ⟨v,J,hr.2⟩
    | bad=>exact hr.elim
  unfold isAl at ha
  split at ha
  · rename_i e he
    simp only [he] at h
    change (match (tt e).known,(tt e).zero.cok with | true,true=>Res.ok (.ptr nid 0 0) (place H nid (.cells 0 (tt e).zero.cells)) | _,_=>.bad:Res).then K at h
    split at h
    · exact ⟨_,_,h⟩
    · exact h.elim
  · rename_i e x he
    simp only [he] at h
    change (match (evT tm x).st.cok with | true=>Res.ok (.ptr nid 0 0) (place H nid (.cells 0 (evT tm x).st.cells)) | false=>.bad:Res).then K at h
    split at h
    · exact ⟨_,_,h⟩
    · exact h.elim
  · rename_i t x y he
    simp only [he] at h
    change (opR tt cfg.lv o.dst (.makeSlice t x y) [(evT tm x).st,(evT tm y).st] true nid H).then K at h
    generalize (evT tm x).st=a at h
    generalize (evT tm y).st=b at h
    cases a<;>try exact h.elim
    cases b<;>try exact h.elim
    rename_i k1 n1 k2 n2
    change (match (tt t).k with
      | .slice e=>match (tt e).known,(tt e).zero.cok with
        | true,true=>makeR (tt e) n1 n2 nid H
        | _,_=>.bad
      | _=>.bad:Res).then K at h
    split at h
    · split at h
      · exact ⟨_,_,h.2⟩
      · exact h.elim
    · exact h.elim
  · rename_i c he
    split at ha
    · rename_i rest hc hl
      simp only [he] at h
      refine key h ?_
      intro v H' hr
      have hop:(opnds (Op.call c)).map (evT tm)=.sl true [] 0::rest.map (evT tm):=by
        simp only [opnds,hc,hl,List.nil_append,List.map_cons]
        rfl
      rw [hop] at hr
      have happ:∀(te:TI) (x:V),(appR te (.sl true [] 0) x nid H=.ok v H'∨∃p,appR te (.sl true [] 0) x nid H=.need p v H')→∃ob,H'=place H nid ob:=by
        intro te x h
        unfold appR at h
        split at h
        · simp at h
        · simp only [reduceCtorEq,Res.need.injEq,false_or] at h
          obtain ⟨p,_,_,h⟩:=h
          exact ⟨_,h.symm⟩
      have hbi:∀(ats:List Nat) (as:List V),(builtinR tt .append ats (.sl true [] 0::as) nid H=.ok v H'∨∃p,builtinR tt .append ats (.sl true [] 0::as) nid H=.need p v H')→∃ob,H'=place H nid ob:=by
        intro ats as h
        match ats,as,h with
        | st::xt::r,[x],h =>
          change (appendR tt (tt st) (tt xt) (.sl true [] 0) x nid H=.ok v H'∨∃p,appendR tt (tt st) (tt xt) (.sl true [] 0) x nid H=.need p v H') at h
          unfold appendR at h
          split at h
          · split at h
            · split at h
              · exact happ _ _ h
              · exact happ _ _ h
              · unfold appZ at h
                split at h
                · simp only [reduceCtorEq,Res.need.injEq,false_or] at h
                  obtain ⟨p,_,_,h⟩:=h
                  exact ⟨_,h.symm⟩
                · simp at h
              · simp at h
            · simp at h
          · simp at h
        | [],_,h=>simp [builtinR] at h
        | [_],_,h=>simp [builtinR] at h
        | _::_::_,[],h=>simp [builtinR] at h
        | _::_::_,_::_::_,h=>simp [builtinR] at h
      have hco:∀as:List V,opR tt cfg.lv o.dst (.call c) as true nid H=builtinR tt .append c.argTypes.toList as nid H:=by
        intro as
        show (match c.callee with | .builtin b=>builtinR tt b c.argTypes.toList as nid H | _=>.bad)=_
        rw [hc]
      rw [hco] at hr
      exact hbi _ _ hr
    · simp at ha
  · simp at ha
theorem isUn_get {i:Nat} (h:isUn (getO H i)):H[i]? = some .unborn:=by
  cases hg:getO H i<;>rw [hg] at h
  · exact getO_eq hg (by simp)
  all_goals exact h.elim
theorem isUn_of {i:Nat} (h:H[i]? = some .unborn):isUn (getO H i):=by rw [get_getO h];trivial
theorem isUn_free {i:Nat} (h:isUn (getO H i)):Free H i:=.inr (isUn_get h)
theorem runX_al {o:Oper} (ha:isAl o=true) {tm:List V} {K:V→List Ob→Prop} (h:runX P tt cfg rs o ((opnds o.op).map (evT tm)) H K):∃v ob nid,Free H nid∧K v (place H nid ob):=by
  unfold runX at h
  split at h
  · unfold runA at h
    split at h
    · obtain ⟨h0,h⟩:=h
      obtain ⟨v,ob,hk⟩:=opAl ha (optSide_any h)
      exact ⟨v,ob,_,isUn_free h0,hk⟩
    · exact h.elim
  · have hnq:isQ o=false:=by
      cases hq:isQ o with
      | false=>rfl
      | true =>
        exfalso
        unfold isAl at ha
        unfold isQ at hq
        split at hq
        · rename_i c he
          rw [he] at ha
          simp only at ha
          split at hq
          · rename_i hc
            rw [hc] at ha
            simp at ha
          · simp at hq
        · simp at hq
    have hnc:isC cfg o=false:=by simp [isC,hnq]
    rw [hnc] at h
    simp only at h
    obtain ⟨K2,h,hK2⟩:∃K2:V→List Ob→Prop,runO P tt cfg o ((opnds o.op).map (evT tm)) H K2∧∀v H',K2 v H'→K v H':=by
      split at h
      · exact ⟨_,h,fun v H' hk=>hk.2⟩
      · exact ⟨K,h,fun v H' hk=>hk⟩
    have:∃v ob,K2 v (place H H.length ob):=by
      have ha2:=ha
      unfold isAl at ha2
      split at ha2
      · rename_i e he
        refine opAl (tt:=tt) (cfg:=cfg) ha (tm:=tm) ?_
        simp only [runO,he] at h ⊢
        exact optSide_any h
      · rename_i e x he
        refine opAl (tt:=tt) (cfg:=cfg) ha (tm:=tm) ?_
        simp only [runO,he] at h ⊢
        exact optSide_any h
      · rename_i t x y he
        refine opAl (tt:=tt) (cfg:=cfg) ha (tm:=tm) ?_
        simp only [runO,he] at h ⊢
        exact optSide_any h
      · rename_i c he
        split at ha2
        · rename_i rest hc hl
          refine opAl (tt:=tt) (cfg:=cfg) ha (tm:=tm) ?_
          simp only [runO,he,hc] at h ⊢
          exact optSide_any h
        · simp at ha2
      · simp at ha2
    obtain ⟨v,ob,hk⟩:=this
    exact ⟨v,ob,_,free_len,hK2 _ _ hk⟩
theorem evV_al {ops:List Oper} {o:Oper} {tm:List V} {x:V} {H1:List Ob} (hE:isE cfg o=true) (ha:isAl o=true) (h:Pt (evV P tt cfg rs ops o tm H) x H1):H1=H∨∃ob nid,Free H nid∧H1=place H nid ob:=by
  have h1:=h (fun y G=>y=x∧G=H1) ⟨rfl,rfl⟩
  unfold evV at h1
  split at h1
  · rw [hE] at h1
    obtain ⟨v,ob,nid,hf,_,h3⟩:=runX_al ha h1
    exact .inr ⟨ob,nid,hf,h3.symm⟩
  · split at h1
    · exact h1.elim
    · rename_i g hgv
      rw [hE] at h1
      simp only at h1
      cases g with
      | true =>
        obtain ⟨v,ob,nid,hf,_,h3⟩:=runX_al ha (h1.1 rfl)
        exact .inr ⟨ob,nid,hf,h3.symm⟩
      | false=>exact .inl (h1.2 rfl).2.symm
theorem opA2 {o:Oper} (ha:isA2 o=true) {as:List V} {i:Nat} {K:V→List Ob→Prop} (h:(opR tt cfg.lv o.dst o.op as true i H).then K) :
    ∃v ob,K v (place H i ob)∧∀(H2:List Ob) (K2:V→List Ob→Prop),K2 v (place H2 i ob)→(opR tt cfg.lv o.dst o.op as true i H2).then K2:=by
  unfold isA2 at ha
  split at ha
  · rename_i e he
    rw [he] at h ⊢
    match as,h with
    | [],h =>
      change (match (tt e).known,(tt e).zero.cok with | true,true=>Res.ok (.ptr i 0 0) (place H i (.cells 0 (tt e).zero.cells)) | _,_=>.bad:Res).then K at h
      split at h
      · rename_i e1 e2
        refine ⟨_,_,h,fun H2 K2 hk=>?_⟩
        change (match (tt e).known,(tt e).zero.cok with | true,true=>Res.ok (.ptr i 0 0) (place H2 i (.cells 0 (tt e).zero.cells)) | _,_=>.bad:Res).then K2
        rw [e1,e2]
        exact hk
      · exact h.elim
    | _::_,h=>exact h.elim
  · rename_i e y he
    rw [he] at h ⊢
    match as,h with
    | [],h=>exact h.elim
    | [z],h =>
      change (match z.cok with | true=>Res.ok (.ptr i 0 0) (place H i (.cells 0 z.cells)) | false=>.bad:Res).then K at h
      split at h
      · rename_i e1
        refine ⟨_,_,h,fun H2 K2 hk=>?_⟩
        change (match z.cok with | true=>Res.ok (.ptr i 0 0) (place H2 i (.cells 0 z.cells)) | false=>.bad:Res).then K2
        rw [e1]
        exact hk
      · exact h.elim
    | _::_::_,h=>exact h.elim
  · rename_i t a b he
    rw [he] at h ⊢
    have hall:∀(G:List Ob) (K3:V→List Ob→Prop) (k1 k2:IntKind) (n1 n2:Int),(opR tt cfg.lv o.dst (.makeSlice t a b) [.int k1 n1,.int k2 n2] true i G).then K3=(match (tt t).k with
      | .slice e=>match (tt e).known,(tt e).zero.cok with
        | true,true=>makeR (tt e) n1 n2 i G
        | _,_=>.bad
      | _=>.bad:Res).then K3:=fun _ _ _ _ _ _=>rfl
    have:∃k1 n1 k2 n2,as=[.int k1 n1,.int k2 n2]:=by
      match as,h with
      | [.int k1 n1,.int k2 n2],_=>exact ⟨k1,n1,k2,n2,rfl⟩
      | [],h=>exact h.elim
      | [z],h=>cases z<;>exact h.elim
      | z::y::w::r,h=>cases z<;>cases y<;>exact h.elim
      | [.bool _,y],h=>exact h.elim
      | [.str _,y],h=>exact h.elim
      | [.nilp,y],h=>exact h.elim
      | [.nili,y],h=>exact h.elim
      | [.nilf,y],h=>exact h.elim
      | [.nilm,y],h=>exact h.elim
      | [.raw _,y],h=>exact h.elim
      | [.agg _,y],h=>exact h.elim
      | [.tup _,y],h=>exact h.elim
      | [.sl _ _ _,y],h=>exact h.elim
      | [.fp _,y],h=>exact h.elim
      | [.buf _ _ _ _ _,y],h=>exact h.elim
      | [.ptr _ _ _,y],h=>exact h.elim
      | [.mp _,y],h=>exact h.elim
      | [.ifc _ _,y],h=>exact h.elim
      | [.fn _ _ _,y],h=>exact h.elim
      | [.opt _ _,y],h=>exact h.elim
      | [.dead,y],h=>exact h.elim
      | [.int _ _,.bool _],h=>exact h.elim
      | [.int _ _,.str _],h=>exact h.elim
      | [.int _ _,.nilp],h=>exact h.elim
      | [.int _ _,.nili],h=>exact h.elim
      | [.int _ _,.nilf],h=>exact h.elim
      | [.int _ _,.nilm],h=>exact h.elim
      | [.int _ _,.raw _],h=>exact h.elim
      | [.int _ _,.agg _],h=>exact h.elim
      | [.int _ _,.tup _],h=>exact h.elim
      | [.int _ _,.sl _ _ _],h=>exact h.elim
      | [.int _ _,.fp _],h=>exact h.elim
      | [.int _ _,.buf _ _ _ _ _],h=>exact h.elim
      | [.int _ _,.ptr _ _ _],h=>exact h.elim
      | [.int _ _,.mp _],h=>exact h.elim
      | [.int _ _,.ifc _ _],h=>exact h.elim
      | [.int _ _,.fn _ _ _],h=>exact h.elim
      | [.int _ _,.opt _ _],h=>exact h.elim
      | [.int _ _,.dead],h=>exact h.elim
    obtain ⟨k1,n1,k2,n2,rfl⟩:=this
    rw [hall] at h
    cases hk:(tt t).k<;>rw [hk] at h<;>try exact h.elim
    rename_i e
    cases h1:(tt e).known<;>simp only [h1] at h<;>try exact h.elim
    cases h2:(tt e).zero.cok<;>simp only [h2] at h<;>try exact h.elim
    refine ⟨_,_,h.2,fun H2 K2 hk2=>?_⟩
    rw [hall,hk]
    simp only [h1,h2]
    exact ⟨h.1,hk2⟩
  · simp at ha
theorem evV_a2 {ops:List Oper} {o:Oper} {tm:List V} {x:V} {H1:List Ob} (hE:isE cfg o=true) (ha:isA2 o=true) (h:Pt (evV P tt cfg rs ops o tm H) x H1) :
    (H1=H∧∀H2,Pt (evV P tt cfg rs ops o tm H2) x H2) ∨
    ∃i ob,look rs o.dst=some i∧isUn (getO H i)∧H1=place H i ob∧∀H2,isUn (getO H2 i)→Pt (evV P tt cfg rs ops o tm H2) x (place H2 i ob):=by
  have h1:=h (fun y G=>y=x∧G=H1) ⟨rfl,rfl⟩
  have hX:∀ {as:List V} {K:V→List Ob→Prop},runX P tt cfg rs o as H K→∃i v ob,look rs o.dst=some i∧isUn (getO H i)∧K v (place H i ob)∧∀(H2:List Ob) (K2:V→List Ob→Prop),isUn (getO H2 i)→K2 v (place H2 i ob)→runX P tt cfg rs o as H2 K2:=by
    intro as K hr
    unfold runX at hr
    rw [ha] at hr
    simp only [runA] at hr
    split at hr
    · rename_i i hi
      obtain ⟨h0,hr⟩:=hr
      obtain ⟨v,ob,hk,hall⟩:=opA2 ha (optSide_any hr)
      refine ⟨i,v,ob,hi,h0,hk,fun H2 K2 hu hk2=>?_⟩
      unfold runX
      rw [ha]
      simp only [runA,hi]
      exact ⟨hu,optSide_mk hr (hall H2 K2 hk2)⟩
    · exact hr.elim
  unfold evV at h1
  split at h1
  · rename_i hg
    rw [hE] at h1
    obtain ⟨i,v,ob,hi,hu,⟨rfl,rfl⟩,hall⟩:=hX h1
    refine .inr ⟨i,ob,hi,hu,rfl,fun H2 hu2 K hk=>?_⟩
    unfold evV
    rw [hg,hE]
    exact hall H2 _ hu2 hk
  · rename_i j want hg
    split at h1
    · exact h1.elim
    · rename_i g hgv
      rw [hE] at h1
      simp only at h1
      cases g with
      | true =>
        obtain ⟨i,v,ob,hi,hu,⟨rfl,rfl⟩,hall⟩:=hX (h1.1 rfl)
        refine .inr ⟨i,ob,hi,hu,rfl,fun H2 hu2 K hk=>?_⟩
        unfold evV
        simp only [hg,hE,hgv]
        exact ⟨fun _=>hall H2 _ hu2 hk,fun h=>by simp at h⟩
      | false =>
        obtain ⟨rfl,rfl⟩:=h1.2 rfl
        refine .inl ⟨rfl,fun H2 K hk=>?_⟩
        unfold evV
        simp only [hg,hE,hgv]
        exact ⟨fun h=>by simp at h,fun _=>hk⟩
theorem un_place {i j:Nat} {ob:Ob} (hij:i≠j) (h:isUn (getO H j)):isUn (getO (place H j ob) i)↔isUn (getO H i):=by
  have hp:(place H j ob)[i]? = H[i]?:=by rw [get_place (isUn_free h).le,if_neg hij]
  constructor
  · intro h1
    have:=isUn_get h1
    rw [hp] at this
    exact isUn_of this
  · intro h1
    have:=isUn_get h1
    rw [←hp] at this
    exact isUn_of this
theorem place_comm {i j:Nat} {a b:Ob} (hij:i≠j) (hi:isUn (getO H i)) (hj:isUn (getO H j)):place (place H j b) i a=place (place H i a) j b:=by
  have h1:isUn (getO (place H j b) i):=(un_place hij hj).2 hi
  have h2:isUn (getO (place H i a) j):=(un_place (Ne.symm hij) hi).2 hj
  apply List.ext_getElem?
  intro k
  rw [get_place (isUn_free h1).le,get_place (isUn_free hj).le,get_place (isUn_free h2).le,get_place (isUn_free hi).le]
  split<;>split<;>first | rfl | omega
theorem noUn_get:∀ {J:List Ob} {i:Nat},noUn J→J[i]?≠some .unborn
  | [],_,_=>by simp
  | .unborn::_,_,h=>h.elim
  | .dead::r,0,_=>by simp
  | .cells _ _::r,0,_=>by simp
  | .map _::r,0,_=>by simp
  | .dead::r,i+1,h=>by rw [List.getElem?_cons_succ];exact noUn_get (J:=r) h
  | .cells _ _::r,i+1,h=>by rw [List.getElem?_cons_succ];exact noUn_get (J:=r) h
  | .map _::r,i+1,h=>by rw [List.getElem?_cons_succ];exact noUn_get (J:=r) h
theorem un_append {J:List Ob} (hu:noUn J) {i:Nat} (h:isUn (getO (H++J) i)):i<H.length∧isUn (getO H i):=by
  have h1:=isUn_get h
  rw [List.getElem?_append] at h1
  split at h1
  · rename_i hi
    exact ⟨hi,isUn_of h1⟩
  · exact absurd h1 (noUn_get hu)
theorem place_append {J:List Ob} {ob:Ob}:∀ {H:List Ob} {i:Nat},i<H.length→place (H++J) i ob=place H i ob++J
  | [],_,h=>absurd h (Nat.not_lt_zero _)
  | _::_,0,_=>rfl
  | x::xs,i+1,h=>by
    simp only [List.cons_append,place,place_append (J:=J) (ob:=ob) (H:=xs) (i:=i) (by simpa using h)]
theorem place_len {ob:Ob}:∀ {H:List Ob} {i:Nat},i<H.length→(place H i ob).length=H.length
  | [],_,h=>absurd h (Nat.not_lt_zero _)
  | _::_,0,_=>rfl
  | x::xs,i+1,h=>by simp only [place,List.length_cons,place_len (ob:=ob) (H:=xs) (i:=i) (by simpa using h)]
theorem isA2_isQ {o:Oper} (h:isQ o=true):isA2 o=false:=by
  unfold isQ at h
  split at h
  · rename_i c he
    simp only [isA2,he]
  · simp at h
theorem isC_isQ {o:Oper} (h:isC cfg o=true):isQ o=true:=by
  unfold isC at h
  split at h
  · assumption
  · simp at h
theorem runX_m {o:Oper} (hm:isM cfg o=true) {as:List V} {K:V→List Ob→Prop} (h:runX P tt cfg rs o as H K):∃v H1,KeepsC cfg.ks H H1∧K v H1:=by
  have hset:∀ {id:Nat} {es es':List (V × V)},getO H id=.map es→Keeps H (setO H id (.map es')):=by
    intro id es es' hg i ver l hi
    have hid:=getO_lt hg (by simp)
    rw [setO_place hid]
    have h1:=getO_eq hi (by simp)
    apply get_getO
    rw [get_place (Nat.le_of_lt hid)]
    split
    · rename_i e
      subst e
      rw [hg] at hi
      cases hi
    · exact h1
  have hat:∀ {t:TI} {x:V} {kt et id:Nat} {es:List (V × V)},mapAt t x H=some (kt,et,id,es)→getO H id=.map es:=by
    intro t x kt et id es h
    unfold mapAt at h
    split at h
    · split at h
      · rename_i hg
        simp only [Option.some.injEq,Prod.mk.injEq] at h
        obtain ⟨_,_,rfl,rfl⟩:=h
        exact hg
      · simp at h
    · simp at h
  unfold isM at hm
  unfold runX at h
  split at hm
  · rename_i t m k y he
    have h1:isA2 o=false:=by simp [isA2,he]
    have h2:isK cfg o=false:=by simp [isK,he]
    have h3:isC cfg o=false:=by simp [isC,isQ,he]
    rw [h1,h3,h2] at h
    simp only [runO,he] at h
    have h:=optSide_any h
    generalize as.map V.st=bs at h
    match bs,h with
    | [],h=>exact h.elim
    | [_],h=>exact h.elim
    | [_,_],h=>exact h.elim
    | [a,b,c],h =>
      change (updR tt (tt t) a b c H).then K at h
      unfold updR at h
      split at h
      · rename_i hm
        exact ⟨_,_,.of (hset (hat hm)),h.2⟩
      · exact h.elim
    | _::_::_::_::_,h=>exact h.elim
  · rename_i t m k y he
    have h1:isA2 o=false:=by simp [isA2,he]
    have h2:isK cfg o=false:=by simp [isK,he]
    have h3:isC cfg o=false:=by simp [isC,isQ,he]
    rw [h1,h3,h2] at h
    simp only [runO,he] at h
    have h:=optSide_any h
    generalize as.map V.st=bs at h
    match bs,h with
    | [],h=>exact h.elim
    | [_],h=>exact h.elim
    | [_,_],h=>exact h.elim
    | [a,b,c],h =>
      change (updR tt (tt t) a b c H).then K at h
      unfold updR at h
      split at h
      · rename_i hm
        exact ⟨_,_,.of (hset (hat hm)),h.2⟩
      · exact h.elim
    | _::_::_::_::_,h=>exact h.elim
  · rename_i c he
    have h1:isA2 o=false:=by simp [isA2,he]
    split at hm
    · rename_i hc
      have h2:isK cfg o=false:=by simp [isK,he,hc]
      have h3:isC cfg o=false:=by simp [isC,isQ,he,hc]
      rw [h1,h3,h2] at h
      simp only [runO,he,hc] at h
      have h:=optSide_any h
      generalize as.map V.st=bs at h
      have hop:opR tt cfg.lv o.dst (.call c) bs true H.length H=builtinR tt .delete c.argTypes.toList bs H.length H:=by
        unfold opR
        simp only [hc]
      rw [hop] at h
      unfold builtinR at h
      split at h
      case h_4 =>
        unfold delR at h
        split at h
        · rename_i hm
          exact ⟨_,_,.of (hset (hat hm)),h.2⟩
        · exact h.elim
      all_goals first | exact h.elim | contradiction
    · rename_i hc
      have h2:isK cfg o=true:=by simp only [isK,he,hc,hm]
      have h3:isC cfg o=false:=by simp [isC,isQ,he,hc]
      rw [h1,h3,h2] at h
      simp only at h
      obtain ⟨v,H',_,hk⟩:=runO_pt h
      exact ⟨v,H',hk.1,hk.2⟩
    · rename_i fo hc
      have h2:isK cfg o=true:=by simp only [isK,he,hc]
      cases h3:isC cfg o with
      | false =>
        rw [h1,h3,h2] at h
        simp only at h
        obtain ⟨v,H',_,hk⟩:=runO_pt h
        exact ⟨v,H',hk.1,hk.2⟩
      | true =>
        rw [h1,h3] at h
        simp only [runC] at h
        split at h
        · obtain ⟨v,J,_,_,hk⟩:=optSide_any h
          exact ⟨v,H++J,.of fun i ver l hi=>getO_app hi,hk⟩
        · exact h.elim
    · simp at hm
  · simp at hm
theorem evV_m {ops:List Oper} {o:Oper} {tm:List V} {x:V} {H1:List Ob} (hE:isE cfg o=true) (hm:isM cfg o=true) (h:Pt (evV P tt cfg rs ops o tm H) x H1):KeepsC cfg.ks H H1:=by
  have h1:=h (fun y G=>y=x∧G=H1) ⟨rfl,rfl⟩
  unfold evV at h1
  split at h1
  · rw [hE] at h1
    obtain ⟨v,G,hk,_,h3⟩:=runX_m hm h1
    rw [←h3]
    exact hk
  · split at h1
    · exact h1.elim
    · rename_i g hgv
      rw [hE] at h1
      simp only at h1
      cases g with
      | true =>
        obtain ⟨v,G,hk,_,h3⟩:=runX_m hm (h1.1 rfl)
        rw [←h3]
        exact hk
      | false=>rw [←(h1.2 rfl).2];exact .of (Keeps.refl H)
theorem evV_c {ops:List Oper} {o:Oper} {tm:List V} {x:V} {H1:List Ob} (hE:isE cfg o=true) (hq:isC cfg o=true) (h:Pt (evV P tt cfg rs ops o tm H) x H1) :
    ∃J,noUn J∧H1=H++J∧∀H2,H2.length=H.length→Keeps H H2→Pt (evV P tt cfg rs ops o tm H2) x (H2++J):=by
  have h1:=h (fun y G=>y=x∧G=H1) ⟨rfl,rfl⟩
  have hX:∀ {as:List V} {K:V→List Ob→Prop},runX P tt cfg rs o as H K→∃v J,noUn J∧K v (H++J)∧∀(H2:List Ob) (K2:V→List Ob→Prop),H2.length=H.length→Keeps H H2→K2 v (H2++J)→runX P tt cfg rs o as H2 K2:=by
    intro as K hr
    unfold runX at hr
    rw [isA2_isQ (isC_isQ hq),hq] at hr
    simp only [runC] at hr
    split at hr
    · obtain ⟨v,J,hu,hall,hk⟩:=optSide_any hr
      refine ⟨v,J,hu,hk,fun H2 K2 hl hkp hk2=>?_⟩
      unfold runX
      rw [isA2_isQ (isC_isQ hq),hq]
      simp only [runC]
      exact optSide_mk hr ⟨v,J,hu,fun H' h1 h2=>hall H' (h1.trans hl) fun i ver l hg=>h2 i ver l (hkp i ver l hg),hk2⟩
    · exact hr.elim
  unfold evV at h1
  split at h1
  · rename_i hg
    rw [hE] at h1
    obtain ⟨v,J,hu,⟨rfl,rfl⟩,hall⟩:=hX h1
    refine ⟨J,hu,rfl,fun H2 hl hkp K hk=>?_⟩
    unfold evV
    rw [hg,hE]
    exact hall H2 _ hl hkp hk
  · rename_i j want hg
    split at h1
    · exact h1.elim
    · rename_i g hgv
      rw [hE] at h1
      simp only at h1
      cases g with
      | true =>
        obtain ⟨v,J,hu,⟨rfl,rfl⟩,hall⟩:=hX (h1.1 rfl)
        refine ⟨J,hu,rfl,fun H2 hl hkp K hk=>?_⟩
        unfold evV
        simp only [hg,hE,hgv]
        exact ⟨fun _=>hall H2 _ hl hkp hk,fun h=>by simp at h⟩
      | false =>
        obtain ⟨rfl,rfl⟩:=h1.2 rfl
        refine ⟨[],trivial,(List.append_nil _).symm,fun H2 hl hkp K hk=>?_⟩
        rw [List.append_nil] at hk
        unfold evV
        simp only [hg,hE,hgv]
        exact ⟨fun h=>by simp at h,fun _=>hk⟩
def evI (P:Program) (tt:Nat→TI) (cfg:Cfg) (rs:List (Nat × Nat)) (ops:List Oper):List Nat→List V→List Ob→(List V→List Ob→Prop)→Prop
  | [],tm,H,K=>K tm H
  | i::r,tm,H,K=>match ops[i]? with
    | some o=>evOpD P tt cfg rs ops o tm H fun tm' H'=>evI P tt cfg rs ops r tm' H' K
    | none=>False
theorem evI_front {ops:List Oper} (hinj:∀(d d':Option Nat) (i:Nat),look rs d=some i→look rs d'=some i→d=d') {i:Nat} {oi:Oper} (hi:ops[i]? = some oi) {L2:List Nat} {K:List V→List Ob→Prop}:∀ {L1:List Nat} {tm:List V} {H:List Ob},
    (∀j ∈ L1,∀oj,ops[j]? = some oj→indep tt cfg ops oj oi=true)→evI P tt cfg rs ops (L1++i::L2) tm H K →
    ∃x H1,Pt (evV P tt cfg rs ops oi tm H) x H1∧evI P tt cfg rs ops (L1++L2) (putT tm oi.dst x) H1 K
  | [],tm,H,_,h=>by
    simp only [List.nil_append,evI,hi,evOpD] at h
    exact evV_pt h
  | j::L1,tm,H,hind,h=>by
    simp only [List.cons_append,evI] at h ⊢
    cases hj:ops[j]? with
    | none=>rw [hj] at h;exact h.elim
    | some oj =>
      rw [hj] at h
      simp only [evOpD] at h ⊢
      obtain ⟨y,Hj,h1,h2⟩:=evV_pt h
      obtain ⟨x,H1,h3,h4⟩:=evI_front hinj hi (fun k hk=>hind k (by simp [hk])) h2
      have hin:=hind j (by simp) oj hj
      simp only [indep,Bool.and_eq_true,Bool.not_eq_true'] at hin
      obtain ⟨⟨⟨d1,d2⟩,d3⟩,d4⟩:=hin
      rw [evV_put d1] at h3
      rw [putT_comm' tm d3] at h4
      have back:∀G G2,Pt (evV P tt cfg rs ops oj tm G) y G2→evI P tt cfg rs ops (L1++L2) (putT (putT tm oi.dst x) oj.dst y) G2 K →
          evV P tt cfg rs ops oj (putT tm oi.dst x) G (fun v H'=>evI P tt cfg rs ops (L1++L2) (putT (putT tm oi.dst x) oj.dst v) H' K):=by
        intro G G2 hp he
        rw [evV_put d2]
        exact hp _ he
      cases hEj:isE cfg oj with
      | false =>
        obtain ⟨rfl,h1'⟩:=evV_quiet hEj h1
        cases hEi:isE cfg oi with
        | false =>
          obtain ⟨rfl,h3'⟩:=evV_quiet hEi h3
          exact ⟨x,_,h3',back _ _ h1' h4⟩
        | true =>
          simp only [hEj,hEi,Bool.or_eq_true,Bool.and_eq_true] at d4
          rcases d4 with (d4 | ⟨d4,d5⟩) | ⟨d4,d5⟩
          · exact ⟨x,H1,h3,back _ _ (evV_any hEj d4 h1' H1) h4⟩
          · rcases evV_al hEi d5 h3 with rfl | ⟨ob,nid,hf,rfl⟩
            · exact ⟨x,_,h3,back _ _ h1' h4⟩
            · exact ⟨x,_,h3,back _ _ (evV_fill hEj (by rw [Bool.or_eq_true];exact d4) h1' (.of (keeps_place hf)) (fun _=>keeps_place hf)) h4⟩
          · have hk:=evV_m hEi d5 h3
            exact ⟨x,H1,h3,back _ _ (evV_fill hEj (by rw [Bool.or_eq_true];exact d4.imp id (·.1)) h1' hk (fun hq=>by
              rcases d4 with d4 | d4
              · exfalso
                unfold isLd at d4
                unfold isQ at hq
                split at d4
                · rename_i e;rw [e] at hq;simp at hq
                · simp at d4
              · have hn:=d4.2
                cases hks:cfg.ks with
                | none=>rw [hks] at hk;exact hk
                | some l=>rw [hks] at hn;simp at hn)) h4⟩
      | true =>
        cases hEi:isE cfg oi with
        | false =>
          simp only [hEj,hEi] at d4
          obtain ⟨rfl,h3'⟩:=evV_quiet hEi h3
          exact ⟨x,H,evV_any hEi d4 h3' H,back _ _ h1 h4⟩
        | true =>
          simp only [hEj,hEi,Bool.and_eq_true,Bool.or_eq_true] at d4
          cases hqj:isC cfg oj with
          | true =>
            obtain ⟨J,hu,rfl,hallc⟩:=evV_c hEj hqj h1
            rcases evV_a2 hEi d4.2 h3 with ⟨rfl,hall⟩ | ⟨m,obi,hm,hum,rfl,halli⟩
            · exact ⟨x,H,hall H,back _ _ h1 h4⟩
            · obtain ⟨hml,hum'⟩:=un_append hu hum
              refine ⟨x,place H m obi,halli H hum',back _ _ (hallc _ (place_len hml) (keeps_place (isUn_free hum'))) ?_⟩
              rw [←place_append hml]
              exact h4
          | false =>
          have d41:isA2 oj=true:=d4.1.resolve_right (by rw [hqj];simp)
          rcases evV_a2 hEj d41 h1 with ⟨rfl,hall⟩ | ⟨k,obj,hk,huk,rfl,hallj⟩
          · exact ⟨x,H1,h3,back _ _ (hall H1) h4⟩
          · rcases evV_a2 hEi d4.2 h3 with ⟨rfl,hall⟩ | ⟨m,obi,hm,hum,rfl,halli⟩
            · exact ⟨x,H,hall H,back _ _ h1 h4⟩
            · have hne:m≠k:=by
                rintro rfl
                have:=hinj _ _ _ hk hm
                have hs:oj.dst.isSome=true:=by
                  have:=d41
                  unfold isA2 at this
                  split at this<;>first | exact this | simp at this
                cases hd:oj.dst with
                | none=>rw [hd] at hs;simp at hs
                | some d=>rw [←this,hd] at d3;simp [dstEq] at d3
              have hum':=(un_place hne huk).1 hum
              refine ⟨x,place H m obi,halli H hum',back _ _ (hallj _ ((un_place (Ne.symm hne) hum').2 huk)) ?_⟩
              rw [←place_comm hne hum' huk]
              exact h4
theorem runX_sound (tok:TOK P tt) (hh:HR O β w H) {o:Oper} {a:Act} {args:List V} {K:V→List Ob→Prop} (hv:VRs (Own O β) w β args ((opnds o.op).map a.eval)) (h:runX P tt cfg rs o args H K):OpOK P O β w o a K:=by
  unfold runX at h
  split at h
  · unfold runA at h
    split at h
    · obtain ⟨h0,h⟩:=h
      obtain ⟨h1,h2⟩:=optSide_true rfl h
      exact OpOK.of_good2 (opR_sound tok hh (isUn_free h0) (st_VRs hv h1) h2)
    · exact h.elim
  · split at h
    · rename_i hq0
      have hq:=isC_isQ hq0
      refine runO_sound (cfg:=cfg) tok hh hv ?_
      unfold isQ at hq
      split at hq
      · rename_i c he
        split at hq
        · rename_i fo hc
          simp only [runO,he,hc]
          unfold runC at h
          split at h
          · obtain ⟨v,J,_,ha,hk⟩:=optSide_any h
            exact optSide_mk h ⟨v,H++J,ha H rfl (Keeps.refl H),hk⟩
          · exact h.elim
        · simp at hq
      · simp at hq
    · split at h
      · obtain ⟨v,H',h1,h2⟩:=runO_pt h
        exact runO_sound tok hh hv (h1 K h2.2)
      · exact runO_sound tok hh hv h
theorem evV_step (tok:TOK P tt) {ops:Array Oper} {o:Oper} {a:Act} {tm:List V} {K:V→List Ob→Prop} (hs:SR O β a w ⟨tm,H⟩) (h:evV P tt cfg rs ops.toList o tm H K)
    {next:Act→World→Prop} {Q:Exit→Act→World→Prop} (hn:∀x H' v β' w',K x H'→HR O β' w' H'→VR (Own O β') w' β' x v→Ext β w β' w'→next (a.put o.dst v) w') :
    if Region.wanted o (yielded ops a.tmps) then o.wp P a w next Q else next (a.put o.dst undef) w:=by
  have hv:=evTs_sound hs.tm hs.hp.glob (opnds o.op)
  have hopt:∀own (w:World) β x v,VR own w β x v→VR own w β (.opt true x) v:=fun own w β x v hx=>by
    simp only [VR];exact ⟨fun _=>hx,fun h=>by simp at h⟩
  have skip:∀x,K (.opt false x) H→next (a.put o.dst undef) w:=fun x hk =>
    hn _ H undef β w hk hs.hp (by simp only [VR];exact ⟨fun h=>by simp at h,fun _=>trivial⟩) (Ext.refl β w)
  unfold evV at h
  split at h
  · rename_i hg
    rw [if_pos (by simp [Region.wanted,hg])]
    split at h
    · exact runX_sound tok hs.hp hv h next Q hn
    · refine runG_true tok hs.hp hv h next Q ?_
      rintro x H' v β' w' ⟨rfl,hk⟩ h1 h2 h3
      exact hn x _ v β' w' hk h1 h2 h3
  · rename_i j want hg
    split at h
    · exact h.elim
    · rename_i g hgv
      have hw:=gval_sound hs.tm hgv hg
      split at h
      · cases g with
        | true =>
          rw [if_pos hw]
          refine runG_true tok hs.hp hv (h.1 rfl) next Q ?_
          rintro x H' v β' w' ⟨rfl,hk⟩ h1 h2 h3
          exact hn _ _ v β' w' hk h1 (hopt _ _ _ _ _ h2) h3
        | false =>
          rw [if_neg (by rw [hw];simp)]
          exact skip _ (h.2 rfl)
      · cases g with
        | true =>
          rw [if_pos hw]
          refine runX_sound tok hs.hp hv (h.1 rfl) next Q ?_
          intro x H' v β' w' hk h1 h2 h3
          exact hn _ _ v β' w' hk h1 (hopt _ _ _ _ _ h2) h3
        | false =>
          rw [if_neg (by rw [hw];simp)]
          exact skip _ (h.2 rfl)
def rem (L:List Nat) (listed:Array Bool):List Nat:=L.filter fun i=>!(listed.getD i true)
theorem evI_range {ops:List Oper} {K:List V→List Ob→Prop}:∀(l pre:List Oper) {tm:List V} {H:List Ob},ops=pre++l→evOpsD P tt cfg rs ops l tm H K→evI P tt cfg rs ops (List.range' pre.length l.length) tm H K
  | [],_,_,_,_,h=>h
  | o::l,pre,tm,H,e,h=>by
    simp only [List.length_cons,List.range'_succ,evI]
    have ho:ops[pre.length]? = some o:=by rw [e];simp
    rw [ho]
    simp only [evOpsD,evOpD] at h ⊢
    obtain ⟨x,H1,h1,h2⟩:=evV_pt h
    refine h1 _ ?_
    have:=evI_range l (pre++[o]) (by rw [e];simp) h2
    simpa using this
theorem maskOf_bit {acc:List Nat} {j:Nat}:∀ {bs:List Nat},Nat.testBit (maskOf acc bs) j=true→∃k ∈ bs,j=k∨Nat.testBit (acc.getD k 0) j=true
  | [],h=>by simp [maskOf] at h
  | b::bs,h=>by
    simp only [maskOf,List.foldr_cons,Nat.testBit_or,Bool.or_eq_true,Nat.testBit_two_pow] at h
    rcases h with (h | h) | h
    · have hbj:b=j:=by simpa using h
      exact ⟨b,by simp,.inl hbj.symm⟩
    · exact ⟨b,by simp,.inr h⟩
    · obtain ⟨k,hk,h⟩:=maskOf_bit (bs:=bs) h
      exact ⟨k,by simp [hk],h⟩
structure DrawFacts (tt:Nat→TI) (cfg:Cfg) (ops:List Oper) (L:List Nat) (ms:List Nat):Prop where
  len:L.length=ops.length
  all:∀i,i<ops.length→i ∈ L
  pos:∀(A:List Nat) (i:Nat) (B:List Nat),L=A++i::B→∃o,ops[i]? = some o∧i ∉ A∧(∀k ∈ bnds o,k ∈ A)∧ms.getD i 0=maskOf ms (bnds o) ∧
    ∀j ∈ A,∀p,ops[j]? = some p→Nat.testBit (ms.getD i 0) j=true∨indep tt cfg ops p o=true
theorem inL_iff {l:List Nat} {i:Nat}:inL l i=true↔i ∈ l:=by
  simp only [inL,List.any_eq_true]
  exact ⟨fun ⟨x,h1,h2⟩=>by rw [Nat.eq_of_beq_eq_true h2];exact h1,fun h=>⟨i,h,Nat.beq_refl i⟩⟩
theorem drawGo_facts {ops:List Oper} {ms:List Nat}:∀ {L pre:List Nat},drawGo tt cfg ops ms pre L=true→∀(A:List Nat) (i:Nat) (B:List Nat),L=A++i::B →
    ∃o,ops[i]? = some o∧i ∉ A∧i ∉ pre∧(∀k ∈ bnds o,k ∈ A∨k ∈ pre)∧ms.getD i 0=maskOf ms (bnds o) ∧
    ∀j,(j ∈ A∨j ∈ pre)→∀p,ops[j]? = some p→Nat.testBit (ms.getD i 0) j=true∨indep tt cfg ops p o=true
  | [],pre,_,A,i,B,e=>by simp at e
  | i0::r,pre,h,A,i,B,e=>by
    simp only [drawGo,Bool.and_eq_true] at h
    obtain ⟨h1,h2⟩:=h
    cases A with
    | nil =>
      simp only [List.nil_append,List.cons.injEq] at e
      obtain ⟨rfl,rfl⟩:=e
      split at h1
      · rename_i o ho
        simp only [Bool.and_eq_true,Bool.not_eq_true',List.all_eq_true,Bool.or_eq_true] at h1
        obtain ⟨⟨⟨g1,g2⟩,g3⟩,g4⟩:=h1
        refine ⟨o,ho,by simp,?_,fun k hk=>.inr (inL_iff.1 (g2 k hk)),Nat.eq_of_beq_eq_true g3,?_⟩
        · intro hi;rw [inL_iff.2 hi] at g1;simp at g1
        · intro j hj p hp
          rcases hj with hj | hj
          · simp at hj
          · have:=g4 j hj
            rw [hp] at this
            exact this
      · simp at h1
    | cons a A =>
      simp only [List.cons_append,List.cons.injEq] at e
      obtain ⟨rfl,rfl⟩:=e
      obtain ⟨o,g1,g2,g3,g4,g5,g6⟩:=drawGo_facts h2 A i B rfl
      simp only [List.mem_cons,not_or] at g3
      refine ⟨o,g1,?_,g3.2,?_,g5,?_⟩
      · simp only [List.mem_cons,not_or];exact ⟨g3.1,g2⟩
      · intro k hk
        rcases g4 k hk with h | h
        · exact .inl (by simp [h])
        · rcases List.mem_cons.1 h with rfl | h
          · exact .inl (by simp)
          · exact .inr h
      · intro j hj p hp
        refine g6 j ?_ p hp
        rcases hj with hj | hj
        · rcases List.mem_cons.1 hj with rfl | hj
          · exact .inr (by simp)
          · exact .inl hj
        · exact .inr (by simp [hj])
theorem drawOK_facts {ops:List Oper} {L:List Nat} (h:drawOKL tt cfg ops L=true):∃ms,DrawFacts tt cfg ops L ms:=by
  simp only [drawOKL,Bool.and_eq_true,List.all_eq_true,List.mem_range] at h
  refine ⟨mskL ops L (List.replicate ops.length 0),Nat.eq_of_beq_eq_true h.2,fun i hi=>inL_iff.1 (h.1.2 i hi),?_⟩
  intro A i B e
  obtain ⟨o,g1,g2,_,g4,g5,g6⟩:=drawGo_facts h.1.1 A i B e
  exact ⟨o,g1,g2,fun k hk=>(g4 k hk).resolve_right (by simp),g5,fun j hj=>g6 j (.inl hj)⟩
def ClosedL (ops:List Oper) (listed:Array Bool):Prop :=
  ∀(i:Nat) (o:Oper),ops[i]? = some o→listed.getD i false=true→∀k ∈ bnds o,listed.getD k false=true
theorem anc_listed {ops:List Oper} {L ms:List Nat} (df:DrawFacts tt cfg ops L ms) {listed:Array Bool} (hc:ClosedL ops listed) :
    ∀(n:Nat) (A:List Nat) (i:Nat) (B:List Nat),A.length=n→L=A++i::B→∀o,ops[i]? = some o→(∀k ∈ bnds o,listed.getD k false=true)→∀j,Nat.testBit (ms.getD i 0) j=true→listed.getD j false=true:=by
  intro n
  induction n using Nat.strongRecOn with
  | _ n ih =>
    intro A i B hn e o ho hb j hj
    obtain ⟨o',ho',_,hk',hm,_⟩:=df.pos A i B e
    rw [ho] at ho'
    cases ho'
    rw [hm] at hj
    obtain ⟨k,hk,h⟩:=maskOf_bit hj
    rcases h with rfl | h
    · exact hb j hk
    · obtain ⟨A1,A2,rfl⟩:=List.append_of_mem (hk' k hk)
      have e2:L=A1++k::(A2++i::B):=by rw [e];simp
      obtain ⟨ok,hok,_⟩:=df.pos _ _ _ e2
      exact ih A1.length (by subst hn;rw [List.length_append,List.length_cons];omega) A1 k _ rfl e2 ok hok (hc k ok hok (hb k hk)) j h
theorem mem_bnds {o:Oper} {e:Edge} (he:e ∈ o.after) (hb:Region.binds .any e=true):e.on ∈ bnds o:=by
  unfold bnds
  exact List.mem_map_of_mem (List.mem_filter.2 ⟨Array.mem_toList_iff.2 he,hb⟩)
theorem of_bnds {o:Oper} {k:Nat} (h:k ∈ bnds o):∃e ∈ o.after,Region.binds .any e=true∧e.on=k:=by
  unfold bnds at h
  obtain ⟨e,he,rfl⟩:=List.mem_map.1 h
  obtain ⟨h1,h2⟩:=List.mem_filter.1 he
  exact ⟨e,Array.mem_toList_iff.1 h1,h2,rfl⟩
theorem getD_true_false {l:Array Bool} {i:Nat} (h:i<l.size):l.getD i true=l.getD i false:=by
  simp [Array.getD,h]
theorem filter_split {α:Type} {p:α→Bool}:∀ {L L1 L2:List α} {i:α},L.filter p=L1++i::L2→∃A B,L=A++i::B∧A.filter p=L1∧B.filter p=L2
  | [],L1,L2,i,h=>by simp at h
  | x::L,L1,L2,i,h=>by
    rw [List.filter_cons] at h
    split at h
    · rename_i hx
      cases L1 with
      | nil =>
        simp only [List.nil_append,List.cons.injEq] at h
        obtain ⟨rfl,rfl⟩:=h
        exact ⟨[],L,rfl,rfl,rfl⟩
      | cons y L1 =>
        simp only [List.cons_append,List.cons.injEq] at h
        obtain ⟨rfl,h⟩:=h
        obtain ⟨A,B,rfl,rfl,rfl⟩:=filter_split h
        exact ⟨x::A,B,rfl,by rw [List.filter_cons,if_pos hx],rfl⟩
    · rename_i hx
      obtain ⟨A,B,rfl,rfl,rfl⟩:=filter_split h
      exact ⟨x::A,B,rfl,by rw [List.filter_cons,if_neg hx],rfl⟩
theorem draw_sound (tok:TOK P tt) (hinj:∀(d d':Option Nat) (i:Nat),look rs d=some i→look rs d'=some i→d=d') {ops:Array Oper} {L ms:List Nat} (df:DrawFacts tt cfg ops.toList L ms) {Q:Exit→S→Prop} {β0:List Pl} {w0:World}:∀(fuel:Nat) (listed:Array Bool) (tm:List V) (H:List Ob) (β:List Pl) (a:Act) (w:World),
    listed.size=ops.size→(rem L listed).length=fuel→ClosedL ops.toList listed→Ext β0 w0 β w→SR O β a w ⟨tm,H⟩ →
    evI P tt cfg rs ops.toList (rem L listed) tm H (fun tm' H'=>Q .normal ⟨tm',H'⟩) →
    wpAny P .any ops (fun e a' w'=>∃s' β',Q e s'∧SR O β' a' w' s'∧Ext β0 w0 β' w') fuel listed a w:=by
  have hbound:∀i ∈ L,i<ops.size:=by
    intro i hi
    obtain ⟨A,B,e⟩:=List.append_of_mem hi
    obtain ⟨o,ho,_⟩:=df.pos A i B e
    have:=(List.getElem?_eq_some_iff.1 ho).1
    simpa using this
  have hmemL:∀i,i<ops.size→i ∈ L:=fun i hi=>df.all i (by simpa using hi)
  intro fuel
  induction fuel with
  | zero =>
    intro listed tm H β a w hsz hr hc he hs h
    have hnil:=List.eq_nil_of_length_eq_zero hr
    rw [hnil] at h
    refine ⟨?_,⟨tm,H⟩,β,h,hs,he⟩
    refine List.eq_nil_iff_forall_not_mem.2 fun i hi=>?_
    rw [mem_ready] at hi
    obtain ⟨h0,o,ho,_⟩:=hi
    have hlt:=(Array.getElem?_eq_some_iff.1 ho).1
    have:i ∈ rem L listed:=List.mem_filter.2 ⟨hmemL i hlt,by rw [h0];rfl⟩
    rw [hnil] at this
    cases this
  | succ fuel ih =>
    intro listed tm H β a w hsz hr hc he hs h
    refine ⟨fun hnil=>?_,fun i hi=>?_⟩
    · -- something is always ready
      exfalso
      obtain ⟨i,R,hR⟩:∃i R,rem L listed=i::R:=by
        cases hR:rem L listed with
        | nil=>rw [hR] at hr;simp at hr
        | cons i R=>exact ⟨i,R,rfl⟩
      obtain ⟨A,B,e,hA,hB⟩:=filter_split (L1:=[]) (by rw [List.nil_append];exact hR)
      obtain ⟨o,ho,hiA,hbA,_,_⟩:=df.pos A i B e
      have hin:i ∈ rem L listed:=by rw [hR];simp
      have hi2:=(List.mem_filter.1 hin).2
      have:i ∈ Region.ready .any ops listed:=by
        rw [mem_ready]
        refine ⟨by simpa using hi2,o,by rw [←Array.getElem?_toList];exact ho,fun ed hea heb=>?_⟩
        have hk:=hbA ed.on (mem_bnds hea heb)
        have hkL:ed.on ∈ L:=by rw [e];simp [hk]
        rw [←getD_true_false (by rw [hsz];exact hbound _ hkL)]
        cases hv:listed.getD ed.on true with
        | true=>rfl
        | false =>
          exfalso
          have:ed.on ∈ A.filter fun i=>!(listed.getD i true):=List.mem_filter.2 ⟨hk,by rw [hv];rfl⟩
          rw [hA] at this
          cases this
      rw [hnil] at this
      cases this
    · rw [mem_ready] at hi
      obtain ⟨h0,o,ho,hall⟩:=hi
      have hlt:=(Array.getElem?_eq_some_iff.1 ho).1
      have hmem:i ∈ rem L listed:=List.mem_filter.2 ⟨hmemL i hlt,by rw [h0];rfl⟩
      obtain ⟨L1,L2,hL⟩:=List.append_of_mem hmem
      obtain ⟨A,B,e,hA,hB⟩:=filter_split hL
      have hol:ops.toList[i]? = some o:=by rw [Array.getElem?_toList];exact ho
      obtain ⟨o',ho',hiA,hbA,hms,hfree⟩:=df.pos A i B e
      rw [hol] at ho'
      cases ho'
      have hiB:i ∉ B:=by
        intro hib
        obtain ⟨B1,B2,rfl⟩:=List.append_of_mem hib
        obtain ⟨_,_,hn,_⟩:=df.pos (A++i::B1) i B2 (by rw [e];simp)
        exact hn (by simp)
      have hbl:∀k ∈ bnds o,listed.getD k false=true:=by
        intro k hk
        obtain ⟨ed,hea,heb,rfl⟩:=of_bnds hk
        exact hall ed hea heb
      have hindep:∀j ∈ L1,∀oj,ops.toList[j]? = some oj→indep tt cfg ops.toList oj o=true:=by
        intro j hj oj hoj
        rw [←hA] at hj
        obtain ⟨hjA,hj2⟩:=List.mem_filter.1 hj
        rcases hfree j hjA oj hoj with hb | hb
        · exfalso
          have:=anc_listed df hc _ A i B rfl e o hol hbl j hb
          rw [getD_true_false (by rw [hsz];exact hbound j (by rw [e];simp [hjA])),this] at hj2
          simp at hj2
        · exact hb
      rw [hL] at h
      obtain ⟨x,H1,h1,h2⟩:=evI_front hinj hol hindep h
      have hrem:rem L (listed.setIfInBounds i true)=L1++L2:=by
        have hcg:∀l:List Nat,(∀k ∈ l,k≠i)→l.filter (fun k=>!((listed.setIfInBounds i true).getD k true))=l.filter (fun k=>!(listed.getD k true)):=by
          intro l hl
          refine List.filter_congr fun k hk=>?_
          rw [getD_set_ne true (Ne.symm (hl k hk))]
        unfold rem
        rw [e,List.filter_append,List.filter_cons,hcg A (fun k hk h=>hiA (h ▸ hk)),hcg B (fun k hk h=>hiB (h ▸ hk)),hA,hB]
        have:(listed.setIfInBounds i true).getD i true=true:=by
          by_cases hlt2:i<listed.size<;>simp [Array.getD,hlt2]
        rw [this]
        simp
      have hc':ClosedL ops.toList (listed.setIfInBounds i true):=by
        intro k ok hok hk j hj
        by_cases hki:k=i
        · subst hki
          rw [hol] at hok
          cases hok
          exact getD_set_true (hbl j hj)
        · rw [getD_set_ne false (Ne.symm hki)] at hk
          exact getD_set_true (hc k ok hok hk j hj)
      have hdef:∀v,(a.put o.dst v).defers=[]:=fun v=>by
        have:=hs.defers
        cases hd:o.dst<;>simpa [Act.put,hd] using this
      have hstep:=evV_step (K:=fun y G=>y=x∧G=H1) (next:=wpAny P .any ops (fun e a' w'=>∃s' β',Q e s'∧SR O β' a' w' s'∧Ext β0 w0 β' w') fuel (listed.setIfInBounds i true))
        (Q:=fun e a' w'=>∃s' β',Q e s'∧SR O β' a' w' s'∧Ext β0 w0 β' w') tok hs (h1 _ ⟨rfl,rfl⟩) (by
          rintro y G v β' w' ⟨rfl,rfl⟩ g1 g2 g3
          refine ih (listed.setIfInBounds i true) (putT tm o.dst y) G β' (a.put o.dst v) w' (by simpa using hsz) ?_ hc' (he.trans g3) ⟨hdef v,putT_sound o.dst (VRs.ext g3 _ _ hs.tm) g2,g1⟩ (by rw [hrem];exact h2)
          rw [hrem]
          rw [hL] at hr
          simp at hr ⊢
          omega)
      unfold wpOp
      rw [ho]
      simp only
      split
      · rename_i hw;rw [if_pos hw] at hstep;exact .inl hstep
      · rename_i hw;rw [if_neg hw] at hstep;exact hstep
end
end Go.Vm
namespace Go.Vm
variable [GlobTab]
def ev (P:Program) (tt:Nat→TI) (cfg:Cfg):Code→(Exit→S→Prop)→S→Prop
 | .skip,Q,s=>Q .normal s
 | .region i ops draw,Q,s =>
  match draw with
  | false=>evOps P tt cfg ops.toList ops.toList s.tm s.hp fun t h=>Q .normal ⟨t,h⟩
  | true =>
   match ordOf cfg.ord i with
   | none=>drawOK tt cfg ops.toList=true∧evOpsD P tt cfg (resv ops.toList s.hp.length) ops.toList ops.toList s.tm (s.hp++unb ops.toList) fun t h=>Q .normal ⟨t,h⟩
   | some L=>drawOKL tt cfg ops.toList L=true∧evI P tt cfg (resv ops.toList s.hp.length) ops.toList L s.tm (s.hp++unb ops.toList) fun t h=>Q .normal ⟨t,h⟩
 | .seq a b,Q,s=>ev P tt cfg a (andThen (ev P tt cfg b Q) Q) s
 | .cond c a b,Q,s =>
  match evT s.tm c with
  | .bool t=>(t=true→ev P tt cfg a Q s)∧(t=false→ev P tt cfg b Q s)
  | _=>False
 | .block id c,Q,s=>ev P tt cfg c (inBlk id Q) s
 | .loop c,Q,s=>T P (.loop c) Q s
 | .exit id,Q,s=>Q (.exit id) s
 | .ret,Q,s=>Q .ret s
 | .label _,Q,s=>Q .normal s
 | _,_,_=>False
def evRes (tt:Nat→TI):List ResultVar→List V→List Ob→(List V→Prop)→Prop
 | [],_,_,K=>K []
 | .tmp t::r,tm,H,K=>evRes tt r tm H fun vs=>K (getT tm t::vs)
 | .cell a t::r,tm,H,K =>
  match ldT (tt t) with
  | true=>(ldR (tt t) (getT tm a) true H).then fun v _=>evRes tt r tm H fun vs=>K (v::vs)
  | false=>False
def retV:List V→V
 | [v]=>v
 | vs=>.tup vs
mutual
def V.bel (n:Nat):V→Bool
 | .agg vs=>belAll n vs
 | .tup vs=>belAll n vs
 | .sl _ cells _=>belAll n cells
 | .fp cells=>belAll n cells
 | .buf id _ _ _ _=>Nat.blt id n
 | .ptr id _ _=>Nat.blt id n
 | .mp id=>Nat.blt id n
 | .ifc _ v=>v.bel n
 | .fn _ a b=>belAll n a&&belAll n b
 | .opt _ v=>v.bel n
 | _=>true
def belAll (n:Nat):List V→Bool
 | []=>true
 | v::vs=>v.bel n&&belAll n vs
end
def Ob.bel (n:Nat):Ob→Bool
 | .cells _ l=>belAll n l
 | .map es=>belAll n (es.map (·.1))&&belAll n (es.map (·.2))
 | _=>true
def belObs (n:Nat):List Ob→Bool
 | []=>true
 | o::os=>o.bel n&&belObs n os
section
variable {P:Program} {tt:Nat→TI} {cfg:Cfg} {O:Nat→Prop} {β:List Pl} {w:World}
theorem look_ge:∀ {ops:List Oper} {n:Nat} {d:Option Nat} {i:Nat},look (resv ops n) d=some i→n≤i
 | [],n,d,i,h=>by cases d<;>simp [resv,look] at h
 | o::r,n,d,i,h=>by
  unfold resv at h
  split at h
  ·cases d with
   | none=>simp [look] at h
   | some d =>
    simp only [look] at h
    split at h
    ·simp at h;omega
    ·have:=look_ge h;omega
  ·exact look_ge h
theorem resv_inj:∀(ops:List Oper) (n:Nat) (d d':Option Nat) (i:Nat),look (resv ops n) d=some i→look (resv ops n) d'=some i→d=d'
 | [],n,d,d',i,h,h'=>by cases d<;>simp [resv,look] at h
 | o::r,n,d,d',i,h,h'=>by
  unfold resv at h h'
  split at h
  ·rename_i d0 e1 e2
   rw [e1,e2] at h'
   simp only at h'
   cases d with
   | none=>simp [look] at h
   | some d =>
    cases d' with
    | none=>simp [look] at h'
    | some d' =>
     simp only [look] at h h'
     split at h
     ·rename_i hd
      split at h'
      ·rename_i hd'
       rw [←Nat.eq_of_beq_eq_true hd,←Nat.eq_of_beq_eq_true hd']
      ·simp at h
       have:=look_ge h'
       omega
     ·split at h'
      ·simp at h'
       have:=look_ge h
       omega
      ·exact resv_inj r (n+1) _ _ i h h'
  ·rename_i hn
   split at h'
   ·rename_i d0 e1 e2
    exact absurd e2 (hn d0 e1)
   ·exact resv_inj r n _ _ i h h'
theorem unb_all:∀(ops:List Oper),∀o ∈ unb ops,o=.unborn
 | [],o,h=>by simp [unb] at h
 | x::r,o,h=>by
  unfold unb at h
  split at h
  ·rcases List.mem_cons.1 h with h | h
   ·exact h
   ·exact unb_all r o h
  ·exact unb_all r o h
theorem un_SR {a:Act} {tm:List V} {H:List Ob} (hs:SR O β a w ⟨tm,H⟩):SR O (β++[.unborn]) a w ⟨tm,H++[.unborn]⟩∧Ext β w (β++[.unborn]) w:=by
 have hin:∀b,InB (β++[.unborn]) b→InB β b:=by
  rintro b ⟨i,l,h1,h2⟩
  rw [List.getElem?_append] at h1
  split at h1
  ·exact ⟨i,l,h1,h2⟩
  ·rw [List.getElem?_singleton] at h1
   split at h1
   ·simp at h1;subst h1;simp [Pl.block?] at h2
   ·simp at h1
 have he:Ext β w (β++[.unborn]) w:=by
  refine ⟨Nat.le_refl _,fun _ _ _=>rfl,rfl,rfl,rfl,fun b hb=>.inl (hin b hb),?_⟩
  intro i l hi
  rw [List.getElem?_append_left (List.getElem?_eq_some_iff.1 hi).1,hi]
  exact l.le_refl
 have hh:=hs.hp
 have hlen:β.length=H.length:=hh.len
 refine ⟨⟨hs.defers,VRs.ext he _ _ hs.tm,?_⟩,he⟩
 refine ⟨by simp [hlen],?_,?_,fun b h=>hh.lt b (hin b h),fun b h=>hh.apart b (hin b h),hh.old,hh.glob.sub fun b hb=>hb.imp id (hin b)⟩
 ·intro i loc o hi ho
  rw [List.getElem?_append] at hi ho
  rw [hlen] at hi
  split at hi
  ·rename_i h
   rw [if_pos h] at ho
   have h0:=hh.ob i loc o hi ho
   cases o with
   | unborn=>exact h0
   | dead=>exact h0
   | cells ver l =>
    simp only [ObR] at h0 ⊢
    refine Or.imp (fun h=>h) ?_ h0
    rintro ⟨b,base,cs,ty,h1,h2,h3,h4⟩
    exact ⟨b,base,cs,ty,h1,h2,h3,VRs.ext he _ _ h4⟩
   | map es =>
    simp only [ObR] at h0 ⊢
    obtain ⟨b,en,clock,h1,h2,h3,h4⟩:=h0
    exact ⟨b,en,clock,h1,h2,VRs.ext he _ _ h3,VRs.ext he _ _ h4⟩
  ·rename_i h
   rw [if_neg h,List.getElem?_singleton] at ho
   rw [List.getElem?_singleton] at hi
   split at hi
   ·rename_i h0
    rw [if_pos h0] at ho
    simp at hi ho
    subst hi ho
    simp [ObR]
   ·simp at hi
 ·intro i j l l' b h1 h2 h3 h4
  have key:∀(i:Nat) (l:Pl),(β++[.unborn])[i]? = some l→l.block? = some b→β[i]? = some l:=by
   intro i l h1 h3
   rw [List.getElem?_append] at h1
   split at h1
   ·exact h1
   ·rw [List.getElem?_singleton] at h1
    split at h1
    ·simp at h1;subst h1;simp [Pl.block?] at h3
    ·simp at h1
  exact hh.inj i j l l' b (key i l h1 h3) (key j l' h2 h4) h3 h4
theorem unb_SR {a:Act} {tm:List V}:∀ {J H:List Ob} {β:List Pl},(∀o ∈ J,o=.unborn)→SR O β a w ⟨tm,H⟩→∃β',SR O β' a w ⟨tm,H++J⟩∧Ext β w β' w
 | [],H,β,_,hs=>⟨β,by rw [List.append_nil];exact hs,Ext.refl β w⟩
 | o::J,H,β,hJ,hs=>by
  obtain rfl:=hJ o (by simp)
  obtain ⟨h1,h2⟩:=un_SR hs
  obtain ⟨β',h3,h4⟩:=unb_SR (J:=J) (fun o ho=>hJ o (by simp [ho])) h1
  exact ⟨β',by rw [List.append_assoc] at h3;exact h3,h2.trans h4⟩
theorem ev_sound (tok:TOK P tt) (hm:P.follows .mixedOrders=true):∀(c:Code) {Q:Exit→S→Prop} {s:S},ev P tt cfg c Q s→T P c Q s
 | .skip,Q,s,h=>T.skip h
 | .region id ops draw,Q,s,h=>by
  intro O β a w hs
  cases draw with
  | false =>
   simp only [ev] at h
   exact wp_region_list (evOps_sound tok ops.toList (Ext.refl β w) hs h)
  | true =>
   have h:∃L,drawOKL tt cfg ops.toList L=true∧evI P tt cfg (resv ops.toList s.hp.length) ops.toList L s.tm (s.hp++unb ops.toList) fun t h=>Q .normal ⟨t,h⟩:=by
    simp only [ev] at h
    split at h
    ·refine ⟨_,h.1,?_⟩
     have:=evI_range ops.toList [] rfl h.2
     rw [List.range_eq_range']
     exact this
    ·exact ⟨_,h⟩
   obtain ⟨L,h1,h2⟩:=h
   obtain ⟨ms,df⟩:=drawOK_facts h1
   refine wp_region_any hm ?_
   have hrem:rem L (Array.replicate ops.size false)=L:=by
    unfold rem
    rw [List.filter_eq_self.2]
    intro k hk
    obtain ⟨A,B,e⟩:=List.append_of_mem hk
    obtain ⟨o,ho,_⟩:=df.pos A k B e
    have:=(List.getElem?_eq_some_iff.1 ho).1
    rw [Array.length_toList] at this
    simp [this]
   have he:Ext β w β { w with drawn:=w.drawn+1 }:=⟨Nat.le_refl _,fun _ _ _=>rfl,rfl,rfl,rfl,fun _ h=>.inl h,fun i l hi=>by rw [hi];exact l.le_refl⟩
   have hs':SR O β a { w with drawn:=w.drawn+1 } s:=by
    refine ⟨hs.defers,VRs.ext he _ _ hs.tm,hs.hp.len,?_,hs.hp.inj,hs.hp.lt,hs.hp.apart,hs.hp.old,hs.hp.glob.ext he⟩
    intro i loc o hi ho
    have h0:=hs.hp.ob i loc o hi ho
    cases o with
    | unborn=>exact h0
    | dead=>exact h0
    | cells ver l =>
     simp only [ObR] at h0 ⊢
     refine Or.imp (fun h=>h) ?_ h0
     rintro ⟨b,base,cs,ty,h1,h2,h3,h4⟩
     exact ⟨b,base,cs,ty,h1,h2,h3,VRs.ext he _ _ h4⟩
    | map es =>
     simp only [ObR] at h0 ⊢
     obtain ⟨b,en,clock,h1,h2,h3,h4⟩:=h0
     exact ⟨b,en,clock,h1,h2,VRs.ext he _ _ h3,VRs.ext he _ _ h4⟩
   obtain ⟨β2,hs2,he2⟩:=unb_SR (unb_all ops.toList) hs'
   refine draw_sound tok (resv_inj ops.toList s.hp.length) df ops.size (Array.replicate ops.size false) s.tm (s.hp++unb ops.toList) β2 a _ (by simp) (by rw [hrem,df.len,Array.length_toList]) ?_ (he.trans he2) hs2 ?_
   ·intro i o _ hl
    by_cases hi:i<ops.size<;>simp [hi] at hl
   ·rw [hrem]
    exact h2
 | .seq a b,Q,s,h=>by
  simp only [ev] at h
  refine T.seq (T.mono (ev_sound tok hm a h) ?_)
  intro e s' h'
  cases e<;>simp only [andThen] at h' ⊢
  case normal=>exact ev_sound tok hm b h'
  all_goals exact h'
 | .cond c a b,Q,s,h=>by
  intro O β act w hs
  simp only [ev] at h
  have hv:=evT_sound hs.tm hs.hp.glob c
  split at h
  ·rename_i t ht
   rw [ht] at hv
   simp only [VR] at hv
   exact wp_cond_split hv (fun e=>ev_sound tok hm a (h.1 e) O β act w hs) (fun e=>ev_sound tok hm b (h.2 e) O β act w hs)
  ·exact h.elim
 | .block id c,Q,s,h=>by simp only [ev] at h;exact T.block (ev_sound tok hm c h)
 | .loop c,Q,s,h=>by simp only [ev] at h;exact h
 | .exit id,Q,s,h=>by simp only [ev] at h;exact T.exit h
 | .ret,Q,s,h=>by simp only [ev] at h;exact T.ret h
 | .label l,Q,s,h=>by simp only [ev] at h;exact T.label h
 | .rangeFunc _ _ _ _,Q,s,h=>by simp only [ev] at h
 | .scope _,Q,s,h=>by simp only [ev] at h
 | .goto _,Q,s,h=>by simp only [ev] at h
 | .refuse _,Q,s,h=>by simp only [ev] at h
theorem res_sound (tok:TOK P tt) {tm:List V} {H:List Ob} {tmps:Array Value} (hh:HR O β w H) (hv:VRs (Own O β) w β tm tmps.toList):∀ {rs:List ResultVar} {K:List V→Prop},evRes tt rs tm H K →
  ∃(xs:List V) (vs:List Value),K xs∧VRs (Own O β) w β xs vs ∧
   (rs.mapM fun | .tmp t=>pure (tmps.getD t undef) | .cell a t=>do loadVar t (←asAddr (tmps.getD a undef)):Sem (List Value)).run P w=.ok vs w
 | [],K,h=>⟨[],[],h,by simp [VRs],by simp⟩
 | .tmp t::rs,K,h=>by
  simp only [evRes] at h
  obtain ⟨xs,vs,h1,h2,h3⟩:=res_sound tok hh hv h
  have h4:=getT_sound t hv
  have e:tmps.toList.getD t undef=tmps.getD t undef:=by simp [List.getD,Array.getElem?_toList]
  rw [e] at h4
  exact ⟨_,tmps.getD t undef::vs,h1,by simp only [VRs];exact ⟨h4,h2⟩,by simp only [List.mapM_cons,Sem.run_bind,Sem.run_pure,Result.andThen_ok,h3]⟩
 | .cell a t::rs,K,h=>by
  simp only [evRes] at h
  split at h
  ·rename_i ht
   have h4:=getT_sound a hv
   have e:tmps.toList.getD a undef=tmps.getD a undef:=by simp [List.getD,Array.getElem?_toList]
   rw [e] at h4
   obtain ⟨ad,u,y,hp,hr,hk,hvr⟩:=ld_same tok hh ht h4 h
   obtain ⟨xs,vs,h1,h2,h3⟩:=res_sound tok hh hv hk
   refine ⟨_,u::vs,h1,by simp only [VRs];exact ⟨hvr,h2⟩,?_⟩
   have ha:(asAddr (.pointer (some ad))).run P w=.ok ad w:=rfl
   simp only [List.mapM_cons,Sem.run_bind,hp,ha,Sem.run_pure,Result.andThen_ok,hr,h3]
  ·exact h.elim
mutual
theorem VR.take {n:Nat}:∀(x:V) (v:Value),x.bel n=true→VR (Own O β) w β x v→VR (Own O (β.take n)) w (β.take n) x v
 | .int _ _,v,_,h=>by simpa only [VR] using h
 | .bool _,v,_,h=>by simpa only [VR] using h
 | .str _,v,_,h=>by simpa only [VR] using h
 | .nilp,v,_,h=>by simpa only [VR] using h
 | .nili,v,_,h=>by simpa only [VR] using h
 | .nilf,v,_,h=>by simpa only [VR] using h
 | .nilm,v,_,h=>by simpa only [VR] using h
 | .raw _,v,_,h=>by simpa only [VR] using h
 | .agg vs,v,hb,h=>by
  simp only [V.bel] at hb
  simp only [VR] at h ⊢
  obtain ⟨l,h1,h2⟩:=h
  exact ⟨l,h1,VRs.takeB vs l hb h2⟩
 | .tup vs,v,hb,h=>by
  simp only [V.bel] at hb
  simp only [VR] at h ⊢
  obtain ⟨l,h1,h2⟩:=h
  exact ⟨l,h1,VRs.takeB vs l hb h2⟩
 | .sl isnil cells len,v,hb,h=>by
  simp only [V.bel] at hb
  simp only [VR] at h ⊢
  refine Or.imp (fun h=>h) ?_ h
  rintro ⟨h0,b,off,cap,l,h1,h2,h3,h4,h5,h6⟩
  exact ⟨h0,b,off,cap,l,h1,h2,h3,own_take h4,h5,VRs.takeB cells l hb h6⟩
 | .fp cells,v,hb,h=>by
  simp only [V.bel] at hb
  simp only [VR] at h ⊢
  obtain ⟨b,off,l,h1,h3,h4,h5,h6⟩:=h
  exact ⟨b,off,l,h1,h3,own_take h4,h5,VRs.takeB cells l hb h6⟩
 | .buf id ver off len sz,v,hb,h=>by
  simp only [V.bel] at hb
  simp only [VR] at h ⊢
  rw [List.getElem?_take_of_lt (by simpa using hb)];exact h
 | .ptr id ver off,v,hb,h=>by
  simp only [V.bel] at hb
  simp only [VR] at h ⊢
  rw [List.getElem?_take_of_lt (by simpa using hb)];exact h
 | .mp id,v,hb,h=>by
  simp only [V.bel] at hb
  simp only [VR] at h ⊢
  rw [List.getElem?_take_of_lt (by simpa using hb)];exact h
 | .ifc t x,v,hb,h=>by
  simp only [V.bel] at hb
  simp only [VR] at h ⊢
  obtain ⟨y,h1,h2⟩:=h
  exact ⟨y,h1,VR.take x y hb h2⟩
 | .fn f a b,v,hb,h=>by
  simp only [V.bel,Bool.and_eq_true] at hb
  simp only [VR] at h ⊢
  obtain ⟨la,lb,h1,h2,h3⟩:=h
  exact ⟨la,lb,h1,VRs.takeB a la hb.1 h2,VRs.takeB b lb hb.2 h3⟩
 | .opt g x,v,hb,h=>by
  simp only [V.bel] at hb
  simp only [VR] at h ⊢
  exact ⟨fun hg=>VR.take x v hb (h.1 hg),h.2⟩
 | .dead,v,_,h=>by simp only [VR]
theorem VRs.takeB {n:Nat}:∀(xs:List V) (vs:List Value),belAll n xs=true→VRs (Own O β) w β xs vs→VRs (Own O (β.take n)) w (β.take n) xs vs
 | [],[],_,_=>by simp only [VRs]
 | x::xs,y::ys,hb,h=>by
  simp only [belAll,Bool.and_eq_true] at hb
  simp only [VRs] at h ⊢
  exact ⟨VR.take x y hb.1 h.1,VRs.takeB xs ys hb.2 h.2⟩
 | [],_::_,_,h=>by simp only [VRs] at h
 | _::_,[],_,h=>by simp only [VRs] at h
theorem own_take {n b:Nat} (h:¬Own O β b):¬Own O (β.take n) b:=by
 rintro (h1 | ⟨i,l,h1,h2⟩)
 ·exact h (.inl h1)
 ·refine h (.inr ⟨i,l,?_,h2⟩)
  rw [List.getElem?_take] at h1
  split at h1
  ·exact h1
  ·simp at h1
end
theorem belObs_get {n:Nat}:∀ {H:List Ob} {i:Nat} {o:Ob},belObs n H=true→H[i]? = some o→o.bel n=true
 | [],i,o,_,h=>by simp at h
 | x::xs,0,o,hb,h=>by simp only [belObs,Bool.and_eq_true] at hb;simp at h;subst h;exact hb.1
 | x::xs,i+1,o,hb,h=>by simp only [belObs,Bool.and_eq_true] at hb;exact belObs_get hb.2 (by simpa using h)
theorem HR.take {H J:List Ob} (hh:HR O β w (H++J)) (hb:belObs H.length H=true):HR O (β.take H.length) w H:=by
 have hin:∀b,InB (β.take H.length) b→InB β b:=by
  rintro b ⟨i,l,h1,h2⟩
  refine ⟨i,l,?_,h2⟩
  rw [List.getElem?_take] at h1
  split at h1
  ·exact h1
  ·simp at h1
 have hget:∀(i:Nat) (l:Pl),(β.take H.length)[i]? = some l→β[i]? = some l:=by
  intro i l h1
  rw [List.getElem?_take] at h1
  split at h1
  ·exact h1
  ·simp at h1
 refine ⟨by have:=hh.len;simp at this ⊢;omega,?_,fun i j l l' b h1 h2=>hh.inj i j l l' b (hget _ _ h1) (hget _ _ h2),fun b h=>hh.lt b (hin b h),fun b h=>hh.apart b (hin b h),hh.old,hh.glob.sub fun b hb=>hb.imp id (hin b)⟩
 intro i loc o hi ho
 have hbo:=belObs_get hb ho
 have h0:=hh.ob i loc o (hget _ _ hi) (by rw [List.getElem?_append_left (List.getElem?_eq_some_iff.1 ho).1];exact ho)
 cases o with
 | unborn=>exact h0
 | dead=>exact h0
 | cells ver l =>
  simp only [Ob.bel] at hbo
  simp only [ObR] at h0 ⊢
  refine Or.imp (fun h=>h) ?_ h0
  rintro ⟨b,base,cs,ty,h1,h2,h3,h4⟩
  exact ⟨b,base,cs,ty,h1,h2,h3,VRs.takeB _ _ hbo h4⟩
 | map es =>
  simp only [Ob.bel,Bool.and_eq_true] at hbo
  simp only [ObR] at h0 ⊢
  obtain ⟨b,en,clock,h1,h2,h3,h4⟩:=h0
  exact ⟨b,en,clock,h1,h2,VRs.takeB _ _ hbo.1 h3,VRs.takeB _ _ hbo.2 h4⟩
theorem Ext.take {β0:List Pl} {w0:World} {n:Nat} (h:Ext β0 w0 β w) (hn:β0.length≤n):Ext β0 w0 (β.take n) w:=by
 refine ⟨h.size,h.keep,h.os,h.tape,h.output,?_,?_⟩
 ·rintro b ⟨i,l,h1,h2⟩
  refine h.fresh b ⟨i,l,?_,h2⟩
  rw [List.getElem?_take] at h1
  split at h1
  ·exact h1
  ·simp at h1
 ·intro i l hi
  have:=h.loc i l hi
  have hlt:=(List.getElem?_eq_some_iff.1 hi).1
  rw [List.getElem?_take_of_lt (by omega)]
  exact this
theorem deads_VRs {own:Nat→Prop}:∀(n:Nat),VRs own w β (List.replicate n .dead) (List.replicate n undef)
 | 0=>by simp [VRs]
 | n+1=>by simp only [List.replicate_succ,VRs,VR,true_and];exact deads_VRs n
def atEnd (tt:Nat→TI) (rs:List ResultVar) (n:Nat) (v:V) (H':List Ob):Exit→S→Prop
 | .normal,s=>evRes tt rs s.tm s.hp fun vs=>retV vs=v∧∃J,s.hp=H'++J∧n≤H'.length∧v.bel H'.length=true∧belObs H'.length H'=true
 | .ret,s=>evRes tt rs s.tm s.hp fun vs=>retV vs=v∧∃J,s.hp=H'++J∧n≤H'.length∧v.bel H'.length=true∧belObs H'.length H'=true
 | _,_=>False
theorem GCall.of_T (tok:TOK P tt) {n:Nat} {fn:Func} {c:Code} {args:List V} {H H':List Ob} {v:V} (hf:P.funcs[n]? = some fn) (hb:fn.body=some c)
  (hc:∀(vals:Array Value) (w:World),(callFunc n vals).run P w=.ok (.enter n vals) w)
  (h:T P c (atEnd tt fn.results.toList H.length v H') ⟨args++List.replicate (fn.ntmps-args.length) .dead,H⟩):GCall P n args H v H':=by
 refine ⟨hc,fun O β w vals hh hv=>?_⟩
 have hlen:=hv.length
 refine calls_of_wp hf hb ?_
 have hs:SR O β { tmps:=vals.toArray++Array.replicate (fn.ntmps-vals.toArray.size) undef,defers:=[] } w ⟨args++List.replicate (fn.ntmps-args.length) .dead,H⟩:=by
  refine ⟨rfl,?_,hh⟩
  have:=hv.append (deads_VRs (own:=Own O β) (w:=w) (β:=β) (fn.ntmps-args.length))
  simpa [hlen] using this
 refine wp_mono (h O β _ w hs) ?_
 rintro e a' w' ⟨s',β',hq,hs',he⟩
 have key:(evRes tt fn.results.toList s'.tm s'.hp fun vs=>retV vs=v∧∃J,s'.hp=H'++J∧H.length≤H'.length∧v.bel H'.length=true∧belObs H'.length H'=true) →
   a'.defers=[]∧∃u,(results fn a'.tmps).run P w'=.ok u w'∧∃u' β',Ending.returned u=.returned u'∧HR O β' w' H'∧VR (Own O β') w' β' v u'∧Ext β w β' w':=by
  intro hr
  obtain ⟨xs,us,⟨h1,J,h2,h3,h4,h5⟩,h6,h7⟩:=res_sound tok hs'.hp hs'.tm hr
  refine ⟨hs'.defers,?_⟩
  have hhp:=hs'.hp
  rw [h2] at hhp
  have hul:=h6.length
  have hrun:(results fn a'.tmps).run P w'=.ok (if h:us.toArray.size=1 then us.toArray[0] else .tuple us.toArray) w':=by
   unfold results
   rw [Array.mapM_eq_mapM_toList,Sem.run_bind,Sem.run_map]
   refine (congrArg (fun (r:Result (List Value))=>(r.andThen fun a w'=>Result.ok a.toArray w').andThen fun (vs:Array Value) w'=>(pure (if h:vs.size=1 then vs[0] else .tuple vs):Sem Value).run P w') h7).trans ?_
   rfl
  refine ⟨_,hrun,_,β'.take H'.length,rfl,HR.take hhp h5,?_,he.take (by rw [hh.len];exact h3)⟩
  rw [←h1] at h4 ⊢
  match xs,us,h6,h4 with
  | [],[],_,_=>simp only [retV,VR];exact ⟨[],by simp,by simp [VRs]⟩
  | [x],[u],h6,h4 =>
   simp only [VRs,and_true] at h6
   simpa [retV] using VR.take x u h4 h6
  | x::y::xs,u::u2::us,h6,h4 =>
   simp only [retV,V.bel] at h4
   have:=VRs.takeB _ _ h4 h6
   simp only [retV,VR]
   exact ⟨_,by simp,this⟩
 cases e<;>simp only [atEnd] at hq<;>simp only [bodyPost]
 case normal=>exact key hq
 case ret=>exact key hq
def PC (P:Program) (n:Nat) (args:List V) (v:V):Prop:=∀H,GCall P n args H v H
mutual
theorem VR.up {own:Nat→Prop} {β1:List Pl}:∀(x:V) (v:Value),x.bel 0=true→VR own w β x v→VR own w β1 x v
 | .int _ _,v,_,h=>by simpa only [VR] using h
 | .bool _,v,_,h=>by simpa only [VR] using h
 | .str _,v,_,h=>by simpa only [VR] using h
 | .nilp,v,_,h=>by simpa only [VR] using h
 | .nili,v,_,h=>by simpa only [VR] using h
 | .nilf,v,_,h=>by simpa only [VR] using h
 | .nilm,v,_,h=>by simpa only [VR] using h
 | .raw _,v,_,h=>by simpa only [VR] using h
 | .agg vs,v,hb,h=>by
  simp only [V.bel] at hb
  simp only [VR] at h ⊢
  obtain ⟨l,h1,h2⟩:=h
  exact ⟨l,h1,VRs.up vs l hb h2⟩
 | .tup vs,v,hb,h=>by
  simp only [V.bel] at hb
  simp only [VR] at h ⊢
  obtain ⟨l,h1,h2⟩:=h
  exact ⟨l,h1,VRs.up vs l hb h2⟩
 | .sl isnil cells len,v,hb,h=>by
  simp only [V.bel] at hb
  simp only [VR] at h ⊢
  refine Or.imp (fun h=>h) ?_ h
  rintro ⟨h0,b,off,cap,l,h1,h2,h3,h4,h5,h6⟩
  exact ⟨h0,b,off,cap,l,h1,h2,h3,h4,h5,VRs.up cells l hb h6⟩
 | .fp cells,v,hb,h=>by
  simp only [V.bel] at hb
  simp only [VR] at h ⊢
  obtain ⟨b,off,l,h1,h3,h4,h5,h6⟩:=h
  exact ⟨b,off,l,h1,h3,h4,h5,VRs.up cells l hb h6⟩
 | .buf id ver off len sz,v,hb,h=>by simp [V.bel] at hb
 | .ptr id ver off,v,hb,h=>by simp [V.bel] at hb
 | .mp id,v,hb,h=>by simp [V.bel] at hb
 | .ifc t x,v,hb,h=>by
  simp only [V.bel] at hb
  simp only [VR] at h ⊢
  obtain ⟨y,h1,h2⟩:=h
  exact ⟨y,h1,VR.up x y hb h2⟩
 | .fn f a b,v,hb,h=>by
  simp only [V.bel,Bool.and_eq_true] at hb
  simp only [VR] at h ⊢
  obtain ⟨la,lb,h1,h2,h3⟩:=h
  exact ⟨la,lb,h1,VRs.up a la hb.1 h2,VRs.up b lb hb.2 h3⟩
 | .opt g x,v,hb,h=>by
  simp only [V.bel] at hb
  simp only [VR] at h ⊢
  exact ⟨fun hg=>VR.up x v hb (h.1 hg),h.2⟩
 | .dead,v,_,h=>by simp only [VR]
theorem VRs.up {own:Nat→Prop} {β1:List Pl}:∀(xs:List V) (vs:List Value),belAll 0 xs=true→VRs own w β xs vs→VRs own w β1 xs vs
 | [],[],_,_=>by simp only [VRs]
 | x::xs,y::ys,hb,h=>by
  simp only [belAll,Bool.and_eq_true] at hb
  simp only [VRs] at h ⊢
  exact ⟨VR.up x y hb.1 h.1,VRs.up xs ys hb.2 h.2⟩
 | [],_::_,_,h=>by simp only [VRs] at h
 | _::_,[],_,h=>by simp only [VRs] at h
end
theorem PC.of_T (tok:TOK P tt) {n:Nat} {fn:Func} {c:Code} {args:List V} {v:V} (hf:P.funcs[n]? = some fn) (hb:fn.body=some c)
  (hc:∀(vals:Array Value) (w:World),(callFunc n vals).run P w=.ok (.enter n vals) w) (ha:belAll 0 args=true)
  (h:T P c (atEnd tt fn.results.toList 0 v []) ⟨args++List.replicate (fn.ntmps-args.length) .dead,[]⟩) (hv:v.bel 0=true):PC P n args v:=by
 intro H
 have h0:=(GCall.of_T tok (H:=[]) hf hb hc h)
 refine ⟨hc,fun O β w vals hh hva=>?_⟩
 have hO:HR (Own O β) [] w []:=⟨rfl,fun i loc o hi _=>by simp at hi,fun i j l l' b hi=>by simp at hi,fun b ⟨i,l,hi,_⟩=>by simp at hi,fun b ⟨i,l,hi,_⟩=>by simp at hi,(by
  rintro b (hb | hb)
  ·exact hh.old b hb
  ·exact hh.lt b hb),hh.glob.nil⟩
 have hown:Own (Own O β) []=Own O β:=by
  funext b
  refine propext ⟨?_,fun h=>.inl h⟩
  rintro (h | ⟨i,l,hi,_⟩)
  ·exact h
  ·simp at hi
 refine (h0.2 (Own O β) [] w vals hO (by rw [hown];exact VRs.up args vals ha hva)).mono ?_
 rintro e w' ⟨u,β',rfl,g1,g2,g3⟩
 have hb':β'=[]:=List.eq_nil_of_length_eq_zero (by rw [g1.len];rfl)
 subst hb'
 rw [hown] at g2
 have he:Ext β w β w':=⟨g3.size,fun b hb _=>g3.keep b hb (fun ⟨i,l,hi,_⟩=>by simp at hi),g3.os,g3.tape,g3.output,fun _ h=>.inl h,fun i l hi=>by rw [hi];exact l.le_refl⟩
 refine ⟨u,β,rfl,?_,VR.up v u hv g2,he⟩
 refine ⟨hh.len,?_,hh.inj,fun b hb=>Nat.lt_of_lt_of_le (hh.lt b hb) he.size,hh.apart,fun b hb=>Nat.lt_of_lt_of_le (hh.old b hb) he.size,hh.glob.ext he⟩
 intro i loc o hi ho
 have h0:=hh.ob i loc o hi ho
 have hkeep:∀b,loc.block? = some b→w'.heap[b]? = w.heap[b]?:=fun b hb=>g3.keep b (hh.lt b ⟨i,loc,hi,hb⟩) (fun ⟨i,l,hi,_⟩=>by simp at hi)
 cases o with
 | unborn=>exact h0
 | dead=>exact h0
 | cells ver l =>
  simp only [ObR] at h0 ⊢
  refine Or.imp (fun h=>h) ?_ h0
  rintro ⟨b,base,cs,ty,h1,h2,h3,h4⟩
  exact ⟨b,base,cs,ty,h1,by rw [hkeep b (by rw [h1];rfl)];exact h2,h3,VRs.ext he _ _ h4⟩
 | map es =>
  simp only [ObR] at h0 ⊢
  obtain ⟨b,en,clock,h1,h2,h3,h4⟩:=h0
  exact ⟨b,en,clock,h1,by rw [hkeep b (by rw [h1];rfl)];exact h2,VRs.ext he _ _ h3,VRs.ext he _ _ h4⟩
end
end Go.Vm
namespace Go.Vm
variable [GlobTab]
mutual
def flatP (P:Program):Nat→Nat→Option (List TK)
 | 0,_=>none
 | n+1,t =>
  match P.underlying t with
  | some (.int k)=>some [.int k]
  | some .bool=>some [.bool]
  | some .string=>some [.str]
  | some (.struct fs)=>if P.stoodInHeld t then none else flatFs P n fs.toList 0
  | _=>none
def flatFs (P:Program):Nat→List Field→Nat→Option (List TK)
 | _,[],_=>some []
 | 0,_::_,_=>none
 | n+1,f::fs,off =>
  if f.name≠ "_"∧f.offset=off then
   match flatP P n f.type,P.info? f.type with
   | some ks,some i=>if i.size=ks.length∧0<ks.length then (flatFs P n fs (off+ks.length)).map (ks++·) else none
   | _,_=>none
  else none
end
section
variable {P:Program} {w:World}
theorem eqC_len:∀ {ks:List TK} {xs ys:List Value} {b:Bool},eqC ks xs ys=some b→xs.length=ks.length∧ys.length=ks.length:=by
 intro ks
 induction ks with
 | nil =>
  intro xs ys b h
  cases xs<;>cases ys<;>simp [eqC] at h ⊢
 | cons k ks ih =>
  intro xs ys b h
  cases k<;>cases xs<;>cases ys<;>(try (simp [eqC] at h;done))
  all_goals rename_i x xs y ys
  all_goals cases x<;>cases y<;>(try (simp [eqC] at h;done))
  ·simp only [eqC] at h
   split at h
   ·rw [Option.map_eq_some_iff] at h
    obtain ⟨r,hr,_⟩:=h
    have:=ih hr
    simp [this.1,this.2]
   ·simp at h
  ·simp only [eqC] at h
   rw [Option.map_eq_some_iff] at h
   obtain ⟨r,hr,_⟩:=h
   have:=ih hr
   simp [this.1,this.2]
  ·simp only [eqC] at h
   rw [Option.map_eq_some_iff] at h
   obtain ⟨r,hr,_⟩:=h
   have:=ih hr
   simp [this.1,this.2]
theorem eqC_append:∀ {k1 k2:List TK} {xs ys:List Value} {b:Bool},eqC (k1++k2) xs ys=some b →
  ∃b1 b2,eqC k1 (xs.take k1.length) (ys.take k1.length)=some b1∧eqC k2 (xs.drop k1.length) (ys.drop k1.length)=some b2∧b=(b1&&b2):=by
 intro k1
 induction k1 with
 | nil=>intro k2 xs ys b h;exact ⟨true,b,by simp [eqC],by simpa using h,by simp⟩
 | cons k ks ih =>
  intro k2 xs ys b h
  cases k<;>cases xs<;>cases ys<;>(try (simp [eqC] at h;done))
  all_goals rename_i x xs y ys
  all_goals cases x<;>cases y<;>(try (simp [eqC] at h;done))
  ·rename_i ka a kc c
   simp only [List.cons_append,eqC] at h
   split at h
   ·rename_i hk
    rw [Option.map_eq_some_iff] at h
    obtain ⟨r,hr,rfl⟩:=h
    obtain ⟨b1,b2,h1,h2,rfl⟩:=ih hr
    refine ⟨a==c&&b1,b2,?_,by simpa using h2,?_⟩
    ·simp only [List.length_cons,List.take_succ_cons,eqC,if_pos hk,h1,Option.map_some]
    ·rw [Bool.and_assoc]
   ·simp at h
  all_goals
   rename_i a c
   simp only [List.cons_append,eqC] at h
   rw [Option.map_eq_some_iff] at h
   obtain ⟨r,hr,rfl⟩:=h
   obtain ⟨b1,b2,h1,h2,rfl⟩:=ih hr
   refine ⟨a==c&&b1,b2,?_,by simpa using h2,?_⟩
   ·simp only [List.length_cons,List.take_succ_cons,eqC,h1,Option.map_some]
   ·rw [Bool.and_assoc]
def ofCells (agg:Bool) (xs:List Value):Value:=if agg then .agg xs.toArray else xs.headD undef
def isAggD:TypeDesc→Bool | .struct _ | .array _ _=>true | _=>false
mutual
theorem flatP_sound (w:World):∀(n:Nat) {t:Nat} {ks:List TK} {xs ys:List Value} {b:Bool} {d:TypeDesc} (m:Nat),P.underlying t=some d→flatP P n t=some ks→eqC ks xs ys=some b→n≤m →
  (Op.equalIn m t (ofCells (isAggD d) xs) (ofCells (isAggD d) ys)).run P w=.ok b w
 | 0,t,ks,xs,ys,b,d,m,hd,h,he,hm=>by simp [flatP] at h
 | n+1,t,ks,xs,ys,b,d,0,hd,h,he,hm=>by omega
 | n+1,t,ks,xs,ys,b,d,m+1,hd,h,he,hm=>by
  simp only [flatP,hd] at h
  split at h
  ·rename_i k e
   cases e
   simp only [Option.some.injEq] at h;subst h
   have hl:=eqC_len he
   match xs,ys,hl,he with
   | [x],[y],_,he =>
    cases x<;>cases y<;>(try (simp [eqC] at he;done))
    simp only [eqC] at he
    split at he
    ·rename_i hk
     obtain ⟨rfl,rfl⟩:=hk
     simp at he
     simp [ofCells,isAggD,run_equalIn_int w m t _ k _ _ hd,←he]
    ·simp at he
  ·rename_i e
   cases e
   simp only [Option.some.injEq] at h;subst h
   have hl:=eqC_len he
   match xs,ys,hl,he with
   | [x],[y],_,he =>
    cases x<;>cases y<;>(try (simp [eqC] at he;done))
    simp [eqC] at he
    simp [ofCells,isAggD,run_equalIn_bool w m t _ _ hd,←he]
  ·rename_i e
   cases e
   simp only [Option.some.injEq] at h;subst h
   have hl:=eqC_len he
   match xs,ys,hl,he with
   | [x],[y],_,he =>
    cases x<;>cases y<;>(try (simp [eqC] at he;done))
    rename_i a c hl2
    simp [eqC] at he
    have:(Op.equalIn (m+1) t (.string a) (.string c)).run P w=.ok (a==c) w:=by simp [Op.equalIn,run_underlying hd]
    simp [ofCells,isAggD,this,←he]
  ·rename_i fs e
   cases e
   split at h
   ·simp at h
   ·rename_i hst
    have hf:P.fieldsOf t=fs:=by simp [Program.fieldsOf,hd]
    have:=flatFs_sound w n (off:=0) m h (by simpa using he) (by omega)
    simp only [ofCells,isAggD,if_true]
    rw [run_equalIn_struct w m t _ _ (by rw [hf];exact hd) (by simpa using hst),hf]
    exact this
  ·simp at h
theorem flatFs_sound (w:World):∀(n:Nat) {fs:List Field} {off:Nat} {ks:List TK} {xs ys:List Value} {b:Bool} (m:Nat),flatFs P n fs off=some ks→eqC ks (xs.drop off) (ys.drop off)=some b→n≤m →
  (Op.eqFields m xs.toArray ys.toArray fs).run P w=.ok b w
 | _,[],off,ks,xs,ys,b,m,h,he,hm=>by
  simp only [flatFs,Option.some.injEq] at h
  subst h
  have hl:=eqC_len he
  rw [List.eq_nil_of_length_eq_zero hl.1,List.eq_nil_of_length_eq_zero hl.2] at he
  simp [eqC] at he
  simp [Op.eqFields,←he]
 | 0,_::_,off,ks,xs,ys,b,m,h,he,hm=>by simp [flatFs] at h
 | n+1,f::fs,off,ks,xs,ys,b,m,h,he,hm=>by
  simp only [flatFs] at h
  split at h
  ·rename_i hn
   obtain ⟨hn,rfl⟩:=hn
   split at h
   ·rename_i k1 i h1 hi
    split at h
    ·rename_i hsz
     obtain ⟨hsz,hpos⟩:=hsz
     rw [Option.map_eq_some_iff] at h
     obtain ⟨k2,h2,rfl⟩:=h
     obtain ⟨b1,b2,g1,g2,rfl⟩:=eqC_append he
     have hl:=eqC_len he
     simp at hl
     obtain ⟨d,hd⟩:∃d,P.underlying f.type=some d:=by
      cases n with
      | zero=>simp [flatP] at h1
      | succ n =>
       simp only [flatP] at h1
       cases hd:P.underlying f.type with
       | none=>rw [hd] at h1;simp at h1
       | some d=>exact ⟨d,rfl⟩
     have e1:=flatP_sound w n m hd h1 g1 (by omega)
     have e2:=flatFs_sound w n (off:=f.offset+k1.length) m (xs:=xs) (ys:=ys) h2 (by rw [←List.drop_drop,←List.drop_drop];exact g2) (by omega)
     have hpart:∀zs:List Value,f.offset+k1.length≤zs.length→(part f.type zs.toArray f.offset).run P w=.ok (ofCells (isAggD d) ((zs.drop f.offset).take k1.length)) w:=by
      intro zs hz
      have hag:(isAgg f.type).run P w=.ok (isAggD d) w:=by
       unfold isAgg
       rw [Sem.run_bind,run_underlying hd w]
       cases d<;>rfl
      cases hda:isAggD d with
      | true =>
       simp [part,Sem.run_bind,hag,hda,sizeOf,typeInfo,hi,hsz,ofCells,List.extract_eq_take_drop,Nat.add_sub_cancel_left]
      | false =>
       have hk1:k1.length=1:=by
        cases n with
        | zero=>simp [flatP] at h1
        | succ n =>
         simp only [flatP,hd] at h1
         cases d<;>simp [isAggD] at hda h1<;>rw [←h1]<;>rfl
       rw [hk1] at hz ⊢
       have hx:zs[f.offset]? = some zs[f.offset]:=List.getElem?_eq_getElem (by omega)
       simp [part,Sem.run_bind,hag,hda,hx,ofCells,List.take_one,List.head?_drop]
     have p1:=hpart xs (by omega)
     have p2:=hpart ys (by omega)
     simp only [Op.eqFields,if_pos hn,Sem.run_bind,p1,p2,Result.andThen_ok,e1,Sem.run_ite,Sem.run_pure,e2]
     cases b1<;>simp
    ·simp at h
   ·simp at h
  ·simp at h
end
def matchK (d:TypeDesc) (k:TK):Bool :=
 match d,k with
 | .int a,.int b=>kindEq a b
 | .bool,.bool=>true
 | .string,.str=>true
 | .pointer e,.ptr e'=>e==e'
 | .slice e,.slice e'=>e==e'
 | .array n e,.arr n' e'=>n==n'&&e==e'
 | .struct fields,.struct fs=>fields.toList.map (fun f=>(f.offset,f.type))==fs
 | .interface _,.iface=>true
 | .map k e,.map k' e'=>k==k'&&e==e'
 | .func _ _ _,.func=>true
 | _,_=>false
theorem matchK_sound {d:TypeDesc} {ti:TI} (h:matchK d ti.k=true) (ha:ti.agg=isAggD d):descOK d ti:=by
 refine ⟨by rw [ha];cases d<;>rfl,?_⟩
 revert h
 generalize ti.k=k
 intro h
 unfold matchK at h
 split at h<;>(try (simp at h;done))<;>simp at h ⊢
 all_goals first
  | exact kindEq_iff.1 h
  | exact h
  | exact ⟨_,rfl,h⟩
def rowOK (P:Program) (t:Nat) (ti:TI):Bool :=
 match P.info? t,P.underlying t with
 | some i,some d=>i.size==ti.size&&i.bytes==ti.bytes&&matchK d ti.k&&(match ti.k with | .str=>i.comparable | _=>true)&&(!ti.cmp||(i.comparable && !(P.stoodInHeld t)&&(match d with | .struct fields=>fields.toList.all fun f=>f.name != "_" | _=>true)))&&(ti.agg==isAggD d)&&(!ti.agg||ti.flat.isEmpty||(!(P.eqGuardType P.depth t)))
 | _,_=>false
theorem TIok.of_row {t:Nat} {ti:TI} (h:rowOK P t ti=true) {z:Value} (hz:(P.info? t).bind (·.zero)=some z) (hzr:∀own w β,VR own w β ti.zero z) (hzs:z.cells.size=ti.size)
  (hzl:ti.zero.cells.length=ti.size) (hf:ti.agg=true→ti.flat=[]∨flatP P 20 t=some ti.flat):TIok P t ti:=by
 unfold rowOK at h
 split at h
 ·rename_i i d hi hd
  simp only [Bool.and_eq_true,beq_iff_eq,Bool.or_eq_true,Bool.not_eq_true'] at h
  obtain ⟨⟨⟨⟨⟨⟨h1,h2⟩,h3⟩,hcm⟩,hky⟩,h4⟩,h5⟩:=h
  rw [hi] at hz
  refine ⟨⟨i,z,hi,h1,h2,hz,hzr,hzs,hzl⟩,⟨d,hd,matchK_sound h3 h4⟩,fun hs=>⟨i,hi,by rw [hs] at hcm;exact hcm⟩,fun hk=>?_,fun ha hn=>?_,fun ha hn w xs ys b hb=>?_⟩
  ·rcases hky with hky | hky
   ·rw [hk] at hky;simp at hky
   ·obtain ⟨⟨k1,k2⟩,k3⟩:=hky
    refine ⟨⟨i,hi,k1⟩,k2,fun fields hf f hfm=>?_⟩
    rw [hd] at hf
    simp only [Option.some.injEq] at hf
    subst hf
    have:=List.all_eq_true.1 k3 f hfm
    simpa using this
  ·rcases h5 with (h5 | h5) | h5
   ·rw [ha] at h5;simp at h5
   ·exact absurd (List.isEmpty_iff.1 h5) hn
   ·exact h5
  ·rcases hf ha with h0 | h0
   ·exact (hn h0).elim
   ·have:=flatP_sound w 20 10000 hd h0 hb (by decide)
    rw [←h4,ha] at this
    simpa [ofCells,Op.equal,Op.maxDepth] using this
 ·simp at h
def AllOK (P:Program):Nat→List TI→Prop
 | _,[]=>True
 | i,x::xs=>(x.k≠.other→TIok P i x)∧AllOK P (i+1) xs
def ttOf (l:List TI) (t:Nat):TI:=match l,t with
 | [],_=>TI.none
 | x::_,0=>x
 | _::xs,n+1=>ttOf xs n
theorem tok_of:∀ {l:List TI} {i:Nat},AllOK P i l→∀t,(ttOf l t).k≠.other→TIok P (i+t) (ttOf l t)
 | [],i,_,t,h=>by simp [ttOf,TI.none] at h
 | x::xs,i,ha,0,h=>ha.1 h
 | x::xs,i,ha,t+1,h=>by
  have:=tok_of ha.2 t h
  simpa [ttOf,Nat.add_assoc,Nat.add_comm 1 t] using this
end
end Go.Vm
namespace Go.Vm
variable [GlobTab]
def wk:List V→List V→Prop
 | [],[]=>True
 | x::xs,y::ys=>(y=.dead∨x=y)∧wk xs ys
 | _,_=>False
mutual
def fz (id ver:Nat) (l:List V):V→V
 | .buf i v off n sz=>match Nat.beq i id,Nat.beq v ver with | true,true=>.sl false ((l.drop off).take (n*sz)) n | _,_=>.buf i v off n sz
 | .ptr i v off=>match Nat.beq i id,Nat.beq v ver with | true,true=>.fp (l.drop off) | _,_=>.ptr i v off
 | .agg vs=>.agg (fzs id ver l vs)
 | .tup vs=>.tup (fzs id ver l vs)
 | x=>x
def fzs (id ver:Nat) (l:List V):List V→List V
 | []=>[]
 | x::xs=>fz id ver l x::fzs id ver l xs
end
def fzH (id ver:Nat) (l:List V):List Ob→List Ob
 | []=>[]
 | .cells v cs::os=>.cells v (fzs id ver l cs)::fzH id ver l os
 | o::os=>o::fzH id ver l os
section
variable {O:Nat→Prop} {β:List Pl} {w:World} {P:Program} {tt:Nat→TI}
theorem VRs.wk {own:Nat→Prop}:∀ {xs ys:List V} {vs:List Value},VRs own w β xs vs→wk xs ys→VRs own w β ys vs
 | [],[],_,h,_=>h
 | x::xs,y::ys,[],h,_=>by simp [VRs] at h
 | x::xs,y::ys,v::vs,h,hw=>by
  simp only [VRs] at h ⊢
  simp only [Go.Vm.wk] at hw
  refine ⟨?_,VRs.wk h.2 hw.2⟩
  rcases hw.1 with rfl | rfl
  ·simp only [VR]
  ·exact h.1
 | [],_::_,_,_,hw=>by simp [Go.Vm.wk] at hw
 | _::_,[],_,_,hw=>by simp [Go.Vm.wk] at hw
def Gn (n:Nat) (s s':S):Prop :=
 ∀(O:Nat→Prop) (β:List Pl) (a:Act) (w:World),SR O β a w s →
  ∃β',SR O β' a w s'∧∀(β0:List Pl) (w0:World),β0.length≤n→Ext β0 w0 β w→Ext β0 w0 β' w
theorem Gn.refl (n:Nat) (s:S):Gn n s s:=fun _ β _ _ hs=>⟨β,hs,fun _ _ _ h=>h⟩
theorem Gn.trans {n:Nat} {s s' s'':S} (h:Gn n s s') (h':Gn n s' s''):Gn n s s'':=by
 intro O β a w hs
 obtain ⟨β1,h1,e1⟩:=h O β a w hs
 obtain ⟨β2,h2,e2⟩:=h' O β1 a w h1
 exact ⟨β2,h2,fun β0 w0 hn he=>e2 β0 w0 hn (e1 β0 w0 hn he)⟩
theorem Gn.of_ext {n:Nat} {s s':S} (h:Gh s s'):Gn n s s':=by
 intro O β a w hs
 obtain ⟨β1,h1,e1⟩:=h O β a w hs
 exact ⟨β1,h1,fun β0 w0 hn he=>he.trans e1⟩
theorem Gn.weak {n:Nat} {tm tm':List V} {H:List Ob} (h:wk tm tm'):Gn n ⟨tm,H⟩ ⟨tm',H⟩ :=
 Gn.of_ext fun _ β _ w hs=>⟨β,⟨hs.defers,hs.tm.wk h,hs.hp⟩,Ext.refl β w⟩
theorem Gn.trim {n:Nat} {tm:List V} {H J:List Ob} (hn:n≤H.length) (h1:belAll H.length tm=true) (h2:belObs H.length H=true):Gn n ⟨tm,H++J⟩ ⟨tm,H⟩:=by
 intro O β a w hs
 exact ⟨β.take H.length,⟨hs.defers,VRs.takeB _ _ h1 hs.tm,HR.take hs.hp h2⟩,fun β0 w0 h0 he=>he.take (by omega)⟩
theorem Gn.canon {n:Nat} {tm tm':List V} {hp H J:List Ob} (hh:hp=H++J) (h:wk tm tm') (hn:n≤H.length) (h1:belAll H.length tm'=true) (h2:belObs H.length H=true) :
  Gn n ⟨tm,hp⟩ ⟨tm',H⟩:=by
 subst hh
 exact (Gn.weak h).trans (Gn.trim hn h1 h2)
theorem Gn.ownNil {n t sz:Nat} {tm:List V} {H:List Ob} (ht:getT tm t=.sl true [] 0):Gn n ⟨tm,H⟩ ⟨putT tm (some t) (.buf H.length 0 0 0 sz),H++[.cells 0 []]⟩:=by
 refine Gn.of_ext fun O β a w hs=>?_
 have hlen:=hs.hp.len
 have he:Ext β w (β++[.nilb 0]) w:=by
  refine ⟨Nat.le_refl _,fun _ _ _=>rfl,rfl,rfl,rfl,?_,?_⟩
  ·rintro b ⟨i,l,h1,h2⟩
   rw [List.getElem?_append] at h1
   split at h1
   ·exact .inl ⟨i,l,h1,h2⟩
   ·rw [List.getElem?_singleton] at h1
    split at h1
    ·simp at h1;subst h1;simp [Pl.block?] at h2
    ·simp at h1
  ·intro i l hi
   rw [List.getElem?_append_left (List.getElem?_eq_some_iff.1 hi).1,hi]
   exact l.le_refl
 have hin:∀b,InB (β++[.nilb 0]) b→InB β b:=by
  rintro b ⟨i,l,h1,h2⟩
  rw [List.getElem?_append] at h1
  split at h1
  ·exact ⟨i,l,h1,h2⟩
  ·rw [List.getElem?_singleton] at h1
   split at h1
   ·simp at h1;subst h1;simp [Pl.block?] at h2
   ·simp at h1
 refine ⟨β++[.nilb 0],⟨hs.defers,?_,?_⟩,he⟩
 ·have h1:=VRs.ext he _ _ hs.tm
  have h2:=getT_sound t h1
  rw [ht] at h2
  simp only [VR,Bool.true_eq_false,false_and,or_false,and_true] at h2
  obtain ⟨a0,h2,_,hn0⟩:=h2
  rw [hn0 trivial] at h2
  have hp:∀(tm:List V) (t:Nat) (x:V),putT tm (some t) x=tm.set t x:=by
   intro tm
   induction tm with
   | nil=>intro t x;cases t<;>rfl
   | cons y ys ih=>intro t x;cases t<;>simp [putT,ih]
  rw [hp]
  refine VRs.of_get (by rw [List.length_set];exact h1.length) ?_
  intro i x v hx hv
  rw [List.getElem?_set] at hx
  split at hx
  ·rename_i hi
   subst hi
   split at hx
   ·simp at hx
    subst hx
    have hv2:a.tmps.toList.getD t undef=v:=by rw [List.getD_eq_getElem?_getD,hv];rfl
    rw [hv2] at h2
    subst h2
    simp only [VR]
    refine ⟨⟨none,0,rfl,Nat.le_refl _,fun h=>absurd rfl h⟩,?_⟩
    rw [←hlen,List.getElem?_append_right (Nat.le_refl _),Nat.sub_self]
    exact ⟨Nat.le_refl _,fun _=>⟨rfl,rfl,rfl⟩⟩
   ·simp at hx
  ·obtain ⟨v',h3,h4⟩:=h1.get hx
   rw [hv] at h3
   cases h3
   exact h4
 ·refine ⟨by simp [hlen],?_,?_,fun b h=>hs.hp.lt b (hin b h),fun b h=>hs.hp.apart b (hin b h),hs.hp.old,hs.hp.glob.ext he⟩
  ·intro i loc o hi ho
   rw [List.getElem?_append] at hi ho
   rw [hlen] at hi
   split at hi
   ·rename_i h
    rw [if_pos h] at ho
    have h0:=hs.hp.ob i loc o hi ho
    cases o with
    | unborn=>exact h0
    | dead=>exact h0
    | cells ver l =>
     simp only [ObR] at h0 ⊢
     refine Or.imp (fun h=>h) ?_ h0
     rintro ⟨b,base,cs,ty,h1,h2,h3,h4⟩
     exact ⟨b,base,cs,ty,h1,h2,h3,VRs.ext he _ _ h4⟩
    | map es =>
     simp only [ObR] at h0 ⊢
     obtain ⟨b,en,clock,h1,h2,h3,h4⟩:=h0
     exact ⟨b,en,clock,h1,h2,VRs.ext he _ _ h3,VRs.ext he _ _ h4⟩
   ·rename_i h
    rw [if_neg h,List.getElem?_singleton] at ho
    rw [List.getElem?_singleton] at hi
    split at hi
    ·rename_i h0
     rw [if_pos h0] at ho
     simp at hi ho
     subst hi ho
     simp [ObR]
    ·simp at hi
  ·intro i j l l' b h1 h2 h3 h4
   have key:∀(i:Nat) (l:Pl),(β++[.nilb 0])[i]? = some l→l.block? = some b→β[i]? = some l:=by
    intro i l h1 h3
    rw [List.getElem?_append] at h1
    split at h1
    ·exact h1
    ·rw [List.getElem?_singleton] at h1
     split at h1
     ·simp at h1;subst h1;simp [Pl.block?] at h3
     ·simp at h1
   exact hs.hp.inj i j l l' b (key i l h1 h3) (key j l' h2 h4) h3 h4
theorem T.aft {c:Code} {Q:Exit→S→Prop} {s:S} (h:T P c (fun e s1=>∃s2,Gn s.hp.length s1 s2∧Q e s2) s):T P c Q s:=by
 intro O β a w hs
 refine wp_mono (h O β a w hs) ?_
 rintro e a1 w1 ⟨s1,β1,⟨s2,g,hq⟩,h1,h2⟩
 obtain ⟨β2,h3,h4⟩:=g O β1 a1 w1 h1
 exact ⟨s2,β2,hq,h3,h4 β w (by rw [hs.hp.len];exact Nat.le_refl _) h2⟩
theorem T.loopN {c:Code} {Q:Exit→S→Prop} {s:S} {α:Type} (G:α→S) (I:α→Prop) (μ:α→Nat) (x0:α) (h0:Gn s.hp.length s (G x0)) (hI:I x0)
  (round:∀x,I x→T P c (andThen (fun s'=>∃y,I y∧μ y<μ x∧Gn s.hp.length s' (G y)) Q) (G x)):T P (.loop c) Q s:=by
 intro O β a w hs
 have hl:β.length≤s.hp.length:=by rw [hs.hp.len];exact Nat.le_refl _
 obtain ⟨β0,hs0,he0⟩:=h0 O β a w hs
 refine wp_loop_ghost (fun n a1 w1=>∃x β1,μ x=n∧I x∧SR O β1 a1 w1 (G x)∧Ext β w β1 w1) (μ x0) ⟨x0,β0,rfl,hI,hs0,he0 β w hl (Ext.refl β w)⟩ ?_
 rintro n a1 w1 ⟨x,β1,rfl,hx,hs1,he1⟩
 refine wp_mono (round x hx O β1 a1 w1 hs1) ?_
 rintro e a2 w2 ⟨s2,β2,hq,hs2,he2⟩
 cases e<;>simp only [andThen,Exit.then] at hq ⊢
 case normal =>
  obtain ⟨y,hy,hlt,hg⟩:=hq
  obtain ⟨β3,hs3,he3⟩:=hg O β2 a2 w2 hs2
  exact ⟨μ y,hlt,y,β3,rfl,hy,hs3,he3 β w hl (he1.trans he2)⟩
 all_goals exact ⟨s2,β2,hq,hs2,he1.trans he2⟩
end
end Go.Vm
namespace Go.Vm
variable [GlobTab]
section
variable {O:Nat→Prop} {β:List Pl} {w:World} {P:Program} {tt:Nat→TI}
theorem set_get {β:List Pl} {id:Nat} {l:Pl} {i:Nat} {p:Pl} (h:(β.set id l)[i]? = some p):(i=id∧p=l)∨(i≠id∧β[i]? = some p):=by
 rw [List.getElem?_set] at h
 split at h
 ·rename_i e
  split at h
  ·simp at h;exact .inl ⟨e.symm,h.symm⟩
  ·simp at h
 ·rename_i e;exact .inr ⟨fun e'=>e e'.symm,h⟩
theorem dead_ext {id:Nat} {loc:Pl} (hl:β[id]? = some loc) (hn:loc≠.unborn) (hm:∀b,loc≠.mapb b):Ext β w (β.set id .dead) w:=by
 refine ⟨Nat.le_refl _,fun _ _ _=>rfl,rfl,rfl,rfl,?_,?_⟩
 ·rintro b ⟨i,l,h1,h2⟩
  rcases set_get h1 with ⟨_,rfl⟩ | ⟨_,h⟩
  ·simp [Pl.block?] at h2
  ·exact .inl ⟨i,l,h,h2⟩
 ·intro i l hi
  rw [List.getElem?_set]
  split
  ·rename_i e
   subst e
   rw [hl] at hi
   cases hi
   rw [if_pos (List.getElem?_eq_some_iff.1 hl).1]
   cases loc<;>simp_all [Pl.le]
  ·rw [hi];exact l.le_refl
structure Fz (own:Nat→Prop) (w:World) (β':List Pl) (loc:Pl) (ver:Nat) (l:List V):Prop where
 ok:(loc=.nilb ver∧l=[])∨∃b base n cs,loc=.blk b base n ver∧b<w.heap.size∧¬own b∧CellsAt w b base cs∧VRs own w β' l cs
theorem cells_drop {b base:Nat} {cs:List Value} (h:CellsAt w b base cs) (off:Nat):CellsAt w b (base+off) (cs.drop off):=by
 intro i v hv
 rw [List.getElem?_drop] at hv
 rw [Nat.add_assoc];exact h _ v hv
mutual
theorem fz_VR {id ver:Nat} {l:List V} {β':List Pl} {loc:Pl} (hl:β[id]? = some loc) (he:Ext β w β' w) (hf:Fz (Own O β') w β' loc ver l) :
  ∀(x:V) (v:Value),VR (Own O β) w β x v→VR (Own O β') w β' (fz id ver l x) v
 | .buf i vr off n sz,v,h=>by
  simp only [fz]
  split
  ·rename_i h1 h2
   obtain rfl:i=id:=by simpa using h1
   obtain rfl:vr=ver:=by simpa using h2
   simp only [VR] at h
   obtain ⟨⟨a,c,rfl,hc,ha⟩,hb⟩:=h
   rw [hl] at hb
   simp only [VR]
   rcases hf.ok with ⟨rfl,rfl⟩ | ⟨b,base,m,cs,rfl,g1,g2,g3,g4⟩
   ·simp only [BufR] at hb
    obtain ⟨h3,_,h5⟩:=hb.2 trivial
    exact .inl ⟨none,h3,h5,fun _=>rfl⟩
   ·simp only [BufR] at hb
    obtain ⟨a',cap,h3,h4,⟨o,ho⟩,h5,h6⟩:=hb.2 trivial
    simp only [Value.slice.injEq,true_and] at h3
    obtain ⟨rfl,rfl⟩:=h3
    refine .inr ⟨trivial,b,?_⟩
    by_cases hz:c=0
    ·have hn:n=0:=by omega
     subst hn
     refine ⟨o,c,[],by rw [ho],hc,g1,g2,fun i v hv=>by simp at hv,?_⟩
     simp [VRs]
    ·refine ⟨base+off,c,(cs.drop off).take (n*sz),by rw [h5 hz],hc,g1,g2,?_,(g4.drop off).take _⟩
     intro i v hv
     rw [List.getElem?_take] at hv
     split at hv
     ·exact cells_drop g3 off i v hv
     ·simp at hv
  ·exact VR.ext he _ _ h
 | .ptr i vr off,v,h=>by
  simp only [fz]
  split
  ·rename_i h1 h2
   obtain rfl:i=id:=by simpa using h1
   obtain rfl:vr=ver:=by simpa using h2
   simp only [VR] at h
   obtain ⟨⟨a,rfl⟩,hb⟩:=h
   rw [hl] at hb
   simp only [VR]
   rcases hf.ok with ⟨rfl,rfl⟩ | ⟨b,base,m,cs,rfl,g1,g2,g3,g4⟩
   ·simp [PtrR] at hb
   ·simp only [PtrR] at hb
    exact ⟨b,base+off,cs.drop off,hb.2 trivial,g1,g2,cells_drop g3 off,g4.drop off⟩
  ·exact VR.ext he _ _ h
 | .agg vs,v,h=>by
  simp only [fz,VR] at h ⊢
  obtain ⟨u,h1,h2⟩:=h
  exact ⟨u,h1,fz_VRs hl he hf vs u h2⟩
 | .tup vs,v,h=>by
  simp only [fz,VR] at h ⊢
  obtain ⟨u,h1,h2⟩:=h
  exact ⟨u,h1,fz_VRs hl he hf vs u h2⟩
 | .int _ _,v,h=>VR.ext he _ _ h
 | .bool _,v,h=>VR.ext he _ _ h
 | .str _,v,h=>VR.ext he _ _ h
 | .nilp,v,h=>VR.ext he _ _ h
 | .nili,v,h=>VR.ext he _ _ h
 | .nilf,v,h=>VR.ext he _ _ h
 | .nilm,v,h=>VR.ext he _ _ h
 | .raw _,v,h=>VR.ext he _ _ h
 | .sl _ _ _,v,h=>VR.ext he _ _ h
 | .fp _,v,h=>VR.ext he _ _ h
 | .mp _,v,h=>VR.ext he _ _ h
 | .ifc _ _,v,h=>VR.ext he _ _ h
 | .fn _ _ _,v,h=>VR.ext he _ _ h
 | .opt _ _,v,h=>VR.ext he _ _ h
 | .dead,v,h=>VR.ext he _ _ h
theorem fz_VRs {id ver:Nat} {l:List V} {β':List Pl} {loc:Pl} (hl:β[id]? = some loc) (he:Ext β w β' w) (hf:Fz (Own O β') w β' loc ver l) :
  ∀(xs:List V) (vs:List Value),VRs (Own O β) w β xs vs→VRs (Own O β') w β' (fzs id ver l xs) vs
 | [],[],_=>by simp only [fzs,VRs]
 | x::xs,y::ys,h=>by
  simp only [fzs,VRs] at h ⊢
  exact ⟨fz_VR hl he hf x y h.1,fz_VRs hl he hf xs ys h.2⟩
 | [],_::_,h=>by simp only [VRs] at h
 | _::_,[],h=>by simp only [VRs] at h
end
mutual
theorem fz_bel {id ver:Nat} {l:List V}:∀(x:V),x.bel 0=true→fz id ver l x=x
 | .buf i vr off n sz,h=>by simp [V.bel] at h
 | .ptr i vr off,h=>by simp [V.bel] at h
 | .agg vs,h=>by simp only [V.bel] at h;simp only [fz,fzs_bel vs h]
 | .tup vs,h=>by simp only [V.bel] at h;simp only [fz,fzs_bel vs h]
 | .int _ _,h=>by simp only [fz]
 | .bool _,h=>by simp only [fz]
 | .str _,h=>by simp only [fz]
 | .nilp,h=>by simp only [fz]
 | .nili,h=>by simp only [fz]
 | .nilf,h=>by simp only [fz]
 | .nilm,h=>by simp only [fz]
 | .raw _,h=>by simp only [fz]
 | .sl _ _ _,h=>by simp only [fz]
 | .fp _,h=>by simp only [fz]
 | .mp _,h=>by simp only [fz]
 | .ifc _ _,h=>by simp only [fz]
 | .fn _ _ _,h=>by simp only [fz]
 | .opt _ _,h=>by simp only [fz]
 | .dead,h=>by simp only [fz]
theorem fzs_bel {id ver:Nat} {l:List V}:∀(xs:List V),belAll 0 xs=true→fzs id ver l xs=xs
 | [],_=>rfl
 | x::xs,h=>by
  simp only [belAll,Bool.and_eq_true] at h
  simp only [fzs,fz_bel x h.1,fzs_bel xs h.2]
end
theorem fzs_ok {id ver:Nat} {l xs:List V} (h:belAll 0 xs=true):fzs id ver l xs=xs:=fzs_bel xs h
theorem fzs_length {id ver:Nat} {l:List V}:∀(xs:List V),(fzs id ver l xs).length=xs.length
 | []=>rfl
 | _::xs=>by simp [fzs,fzs_length xs]
theorem fzH_length {id ver:Nat} {l:List V}:∀(H:List Ob),(fzH id ver l H).length=H.length
 | []=>rfl
 | o::os=>by cases o<;>simp [fzH,fzH_length os]
def fzOb (id ver:Nat) (l:List V):Ob→Ob
 | .cells v cs=>.cells v (fzs id ver l cs)
 | o=>o
theorem fzH_get {id ver:Nat} {l:List V}:∀ {H:List Ob} {i:Nat},(fzH id ver l H)[i]? = (H[i]?).map (fzOb id ver l)
 | [],i=>by simp [fzH]
 | o::os,0=>by cases o<;>simp [fzH,fzOb]
 | o::os,i+1=>by cases o<;>simp [fzH,fzH_get]
theorem Gn.freeze {n id ver:Nat} {tm:List V} {H:List Ob} {l:List V} (hg:getO H id=.cells ver l):Gn n ⟨tm,H⟩ ⟨fzs id ver l tm,setO (fzH id ver l H) id .dead⟩:=by
 refine Gn.of_ext fun O β a w hs=>?_
 have hh:=hs.hp
 have hH:H[id]? = some (.cells ver l):=getO_eq hg (by simp)
 have hlt:=(List.getElem?_eq_some_iff.1 hH).1
 obtain ⟨loc,hloc⟩:∃loc,β[id]? = some loc:=⟨β[id]'(by rw [hh.len];exact hlt),List.getElem?_eq_getElem _⟩
 have hob:=hh.ob id loc _ hloc hH
 simp only [ObR] at hob
 have he:Ext β w (β.set id .dead) w:=by
  refine dead_ext hloc ?_ ?_
  ·rcases hob with ⟨rfl,_⟩ | ⟨b,base,cs,ty,rfl,_⟩<;>simp
  ·intro b;rcases hob with ⟨rfl,_⟩ | ⟨b,base,cs,ty,rfl,_⟩<;>simp
 have hin:∀b,InB (β.set id .dead) b→InB β b:=by
  rintro b ⟨i,p,h1,h2⟩
  rcases set_get h1 with ⟨_,rfl⟩ | ⟨_,h⟩
  ·simp [Pl.block?] at h2
  ·exact ⟨i,p,h,h2⟩
 have hf:Fz (Own O (β.set id .dead)) w (β.set id .dead) loc ver l:=by
  refine ⟨?_⟩
  rcases hob with h | ⟨b,base,cs,ty,rfl,h2,h3,h4⟩
  ·exact .inl h
  ·have hb:InB β b:=⟨id,_,hloc,rfl⟩
   refine .inr ⟨b,base,cs.size,_,rfl,hh.lt b hb,?_,?_,VRs.ext he _ _ h4⟩
   ·rintro (h5 | ⟨i,p,h5,h6⟩)
    ·exact hh.apart b hb h5
    ·rcases set_get h5 with ⟨_,rfl⟩ | ⟨hne,h⟩
     ·simp [Pl.block?] at h6
     ·exact hne (hh.inj i id p _ b h hloc h6 rfl)
   ·intro i v hv
    rw [List.getElem?_take] at hv
    split at hv
    ·rw [List.getElem?_drop,Array.getElem?_toList] at hv
     rw [cell_of_heap h2];exact hv
    ·simp at hv
 refine ⟨β.set id .dead,⟨hs.defers,fz_VRs hloc he hf _ _ hs.tm,?_⟩,he⟩
 have hfl:(fzH id ver l H).length=H.length:=fzH_length H
 refine ⟨?_,?_,?_,fun b h=>hh.lt b (hin b h),fun b h=>hh.apart b (hin b h),hh.old,hh.glob.ext he⟩
 ·rw [setO_place (by rw [hfl];exact hlt),length_place (by rw [hfl];omega),hfl,List.length_set]
  have hlen:β.length=H.length:=hh.len
  omega
 ·intro i p o hi ho
  rw [setO_place (by rw [hfl];exact hlt),get_place (by rw [hfl];omega)] at ho
  rcases set_get hi with ⟨rfl,rfl⟩ | ⟨hne,h⟩
  ·rw [if_pos rfl] at ho
   cases ho
   simp [ObR]
  ·rw [if_neg hne,fzH_get] at ho
   rw [Option.map_eq_some_iff] at ho
   obtain ⟨o0,ho0,rfl⟩:=ho
   have h0:=hh.ob i p o0 h ho0
   cases o0 with
   | unborn=>exact h0
   | dead=>exact h0
   | cells ver2 l2 =>
    simp only [fzOb,ObR] at h0 ⊢
    rcases h0 with ⟨rfl,rfl⟩ | ⟨b,base,cs,ty,h1,h2,h3,h4⟩
    ·exact .inl ⟨rfl,rfl⟩
    ·exact .inr ⟨b,base,cs,ty,h1,h2,by rw [fzs_length];exact h3,by rw [fzs_length];exact fz_VRs hloc he hf _ _ h4⟩
   | map es =>
    simp only [fzOb,ObR] at h0 ⊢
    obtain ⟨b,en,clock,h1,h2,h3,h4⟩:=h0
    exact ⟨b,en,clock,h1,h2,VRs.ext he _ _ h3,VRs.ext he _ _ h4⟩
 ·intro i j p p' b h1 h2 h3 h4
  rcases set_get h1 with ⟨_,rfl⟩ | ⟨_,h⟩
  ·simp [Pl.block?] at h3
  ·rcases set_get h2 with ⟨_,rfl⟩ | ⟨_,h'⟩
   ·simp [Pl.block?] at h4
   ·exact hh.inj i j p p' b h h' h3 h4
end
end Go.Vm
namespace Go.Vm
variable [GlobTab]
theorem lenOK_iff {g:Bool}:∀ {l:List V} {n:Nat} {p:Prop},lenOK g l n p↔((g=true→n≤l.length)∧p)
 | [],0,p=>by simp [lenOK]
 | [],n+1,p=>by cases g<;>simp [lenOK]
 | _::xs,0,p=>by simp [lenOK]
 | _::xs,n+1,p=>by rw [lenOK,lenOK_iff];simp
theorem ones_iff {g:Bool}:∀ {l:List V} {p:Prop},ones g l p↔((g=true→∀x ∈ l,x.one=true)∧p)
 | [],p=>by simp [ones]
 | x::xs,p=>by
  simp only [ones,List.mem_cons,forall_eq_or_imp]
  cases hx:x.one with
  | true=>simp only [true_and];exact ones_iff
  | false=>cases g<;>simp
theorem belAll_append {n:Nat}:∀ {xs ys:List V},belAll n (xs++ys)=(belAll n xs&&belAll n ys)
 | [],ys=>by simp [belAll]
 | x::xs,ys=>by simp [belAll,belAll_append,Bool.and_assoc]
theorem belAll_iff {n:Nat}:∀ {xs:List V},belAll n xs=true↔∀x ∈ xs,x.bel n=true
 | []=>by simp [belAll]
 | x::xs=>by simp [belAll,belAll_iff]
theorem belAll_flat {α:Type} {n:Nat} {f:α→List V} (hf:∀x,belAll n (f x)=true) (xs:List α):belAll n (xs.flatMap f)=true:=by
 rw [belAll_iff]
 intro v hv
 obtain ⟨x,_,h⟩:=List.mem_flatMap.1 hv
 exact belAll_iff.1 (hf x) v h
theorem belAll_map {α:Type} {n:Nat} {f:α→V} (hf:∀x,(f x).bel n=true) (xs:List α):belAll n (xs.map f)=true:=by
 rw [belAll_iff]
 intro v hv
 obtain ⟨x,_,rfl⟩:=List.mem_map.1 hv
 exact hf x
section
variable {α:Type} {enc:α→List V} {k:Nat}
theorem len_flat (hk:∀x,(enc x).length=k) (xs:List α):(xs.flatMap enc).length=xs.length*k:=by
 induction xs with
 | nil=>simp
 | cons x xs ih=>simp only [List.flatMap_cons,List.length_append,ih,hk,List.length_cons,Nat.add_mul];omega
theorem drop_flat (hk:∀x,(enc x).length=k):∀(xs:List α) (i:Nat),(xs.flatMap enc).drop (i*k)=(xs.drop i).flatMap enc
 | xs,0=>by simp
 | [],i+1=>by simp
 | x::xs,i+1=>by
  have h1:(enc x).drop k=[]:=List.drop_of_length_le (by rw [hk];exact Nat.le_refl _)
  rw [List.flatMap_cons,Nat.add_mul,Nat.one_mul,Nat.add_comm,←List.drop_drop,List.drop_append_of_le_length (by rw [hk];exact Nat.le_refl _),h1,
   List.nil_append,drop_flat hk xs i,List.drop_succ_cons]
theorem get_flat_drop (hk:∀x,(enc x).length=k) (xs:List α) (i:Nat) (h:i<xs.length) (o m:Nat) (hm:o+m≤k):getV (((xs.flatMap enc).drop (i*k)).drop o) 0 m=getV (enc xs[i]) o m:=by
 unfold getV
 rw [drop_flat hk,List.drop_eq_getElem_cons h,List.flatMap_cons,List.drop_append_of_le_length (by rw [hk];omega)]
 rw [List.drop_zero,List.take_append_of_le_length (by rw [List.length_drop,hk];omega)]
theorem get_flat_part (hk:∀x,(enc x).length=k) (xs:List α) (i:Nat) (h:i<xs.length) (m:Nat) (hm:m≤k):getV ((xs.flatMap enc).drop (i*k)) 0 m=getV (enc xs[i]) 0 m:=by
 have:=get_flat_drop hk xs i h 0 m (by omega)
 simpa using this
theorem len_flat_at (hk:∀x,(enc x).length=k) (xs:List α) (i m:Nat) (h:i<xs.length) (hm:m≤k):m≤((xs.flatMap enc).drop (i*k)).length:=by
 rw [drop_flat hk,List.drop_eq_getElem_cons h,List.flatMap_cons,List.length_append,hk];omega
theorem putV_nil:∀(l:List V) (n:Nat),putV l n []=l
 | [],n=>by cases n<;>rfl
 | _::_,0=>rfl
 | x::xs,n+1=>by simp only [putV,putV_nil xs n]
end
theorem andThen_normal {next:S→Prop} {Q:Exit→S→Prop} {s:S}:andThen next Q .normal s=next s:=rfl
theorem andThen_exit {next:S→Prop} {Q:Exit→S→Prop} {s:S} {i:Nat}:andThen next Q (.exit i) s=Q (.exit i) s:=rfl
theorem andThen_ret {next:S→Prop} {Q:Exit→S→Prop} {s:S}:andThen next Q .ret s=Q .ret s:=rfl
theorem inBlk_normal {id:Nat} {Q:Exit→S→Prop} {s:S}:inBlk id Q .normal s=Q .normal s:=rfl
theorem inBlk_exit {id i:Nat} {Q:Exit→S→Prop} {s:S}:inBlk id Q (.exit i) s=if i=id then Q .normal s else Q (.exit i) s:=rfl
theorem inBlk_ret {id:Nat} {Q:Exit→S→Prop} {s:S}:inBlk id Q .ret s=Q .ret s:=rfl
theorem PC.mk {P:Program} {tt:Nat→TI} (tok:TOK P tt) (hm:P.follows .mixedOrders=true) (cfg:Cfg) {n:Nat} {fn:Func} {c:Code} {args:List V} {v:V} (hf:P.funcs[n]? = some fn) (hb:fn.body=some c)
  (hc:∀(vals:Array Value) (w:World),(callFunc n vals).run P w=.ok (.enter n vals) w) (ha:belAll 0 args=true) (hv:v.bel 0=true)
  (h:ev P tt cfg c (fun e s=>∃s2,Gn 0 s s2∧atEnd tt fn.results.toList 0 v [] e s2) ⟨args++List.replicate (fn.ntmps-args.length) .dead,[]⟩):PC P n args v :=
 PC.of_T tok hf hb hc ha (T.aft (ev_sound tok hm c h)) hv
end Go.Vm
namespace Go.Vm
variable [GlobTab]
mutual
def V.sh (k:Nat):V→V
 | .buf i v off n sz=>.buf (k+i) v off n sz
 | .ptr i v off=>.ptr (k+i) v off
 | .mp i=>.mp (k+i)
 | .agg vs=>.agg (shs k vs)
 | .tup vs=>.tup (shs k vs)
 | .sl b cs n=>.sl b (shs k cs) n
 | .fp cs=>.fp (shs k cs)
 | .ifc t v=>.ifc t (v.sh k)
 | .fn f a b=>.fn f (shs k a) (shs k b)
 | .opt g v=>.opt g (v.sh k)
 | .int a b=>.int a b
 | .bool b=>.bool b
 | .str s=>.str s
 | .nilp=>.nilp
 | .nili=>.nili
 | .nilf=>.nilf
 | .nilm=>.nilm
 | .raw u=>.raw u
 | .dead=>.dead
def shs (k:Nat):List V→List V
 | []=>[]
 | x::xs=>x.sh k::shs k xs
end
def Ob.sh (k:Nat):Ob→Ob
 | .cells v l=>.cells v (shs k l)
 | .map es=>.map (es.map fun e=>(e.1.sh k,e.2.sh k))
 | .unborn=>.unborn
 | .dead=>.dead
def shOs (k:Nat):List Ob→List Ob
 | []=>[]
 | o::os=>o.sh k::shOs k os
theorem shs_length {k:Nat}:∀(xs:List V),(shs k xs).length=xs.length
 | []=>rfl
 | _::xs=>by simp [shs,shs_length xs]
theorem shOs_length {k:Nat}:∀(xs:List Ob),(shOs k xs).length=xs.length
 | []=>rfl
 | _::xs=>by simp [shOs,shOs_length xs]
theorem shOs_get {k:Nat}:∀(xs:List Ob) (i:Nat),(shOs k xs)[i]? = (xs[i]?).map (Ob.sh k)
 | [],i=>by simp [shOs]
 | x::xs,0=>by simp [shOs]
 | x::xs,i+1=>by simp [shOs,shOs_get xs i]
theorem shs_map {k:Nat}:∀(xs:List V),shs k xs=xs.map (V.sh k)
 | []=>rfl
 | x::xs=>by simp [shs,shs_map xs]
mutual
theorem V.sh_bel {k:Nat}:∀(x:V),x.bel 0=true→x.sh k=x
 | .buf i v off n sz,h=>by simp [V.bel] at h
 | .ptr i v off,h=>by simp [V.bel] at h
 | .mp i,h=>by simp [V.bel] at h
 | .agg vs,h=>by simp only [V.bel] at h;simp only [V.sh,shs_bel vs h]
 | .tup vs,h=>by simp only [V.bel] at h;simp only [V.sh,shs_bel vs h]
 | .sl b cs n,h=>by simp only [V.bel] at h;simp only [V.sh,shs_bel cs h]
 | .fp cs,h=>by simp only [V.bel] at h;simp only [V.sh,shs_bel cs h]
 | .ifc t v,h=>by simp only [V.bel] at h;simp only [V.sh,V.sh_bel v h]
 | .fn f a b,h=>by simp only [V.bel,Bool.and_eq_true] at h;simp only [V.sh,shs_bel a h.1,shs_bel b h.2]
 | .opt g v,h=>by simp only [V.bel] at h;simp only [V.sh,V.sh_bel v h]
 | .int a b,_=>by simp only [V.sh]
 | .bool b,_=>by simp only [V.sh]
 | .str s,_=>by simp only [V.sh]
 | .nilp,_=>by simp only [V.sh]
 | .nili,_=>by simp only [V.sh]
 | .nilf,_=>by simp only [V.sh]
 | .nilm,_=>by simp only [V.sh]
 | .raw _,_=>by simp only [V.sh]
 | .dead,_=>by simp only [V.sh]
theorem shs_bel {k:Nat}:∀(xs:List V),belAll 0 xs=true→shs k xs=xs
 | [],_=>rfl
 | x::xs,h=>by
  simp only [belAll,Bool.and_eq_true] at h
  simp only [shs,V.sh_bel x h.1,shs_bel xs h.2]
end
theorem shs_ok {k:Nat} {xs:List V} (h:belAll 0 xs=true):shs k xs=xs:=shs_bel xs h
section
variable {P:Program} {O:Nat→Prop} {β β':List Pl} {w w':World}
mutual
theorem VR.sh {own:Nat→Prop}:∀(x:V) (v:Value),VR own w β' x v→VR own w (β++β') (x.sh β.length) v
 | .buf i vr off n sz,v,h=>by
  simp only [V.sh,VR] at h ⊢
  rw [List.getElem?_append_right (by omega),Nat.add_sub_cancel_left];exact h
 | .ptr i vr off,v,h=>by
  simp only [V.sh,VR] at h ⊢
  rw [List.getElem?_append_right (by omega),Nat.add_sub_cancel_left];exact h
 | .mp i,v,h=>by
  simp only [V.sh,VR] at h ⊢
  rw [List.getElem?_append_right (by omega),Nat.add_sub_cancel_left];exact h
 | .agg vs,v,h=>by
  simp only [V.sh,VR] at h ⊢
  obtain ⟨l,h1,h2⟩:=h
  exact ⟨l,h1,VRs.sh vs l h2⟩
 | .tup vs,v,h=>by
  simp only [V.sh,VR] at h ⊢
  obtain ⟨l,h1,h2⟩:=h
  exact ⟨l,h1,VRs.sh vs l h2⟩
 | .sl b cs n,v,h=>by
  simp only [V.sh,VR] at h ⊢
  refine h.imp (fun h=>h) ?_
  rintro ⟨h0,b,off,cap,l,h1,h2,h3,h4,h5,h6⟩
  exact ⟨h0,b,off,cap,l,h1,h2,h3,h4,h5,VRs.sh cs l h6⟩
 | .fp cs,v,h=>by
  simp only [V.sh,VR] at h ⊢
  obtain ⟨b,off,l,h1,h3,h4,h5,h6⟩:=h
  exact ⟨b,off,l,h1,h3,h4,h5,VRs.sh cs l h6⟩
 | .ifc t x,v,h=>by
  simp only [V.sh,VR] at h ⊢
  obtain ⟨y,h1,h2⟩:=h
  exact ⟨y,h1,VR.sh x y h2⟩
 | .fn f a b,v,h=>by
  simp only [V.sh,VR] at h ⊢
  obtain ⟨la,lb,h1,h2,h3⟩:=h
  exact ⟨la,lb,h1,VRs.sh a la h2,VRs.sh b lb h3⟩
 | .opt g x,v,h=>by
  simp only [V.sh,VR] at h ⊢
  exact ⟨fun hg=>VR.sh x v (h.1 hg),h.2⟩
 | .int _ _,v,h=>by simpa only [V.sh,VR] using h
 | .bool _,v,h=>by simpa only [V.sh,VR] using h
 | .str _,v,h=>by simpa only [V.sh,VR] using h
 | .nilp,v,h=>by simpa only [V.sh,VR] using h
 | .nili,v,h=>by simpa only [V.sh,VR] using h
 | .nilf,v,h=>by simpa only [V.sh,VR] using h
 | .nilm,v,h=>by simpa only [V.sh,VR] using h
 | .raw _,v,h=>by simpa only [V.sh,VR] using h
 | .dead,v,_=>by simp only [V.sh,VR]
theorem VRs.sh {own:Nat→Prop}:∀(xs:List V) (vs:List Value),VRs own w β' xs vs→VRs own w (β++β') (shs β.length xs) vs
 | [],[],_=>by simp only [shs,VRs]
 | x::xs,y::ys,h=>by
  simp only [VRs] at h
  simp only [shs,VRs]
  exact ⟨VR.sh x y h.1,VRs.sh xs ys h.2⟩
 | [],_::_,h=>by simp only [VRs] at h
 | _::_,[],h=>by simp only [VRs] at h
end
theorem inB_app {b:Nat}:InB (β++β') b↔InB β b∨InB β' b:=by
 constructor
 ·rintro ⟨i,l,h1,h2⟩
  rw [List.getElem?_append] at h1
  split at h1
  ·exact .inl ⟨i,l,h1,h2⟩
  ·exact .inr ⟨_,l,h1,h2⟩
 ·rintro (⟨i,l,h1,h2⟩ | ⟨i,l,h1,h2⟩)
  ·exact ⟨i,l,by rw [List.getElem?_append_left (List.getElem?_eq_some_iff.1 h1).1];exact h1,h2⟩
  ·exact ⟨β.length+i,l,by rw [List.getElem?_append_right (by omega),Nat.add_sub_cancel_left];exact h1,h2⟩
theorem own_app:Own (Own O β) β'=Own O (β++β'):=by
 funext b
 refine propext ⟨?_,?_⟩
 ·rintro ((h | h) | h)
  ·exact .inl h
  ·exact .inr (inB_app.2 (.inl h))
  ·exact .inr (inB_app.2 (.inr h))
 ·rintro (h | h)
  ·exact .inl (.inl h)
  ·rcases inB_app.1 h with h | h
   ·exact .inl (.inr h)
   ·exact .inr h
theorem frame_tail {v:V} {J H:List Ob} {u:Value} (hh:HR O β w H) (g1:HR (Own O β) β' w' J) (g2:VR (Own (Own O β) β') w' β' v u) (g3:Ext [] w β' w') :
  HR O (β++β') w' (H++shOs H.length J)∧VR (Own O (β++β')) w' (β++β') (v.sh H.length) u∧Ext β w (β++β') w':=by
 have hfresh:∀b,InB β' b→w.heap.size≤b:=fun b hb=>(g3.fresh b hb).resolve_left (fun ⟨i,l,hi,_⟩=>by simp at hi)
 have hkeep:∀b,b<w.heap.size→w'.heap[b]? = w.heap[b]?:=fun b hb=>g3.keep b hb (fun ⟨i,l,hi,_⟩=>by simp at hi)
 have he:Ext β w (β++β') w':=⟨g3.size,fun b hb _=>hkeep b hb,g3.os,g3.tape,g3.output,(by
  intro b hb
  rcases inB_app.1 hb with h | h
  ·exact .inl h
  ·exact .inr (hfresh b h)),fun i l hi=>by rw [List.getElem?_append_left (List.getElem?_eq_some_iff.1 hi).1,hi];exact l.le_refl⟩
 have hlen:β.length=H.length:=hh.len
 refine ⟨?_,by rw [←own_app,←hlen];exact VR.sh v u g2,he⟩
 refine ⟨by rw [List.length_append,List.length_append,shOs_length,hh.len,g1.len],?_,?_,?_,?_,fun b hb=>Nat.lt_of_lt_of_le (hh.old b hb) he.size,hh.glob.ext he⟩
 ·intro i loc o hi ho
  by_cases hlt:i<β.length
  ·rw [List.getElem?_append_left hlt] at hi
   rw [List.getElem?_append_left (by omega)] at ho
   have h0:=hh.ob i loc o hi ho
   have hk:∀b,loc.block? = some b→w'.heap[b]? = w.heap[b]?:=fun b hb=>hkeep b (hh.lt b ⟨i,loc,hi,hb⟩)
   cases o with
   | unborn=>exact h0
   | dead=>exact h0
   | cells ver l =>
    simp only [ObR] at h0 ⊢
    refine Or.imp (fun h=>h) ?_ h0
    rintro ⟨b,base,cs,ty,h1,h2,h3,h4⟩
    exact ⟨b,base,cs,ty,h1,by rw [hk b (by rw [h1];rfl)];exact h2,h3,VRs.ext he _ _ h4⟩
   | map es =>
    simp only [ObR] at h0 ⊢
    obtain ⟨b,en,clock,h1,h2,h3,h4⟩:=h0
    exact ⟨b,en,clock,h1,by rw [hk b (by rw [h1];rfl)];exact h2,VRs.ext he _ _ h3,VRs.ext he _ _ h4⟩
  ·rw [List.getElem?_append_right (by omega)] at hi
   rw [List.getElem?_append_right (by omega),shOs_get,Option.map_eq_some_iff] at ho
   obtain ⟨o0,ho,rfl⟩:=ho
   rw [←hlen] at ho ⊢
   have h0:=g1.ob _ loc o0 hi ho
   rw [own_app] at h0
   cases o0 with
   | unborn=>exact h0
   | dead=>exact h0
   | cells ver l =>
    simp only [Ob.sh,ObR] at h0 ⊢
    rcases h0 with ⟨h1,rfl⟩ | ⟨b,base,cs,ty,h1,h2,h3,h4⟩
    ·exact .inl ⟨h1,rfl⟩
    ·exact .inr ⟨b,base,cs,ty,h1,h2,by rw [shs_length];exact h3,by rw [shs_length];exact VRs.sh _ _ h4⟩
   | map es =>
    simp only [Ob.sh,ObR] at h0 ⊢
    obtain ⟨b,en,clock,h1,h2,h3,h4⟩:=h0
    refine ⟨b,en,clock,h1,h2,?_,?_⟩
    ·have:=VRs.sh (β:=β) _ _ h3
     rw [shs_map] at this
     simpa [List.map_map,Function.comp_def] using this
    ·have:=VRs.sh (β:=β) _ _ h4
     rw [shs_map] at this
     simpa [List.map_map,Function.comp_def] using this
 ·intro i j l l' b hi hj hl hl'
  by_cases h1:i<β.length<;>by_cases h2:j<β.length
  ·rw [List.getElem?_append_left h1] at hi
   rw [List.getElem?_append_left h2] at hj
   exact hh.inj i j l l' b hi hj hl hl'
  ·rw [List.getElem?_append_left h1] at hi
   rw [List.getElem?_append_right (by omega)] at hj
   have:=hh.lt b ⟨i,l,hi,hl⟩
   have:=hfresh b ⟨_,l',hj,hl'⟩
   omega
  ·rw [List.getElem?_append_right (by omega)] at hi
   rw [List.getElem?_append_left h2] at hj
   have:=hh.lt b ⟨j,l',hj,hl'⟩
   have:=hfresh b ⟨_,l,hi,hl⟩
   omega
  ·rw [List.getElem?_append_right (by omega)] at hi hj
   have:=g1.inj _ _ l l' b hi hj hl hl'
   omega
 ·intro b hb
  rcases inB_app.1 hb with h | h
  ·exact Nat.lt_of_lt_of_le (hh.lt b h) he.size
  ·exact g1.lt b h
 ·intro b hb ho
  rcases inB_app.1 hb with h | h
  ·exact hh.apart b h ho
  ·have:=hh.old b ho
   have:=hfresh b h
   omega
theorem GCall.frame {n:Nat} {args:List V} {v:V} {J:List Ob} (h0:GCall P n args [] v J) (ha:belAll 0 args=true) (H:List Ob) :
  GCall P n args H (v.sh H.length) (H++shOs H.length J):=by
 refine ⟨h0.1,fun O β w vals hh hva=>?_⟩
 have hO:HR (Own O β) [] w []:=⟨rfl,fun i loc o hi _=>by simp at hi,fun i j l l' b hi=>by simp at hi,fun b ⟨i,l,hi,_⟩=>by simp at hi,fun b ⟨i,l,hi,_⟩=>by simp at hi,(by
  rintro b (hb | hb)
  ·exact hh.old b hb
  ·exact hh.lt b hb),hh.glob.nil⟩
 have hown:Own (Own O β) []=Own O β:=by
  funext b
  refine propext ⟨?_,fun h=>.inl h⟩
  rintro (h | ⟨i,l,hi,_⟩)
  ·exact h
  ·simp at hi
 refine (h0.2 (Own O β) [] w vals hO (by rw [hown];exact VRs.up args vals ha hva)).mono ?_
 rintro e w' ⟨u,β',rfl,g1,g2,g3⟩
 obtain ⟨a1,a2,a3⟩:=frame_tail hh g1 g2 g3
 exact ⟨u,β++β',rfl,a1,a2,a3⟩
def PCJ (P:Program) (n:Nat) (args:List V) (v:V) (J:List Ob):Prop:=∀H,GCall P n args H (v.sh H.length) (H++shOs H.length J)
theorem V.sh_zero:∀(x:V),x.sh 0=x:=by
 intro x
 have h:=(V.rec (motive_1:=fun x=>x.sh 0=x) (motive_2:=fun xs=>shs 0 xs=xs)
  (fun _ _=>rfl) (fun _=>rfl) (fun _=>rfl) rfl rfl rfl rfl (fun vs h=>by simp only [V.sh,h]) (fun vs h=>by simp only [V.sh,h])
  (fun b cs n h=>by simp only [V.sh,h]) (fun cs h=>by simp only [V.sh,h]) (fun i v o n s=>by simp only [V.sh,Nat.zero_add]) (fun i v o=>by simp only [V.sh,Nat.zero_add])
  (fun i=>by simp only [V.sh,Nat.zero_add]) (fun t v h=>by simp only [V.sh,h]) (fun f a b h1 h2=>by simp only [V.sh,h1,h2]) (fun g v h=>by simp only [V.sh,h]) (fun u=>rfl) rfl
  rfl (fun x xs h1 h2=>by simp only [shs,h1,h2]) x)
 exact h
theorem shs_zero (xs:List V):shs 0 xs=xs:=by
 rw [shs_map]
 induction xs with
 | nil=>rfl
 | cons x xs ih=>rw [List.map_cons,V.sh_zero,ih]
theorem shOs_zero:∀(xs:List Ob),shOs 0 xs=xs
 | []=>rfl
 | .cells v l::xs=>by simp only [shOs,Ob.sh,shs_zero,shOs_zero xs]
 | .map es::xs=>by
  simp only [shOs,Ob.sh,shOs_zero xs,V.sh_zero]
  simp
 | .unborn::xs=>by simp only [shOs,Ob.sh,shOs_zero xs]
 | .dead::xs=>by simp only [shOs,Ob.sh,shOs_zero xs]
theorem PCJ.nil {n:Nat} {args:List V} {v:V} {J:List Ob} (h:PCJ P n args v J):GCall P n args [] v J:=by
 have:=h []
 rw [List.length_nil,V.sh_zero,shOs_zero,List.nil_append] at this
 exact this
theorem GCall.gn {n m:Nat} {args:List V} {v v':V} {H H' H2:List Ob} (h:GCall P n args H v H') (g:Gn m ⟨[v],H'⟩ ⟨[v'],H2⟩) (hm:H.length≤m):GCall P n args H v' H2:=by
 refine ⟨h.1,fun O β w vals hh hva=>(h.2 O β w vals hh hva).mono ?_⟩
 rintro e w' ⟨u,β',rfl,g1,g2,g3⟩
 obtain ⟨β2,hs,he⟩:=g O β' { tmps:=#[u],defers:=[] } w' ⟨rfl,by simp only [VRs,and_true];exact g2,g1⟩
 have h2:=hs.tm
 simp only [VRs,and_true] at h2
 exact ⟨u,β2,rfl,hs.hp,h2,he β w (by rw [hh.len];exact hm) g3⟩
theorem PCJ.frz {n id ver:Nat} {args:List V} {v:V} {J:List Ob} {l:List V} (h:PCJ P n args v J) (ha:belAll 0 args=true) (hg:getO J id=.cells ver l) :
  PCJ P n args (fz id ver l v) (setO (fzH id ver l J) id .dead) :=
 GCall.frame (h.nil.gn (m:=0) (Gn.freeze hg) (Nat.le_refl _)) ha
theorem PCJ.pc {n:Nat} {args:List V} {v:V} {J:List Ob} (h:PCJ P n args v J) (ha:belAll 0 args=true) (hv:v.bel 0=true):PC P n args v:=by
 intro H
 have g:Gn 0 ⟨[v],[]++J⟩ ⟨[v],[]⟩:=Gn.trim (Nat.le_refl _) (by simp [belAll,hv]) rfl
 have:=GCall.frame (h.nil.gn g (Nat.le_refl _)) ha H
 rw [V.sh_bel v hv,shOs,List.append_nil] at this
 exact this
end
end Go.Vm

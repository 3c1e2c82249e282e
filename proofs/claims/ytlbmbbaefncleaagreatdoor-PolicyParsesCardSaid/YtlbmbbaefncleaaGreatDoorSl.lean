/-
  Joined by a program from the texts Vm12.
-/
import Derived.Test.YtlbmbbaefncleaaGreatDoorSk
set_option linter.all false
set_option maxRecDepth 100000
set_option maxHeartbeats 4000000
set_option linter.unusedVariables false
namespace Go.Vm
variable [GlobTab]
mutual
def eqV:V→V→Bool
 | .int k a,.int k' b=>kindEq k k'&&decide (a=b)
 | .bool a,.bool b=>a==b
 | .str a,.str b=>decide (a=b)
 | .nilp,.nilp=>true
 | .nili,.nili=>true
 | .nilf,.nilf=>true
 | .nilm,.nilm=>true
 | .agg a,.agg b=>eqVs a b
 | .tup a,.tup b=>eqVs a b
 | .sl x a n,.sl y b m=>x==y&&(Nat.beq n m&&eqVs a b)
 | .fp a,.fp b=>eqVs a b
 | .buf a b c d e,.buf a' b' c' d' e'=>Nat.beq a a'&&(Nat.beq b b'&&(Nat.beq c c'&&(Nat.beq d d'&&Nat.beq e e')))
 | .ptr a b c,.ptr a' b' c'=>Nat.beq a a'&&(Nat.beq b b'&&Nat.beq c c')
 | .mp a,.mp b=>Nat.beq a b
 | .ifc t v,.ifc u w=>Nat.beq t u&&eqV v w
 | .fn (.func f) a b,.fn (.func g) c d=>Nat.beq f g&&(eqVs a c&&eqVs b d)
 | .opt g v,.opt h w=>g==h&&eqV v w
 | .dead,.dead=>true
 | _,_=>false
def eqVs:List V→List V→Bool
 | [],[]=>true
 | x::xs,y::ys=>eqV x y&&eqVs xs ys
 | _,_=>false
end
mutual
theorem eqV_ok:∀ {x y:V},eqV x y=true→x=y
 | .int k a,y,h=>by cases y<;>simp [eqV] at h;rw [kindEq_iff.1 h.1,h.2]
 | .bool a,y,h=>by cases y<;>simp [eqV] at h;rw [h]
 | .str a,y,h=>by cases y<;>simp [eqV] at h;rw [h]
 | .nilp,y,h=>by cases y<;>simp [eqV] at h;rfl
 | .nili,y,h=>by cases y<;>simp [eqV] at h;rfl
 | .nilf,y,h=>by cases y<;>simp [eqV] at h;rfl
 | .nilm,y,h=>by cases y<;>simp [eqV] at h;rfl
 | .raw _,y,h=>by cases y<;>simp [eqV] at h
 | .agg a,y,h=>by cases y<;>simp [eqV] at h;rw [eqVs_ok h]
 | .tup a,y,h=>by cases y<;>simp [eqV] at h;rw [eqVs_ok h]
 | .sl x a n,y,h=>by cases y<;>simp [eqV] at h;rw [h.1,h.2.1,eqVs_ok h.2.2]
 | .fp a,y,h=>by cases y<;>simp [eqV] at h;rw [eqVs_ok h]
 | .buf a b c d e,y,h=>by cases y<;>simp [eqV] at h;rw [h.1,h.2.1,h.2.2.1,h.2.2.2.1,h.2.2.2.2]
 | .ptr a b c,y,h=>by cases y<;>simp [eqV] at h;rw [h.1,h.2.1,h.2.2]
 | .mp a,y,h=>by cases y<;>simp [eqV] at h;rw [h]
 | .ifc t v,y,h=>by cases y<;>simp [eqV] at h;rw [h.1,eqV_ok h.2]
 | .fn f a b,y,h=>by
  cases f<;>cases y<;>(try (simp [eqV] at h;done))
  rename_i g c d
  cases g<;>simp [eqV] at h
  rw [h.1,eqVs_ok h.2.1,eqVs_ok h.2.2]
 | .opt g v,y,h=>by cases y<;>simp [eqV] at h;rw [h.1,eqV_ok h.2]
 | .dead,y,h=>by cases y<;>simp [eqV] at h;rfl
theorem eqVs_ok:∀ {x y:List V},eqVs x y=true→x=y
 | [],y,h=>by cases y<;>simp [eqVs] at h;rfl
 | x::xs,y,h=>by cases y<;>simp [eqVs] at h;rw [eqV_ok h.1,eqVs_ok h.2]
end
/-! values reckoned out before they are handed on -/
section
variable {α:Type}
def frN (n:Nat) (k:Nat→α):α:=match n with
 | 0=>k 0
 | m+1=>k (m+1)
theorem frN_eq (n:Nat) (k:Nat→α):frN n k=k n:=by cases n<;>rfl
def frI (n:Int) (k:Int→α):α:=match n with
 | .ofNat m=>frN m fun m=>k (.ofNat m)
 | .negSucc m=>frN m fun m=>k (.negSucc m)
theorem frI_eq (n:Int) (k:Int→α):frI n k=k n:=by cases n<;>simp only [frI,frN_eq]
def frB (b:Bool) (k:Bool→α):α:=match b with
 | true=>k true
 | false=>k false
theorem frB_eq (b:Bool) (k:Bool→α):frB b k=k b:=by cases b<;>rfl
noncomputable def frBs (l:List UInt8):(List UInt8→α)→α:=List.rec (motive:=fun _=>(List UInt8→α)→α) (fun k=>k []) (fun x _ ih k=>ih fun xs=>k (x::xs)) l
theorem frBs_eq:∀(l:List UInt8) (k:List UInt8→α),frBs l k=k l
 | [],k=>rfl
 | x::xs,k=>frBs_eq xs _
noncomputable def fr1 (x:V) (k:V→α):α:=match x with
 | .int kk n=>frI n fun n=>k (.int kk n)
 | .bool b=>frB b fun b=>k (.bool b)
 | .str s=>frBs s fun s=>k (.str s)
 | .nilp=>k .nilp
 | .nili=>k .nili
 | .nilf=>k .nilf
 | .nilm=>k .nilm
 | .raw u=>k (.raw u)
 | .agg l=>k (.agg l)
 | .tup l=>k (.tup l)
 | .sl b l n=>frB b fun b=>frN n fun n=>k (.sl b l n)
 | .fp l=>k (.fp l)
 | .buf a b c d e=>frN a fun a=>frN b fun b=>frN c fun c=>frN d fun d=>frN e fun e=>k (.buf a b c d e)
 | .ptr a b c=>frN a fun a=>frN b fun b=>frN c fun c=>k (.ptr a b c)
 | .mp a=>frN a fun a=>k (.mp a)
 | .ifc t v=>frN t fun t=>k (.ifc t v)
 | .fn f a b=>k (.fn f a b)
 | .opt g v=>frB g fun g=>k (.opt g v)
 | .dead=>k .dead
theorem fr1_eq (x:V) (k:V→α):fr1 x k=k x:=by cases x<;>simp only [fr1,frI_eq,frB_eq,frBs_eq,frN_eq]
noncomputable def frVs (l:List V):(List V→α)→α:=List.rec (motive:=fun _=>(List V→α)→α) (fun k=>k []) (fun x _ ih k=>fr1 x fun x=>ih fun xs=>k (x::xs)) l
theorem frVs_eq:∀(l:List V) (k:List V→α),frVs l k=k l
 | [],k=>rfl
 | x::xs,k=>by
  show (fr1 x fun x=>frVs xs fun xs=>k (x::xs))=_
  rw [fr1_eq,frVs_eq xs]
noncomputable def frV (x:V) (k:V→α):α:=match x with
 | .agg l=>frVs l fun l=>k (.agg l)
 | .tup l=>frVs l fun l=>k (.tup l)
 | .sl b l n=>frB b fun b=>frN n fun n=>frVs l fun l=>k (.sl b l n)
 | .fp l=>frVs l fun l=>k (.fp l)
 | .ifc t v=>frN t fun t=>fr1 v fun v=>k (.ifc t v)
 | .fn f a b=>frVs a fun a=>frVs b fun b=>k (.fn f a b)
 | .opt g v=>frB g fun g=>fr1 v fun v=>k (.opt g v)
 | x=>fr1 x k
theorem frV_eq (x:V) (k:V→α):frV x k=k x:=by cases x<;>simp only [frV,frVs_eq,frB_eq,frN_eq,fr1_eq]
noncomputable def frE:List (V × V)→(List (V × V)→α)→α
 | [],k=>k []
 | (x,y)::r,k=>fr1 x fun x=>fr1 y fun y=>frE r fun r=>k ((x,y)::r)
theorem frE_eq:∀(l:List (V × V)) (k:List (V × V)→α),frE l k=k l
 | [],_=>rfl
 | (x,y)::r,k=>by simp only [frE,fr1_eq,frE_eq r]
noncomputable def frO (o:Ob) (k:Ob→α):α:=match o with
 | .cells ver l=>frN ver fun ver=>frVs l fun l=>k (.cells ver l)
 | .map es=>frE es fun es=>k (.map es)
 | .unborn=>k .unborn
 | .dead=>k .dead
theorem frO_eq (o:Ob) (k:Ob→α):frO o k=k o:=by cases o<;>simp only [frO,frN_eq,frVs_eq,frE_eq]
noncomputable def frH (l:List Ob):(List Ob→α)→α:=List.rec (motive:=fun _=>(List Ob→α)→α) (fun k=>k []) (fun x _ ih k=>frO x fun x=>ih fun xs=>k (x::xs)) l
theorem frH_eq:∀(l:List Ob) (k:List Ob→α),frH l k=k l
 | [],_=>rfl
 | x::xs,k=>by
  show (frO x fun x=>frH xs fun xs=>k (x::xs))=_
  rw [frO_eq,frH_eq xs]
noncomputable def putF (v:V) (l:List V):Nat→(List V→α)→α:=List.rec (motive:=fun _=>Nat→(List V→α)→α) (fun _ k=>k []) (fun x xs ih n k=>Nat.casesOn (motive:=fun _=>α) n (k (v::xs)) fun m=>ih m fun r=>k (x::r)) l
theorem putF_eq:∀(l:List V) (n:Nat) (v:V) (k:List V→α),putF v l n k=k (putT l (some n) v)
 | [],n,_,_=>by cases n<;>rfl
 | _::xs,0,v,k=>rfl
 | x::xs,n+1,v,k=>putF_eq xs n v _
noncomputable def putX (tm:List V) (d:Option Nat) (v:V) (k:List V→α):α:=match d with
 | some n=>putF v tm n k
 | none=>k tm
theorem putX_eq (tm:List V) (d:Option Nat) (v:V) (k:List V→α):putX tm d v k=k (putT tm d v):=by
 cases d with
 | none=>simp only [putX];cases tm<;>rfl
 | some n=>exact putF_eq tm n v k
end
noncomputable def getF (l:List V):Nat→V:=List.rec (motive:=fun _=>Nat→V) (fun _=>.dead) (fun x _ ih n=>Nat.casesOn (motive:=fun _=>V) n x ih) l
theorem getF_eq:∀(l:List V) (n:Nat),getF l n=getT l n
 | [],n=>by cases n<;>rfl
 | x::xs,0=>rfl
 | x::xs,n+1=>getF_eq xs n
noncomputable def evF (tm:List V) (o:Operand):V:=match o with
 | .tmp t=>getF tm t
 | o=>evT tm o
theorem evF_eq (tm:List V) (o:Operand):evF tm o=evT tm o:=by cases o<;>simp only [evF,getF_eq,evT]
theorem evF_fun (tm:List V):evF tm=evT tm:=funext (evF_eq tm)
noncomputable def gvalX (ops:List Oper) (tm:List V) (j:Nat) (want:Bool):Option Bool:=match ops[j]? with
 | some o=>(match o.dst with
  | some d=>(match getF tm d with
   | .bool b=>some (gw want b)
   | .opt g (.bool b)=>some (g&&gw want b)
   | .opt false .dead=>some false
   | _=>none)
  | none=>none)
 | none=>none
theorem gvalX_eq (ops:List Oper) (tm:List V) (j:Nat) (want:Bool):gvalX ops tm j want=gval ops tm j want:=by
 unfold gvalX gval
 simp only [getF_eq]
 rfl
def effO:Op→Bool
 | .store _ _ _=>true
 | .alloc _=>true
 | .box _ _=>true
 | .makeSlice _ _ _=>true
 | .makeMap _ _=>true
 | .mapUpdate _ _ _ _=>true
 | .insert _ _ _ _=>true
 | .buildSlice _ _ _=>true
 | .call c=>(match c.callee with | .builtin .len=>false | _=>true)
 | _=>false
noncomputable def stepX {β:Type} (o:Oper) (tm:List V) (w:V→V) (r:Option (V × List Ob)) (k:List V→List Ob→Option β):Option β:=match r with
 | some (v,H')=>frV v fun v=>putX tm o.dst (w v) fun t=>(match effO o.op with | true=>frH H' fun H'=>k t H' | false=>k t H')
 | none=>none
theorem stepX_ok {β:Type} {o:Oper} {tm:List V} {w:V→V} {r:Option (V × List Ob)} {k:List V→List Ob→Option β} {z:β} (h:stepX o tm w r k=some z):∃v H',r=some (v,H')∧k (putT tm o.dst (w v)) H'=some z:=by
 unfold stepX at h
 split at h
 ·rename_i v H'
  simp only [frV_eq,putX_eq,frH_eq] at h
  refine ⟨v,H',rfl,?_⟩
  split at h<;>exact h
 ·cases h
noncomputable def argX {β:Type} (o:Oper) (tm:List V) (k:List V→β):β:=frVs ((opnds o.op).map (evF tm)) k
theorem argX_eq {β:Type} (o:Oper) (tm:List V) (k:List V→β):argX o tm k=k ((opnds o.op).map (evT tm)):=by rw [argX,frVs_eq,evF_fun]
def kpX (H H':List Ob) (i:Nat):Bool:=match getO H i with
 | .cells ver l=>(match getO H' i with | .cells ver' l'=>Nat.beq ver ver'&&eqVs l l' | _=>false)
 | _=>true
theorem kpX_ok {H H':List Ob} {i ver:Nat} {l:List V} (h:kpX H H' i=true) (hg:getO H i=.cells ver l):getO H' i=.cells ver l:=by
 unfold kpX at h
 rw [hg] at h
 simp only at h
 split at h
 ·rename_i hg'
  rw [Bool.and_eq_true] at h
  rw [hg',Nat.eq_of_beq_eq_true h.1,eqVs_ok h.2]
 ·cases h
def kpsX (H H':List Ob):List Nat→Bool
 | []=>true
 | i::r=>kpX H H' i&&kpsX H H' r
theorem kpsX_ok {H H':List Ob}:∀ {l:List Nat} {i:Nat},kpsX H H' l=true→memN l (some i)=true→kpX H H' i=true
 | [],_,_,h=>by cases h
 | j::r,i,h,hm=>by
  simp only [kpsX,Bool.and_eq_true] at h
  simp only [memN] at hm
  split at hm
  ·rename_i e
   rw [←Nat.eq_of_beq_eq_true e]
   exact h.1
  ·exact kpsX_ok h.2 hm
def keepX (ks:Option (List Nat)) (H H':List Ob):Bool:=match ks with
 | none=>kpsX H H' (List.range H.length)
 | some l=>kpsX H H' l
theorem memN_range {n i:Nat} (h:i<n):memN (List.range n) (some i)=true:=by
 have:∀(l:List Nat),i ∈ l→memN l (some i)=true:=by
  intro l
  induction l with
  | nil=>intro h;cases h
  | cons x xs ih =>
   intro h
   simp only [memN]
   split
   ·rfl
   ·rename_i e
    rcases List.mem_cons.1 h with rfl | h
    ·rw [Nat.beq_refl] at e;cases e
    ·exact ih h
 exact this _ (List.mem_range.2 h)
theorem keepX_ok {ks:Option (List Nat)} {H H':List Ob} (h:keepX ks H H'=true):KeepsC ks H H':=by
 cases ks with
 | none =>
  intro i ver l hg
  refine kpX_ok (kpsX_ok (i:=i) h ?_) hg
  exact memN_range (List.getElem?_eq_some_iff.1 (getO_eq hg (by simp))).1
 | some L =>
  intro i ver l hm hg
  exact kpX_ok (kpsX_ok h hm) hg
def noUnX:List Ob→Bool
 | []=>true
 | .unborn::_=>false
 | _::r=>noUnX r
theorem noUnX_ok:∀ {l:List Ob},noUnX l=true→noUn l
 | [],_=>trivial
 | o::r,h=>by
  cases o<;>first | (cases h;done) | exact noUnX_ok (l:=r) h
def Res.go0:Res→Option (V × List Ob)
 | .ok v H=>some (v,H)
 | _=>none
theorem go0_ok {r:Res} {v:V} {H:List Ob} {K:V→List Ob→Prop} (h:r.go0=some (v,H)) (k:K v H):r.then K:=by
 cases r with
 | ok v' H'=>cases h;exact k
 | need p v' H'=>cases h
 | bad=>cases h
def nd (b:Bool) (v:V) (H:List Ob):Option (V × List Ob):=match b with
 | true=>some (v,H)
 | false=>none
theorem nd_then {b:Bool} {p:Prop} {v v':V} {H H':List Ob} {K:V→List Ob→Prop} (h:nd b v H=some (v',H')) (hp:b=true→p) (k:K v' H'):(Res.need p v H).then K:=by
 cases b with
 | false=>cases h
 | true=>cases h;exact ⟨hp rfl,k⟩
def lenB:List V→Nat→Bool
 | _,0=>true
 | _::xs,n+1=>lenB xs n
 | [],_+1=>false
theorem lenB_ok:∀ {l:List V} {n:Nat},lenB l n=true→lenOK true l n True
 | [],0,_=>trivial
 | _::_,0,_=>trivial
 | [],_+1,h=>by cases h
 | _::xs,n+1,h=>lenB_ok (l:=xs) h
def onesB:List V→Bool
 | []=>true
 | x::xs=>match x.one with | true=>onesB xs | false=>false
theorem onesB_ok:∀ {l:List V},onesB l=true→ones true l True
 | [],_=>trivial
 | x::xs,h=>by
  simp only [onesB] at h
  simp only [ones]
  split at h
  ·rename_i e;rw [e];exact onesB_ok h
  ·cases h
def srcB (x:V) (sz:Nat) (H:List Ob):Bool:=match x with
 | .sl _ cells n=>Nat.ble (n*sz) cells.length
 | .buf id ver off n sz'=>Nat.beq sz' sz&&(match getO H id with | .cells ver' l=>Nat.beq ver ver'&&Nat.ble (off+n*sz) l.length | _=>false)
 | .str _=>Nat.beq sz 1
 | _=>false
theorem srcB_ok {x:V} {sz:Nat} {H:List Ob} (h:srcB x sz H=true):srcP x sz H:=by
 unfold srcB at h
 unfold srcP
 cases x<;>simp only at h ⊢<;>try (cases h;done)
 ·exact Nat.eq_of_beq_eq_true h
 ·exact Nat.le_of_ble_eq_true h
 ·rename_i id ver off n sz'
  rw [Bool.and_eq_true] at h
  refine ⟨Nat.eq_of_beq_eq_true h.1,?_⟩
  have h2:=h.2
  split at h2
  ·rename_i ver' l hg
   rw [Bool.and_eq_true] at h2
   rw [hg]
   exact ⟨Nat.eq_of_beq_eq_true h2.1,Nat.le_of_ble_eq_true h2.2⟩
  ·cases h2
section
variable (tt:Nat→TI) (H:List Ob)
def ldB (t:TI) (x:V):Option (V × List Ob):=match x with
 | .ptr id ver off=>(match getO H id with
  | .cells ver' l=>nd (Nat.beq ver ver'&&lenB l (off+t.size)) (mkV t (getV l off t.size)) H
  | _=>none)
 | .fp cells=>nd (lenB cells t.size) (mkV t (getV cells 0 t.size)) H
 | _=>none
def stB (t:TI) (x v:V):Option (V × List Ob):=match x with
 | .ptr id ver off=>(match getO H id with
  | .cells ver' l=>nd (Nat.beq ver ver'&&(Nat.beq v.cells.length t.size&&(onesB v.cells&&lenB l (off+t.size)))) (.tup []) (setO H id (.cells ver' (putV l off v.cells)))
  | _=>none)
 | _=>none
def inB (i:Int) (n:Nat):Bool:=decide (0≤i)&&decide (i<(n:Int))
def idxAB (t:TI) (x:V) (i:Int):Option (V × List Ob):=match t.k,x with
 | .slice e,.sl _ cells len=>nd (inB i len) (.fp (cells.drop (i.toNat*(tt e).size))) H
 | .slice e,.buf id ver off len sz=>(match Nat.beq sz (tt e).size with
  | true=>nd (inB i len) (.ptr id ver (off+i.toNat*(tt e).size)) H
  | false=>none)
 | .arr n e,.ptr id ver off=>nd (inB i n) (.ptr id ver (off+i.toNat*(tt e).size)) H
 | .arr n e,.fp cells=>nd (inB i n) (.fp (cells.drop (i.toNat*(tt e).size))) H
 | _,_=>none
def idxB (t:TI) (x:V) (i:Int):Option (V × List Ob):=match t.k,x with
 | .str,.str s=>nd (inB i s.length) (.int .u8 (s.getD i.toNat 0).toNat) H
 | .arr n e,.agg cs=>nd (inB i n&&lenB cs (i.toNat*(tt e).size+(tt e).size)) (mkV (tt e) (getV cs (i.toNat*(tt e).size) (tt e).size)) H
 | _,_=>none
def fldB (t:TI) (x:V) (f:Nat):Option (V × List Ob):=match t.k with
 | .struct fs=>(match fs[f]?,x with
  | some (o,ft),.agg cs=>nd (lenB cs (o+(tt ft).size)) (mkV (tt ft) (getV cs o (tt ft).size)) H
  | _,_=>none)
 | _=>none
def slB (t:TI) (x:V) (lo hi mx:Option Int):Option (V × List Ob):=match t.k,x with
 | .str,.str s=>(match mx with
  | some _=>none
  | none=>nd (decide (0≤lo.getD 0)&&(decide (lo.getD 0≤hi.getD s.length)&&decide (hi.getD s.length≤(s.length:Int)))) (.str ((s.drop (lo.getD 0).toNat).take ((hi.getD s.length).toNat-(lo.getD 0).toNat))) H)
 | .slice e,.sl b cells len=>nd (decide (0≤lo.getD 0)&&(decide (lo.getD 0≤hi.getD len)&&(decide (hi.getD len≤mx.getD (hi.getD len))&&decide (mx.getD (hi.getD len)≤(len:Int)))))
   (.sl b ((cells.drop ((lo.getD 0).toNat*(tt e).size)).take (((hi.getD len).toNat-(lo.getD 0).toNat)*(tt e).size)) ((hi.getD len).toNat-(lo.getD 0).toNat)) H
 | .slice e,.buf id ver off len sz=>(match Nat.beq sz (tt e).size with
  | true=>nd (decide (0≤lo.getD 0)&&(decide (lo.getD 0≤hi.getD len)&&(decide (hi.getD len≤mx.getD (hi.getD len))&&decide (mx.getD (hi.getD len)≤(len:Int)))))
   (.buf id ver (off+(lo.getD 0).toNat*sz) ((hi.getD len).toNat-(lo.getD 0).toNat) sz) H
  | false=>none)
 | .arr n e,.ptr id ver off=>(match getO H id with
  | .cells ver' cs=>nd ((Nat.beq ver ver'&&(decide (0≤lo.getD 0)&&(decide (lo.getD 0≤hi.getD n)&&(decide (hi.getD n≤mx.getD (hi.getD n))&&decide (mx.getD (hi.getD n)≤(n:Int))))))&&lenB cs (off+n*(tt e).size))
   (.buf id ver (off+(lo.getD 0).toNat*(tt e).size) ((hi.getD n).toNat-(lo.getD 0).toNat) (tt e).size) H
  | _=>none)
 | _,_=>none
def bytesB (x:V):Option (V × List Ob):=match x with
 | .str _=>none
 | x=>(match srcC x 1 H with
  | none=>none
  | some (src,_)=>nd (srcB x 1 H&&u8s src) (.str (toBytes src)) H)
def appB (te:TI) (d x:V) (nid:Nat):Option (V × List Ob):=match srcC x te.size H with
 | none=>none
 | some (src,n)=>(match d with
  | .sl true _ _=>nd (srcB x te.size H&&(Nat.ble n capMax&&(Nat.ble te.bytes 1024&&(Nat.blt 0 te.size&&onesB src)))) (.buf nid 0 0 n te.size) (place H nid (.cells 0 src))
  | .buf id ver off len sz=>(match getO H id with
   | .cells ver' l=>nd (srcB x te.size H&&(Nat.beq sz te.size&&(Nat.blt 0 te.size&&(Nat.beq ver ver'&&(Nat.beq (off+len*te.size) l.length&&(Nat.ble (len+n) capMax&&(Nat.ble te.bytes 1024&&onesB src)))))))
     (.buf id (ver+1) 0 (len+n) te.size) (setO H id (.cells (ver+1) (l.drop off++src)))
   | _=>none)
  | _=>none)
def appZB (te:TI) (d x:V) (nid:Nat):Option (V × List Ob):=match d,x with
 | .sl true _ _,.int _ n=>nd (decide (0<n)&&(decide (n≤(capMax:Int))&&Nat.ble te.bytes 1024)) (.buf nid 0 0 n.toNat te.size) (place H nid (.cells 0 []))
 | _,_=>none
def copyB (te:TI) (d x:V):Option (V × List Ob):=match srcC x te.size H,d with
 | some (src,n),.buf id ver off len sz=>(match getO H id with
  | .cells ver' l=>nd (srcB x te.size H&&(Nat.beq sz te.size&&(Nat.beq ver ver'&&(Nat.ble (off+len*te.size) l.length&&onesB src))))
    (.int .i64 (min n len:Nat)) (setO H id (.cells ver' (putV l off (src.take (min n len*te.size)))))
  | _=>none)
 | _,_=>none
def makeB (te:TI) (n m:Int) (nid:Nat):Option (V × List Ob) :=
 nd (decide (n=m)&&(decide (0≤n)&&(decide (n≤(capMax:Int))&&(Nat.ble te.bytes 1024&&Nat.blt 0 te.size)))) (.buf nid 0 0 n.toNat te.size) (place H nid (.cells 0 (repC n.toNat te.zero.cells)))
def keyB (t:Nat) (x:V):Bool:=kok tt 9999 t x&&pl x 9999
def keysB (t:Nat):List (V × V)→Bool
 | []=>true
 | (k,_)::r=>keyB tt t k&&keysB t r
def lookB (t:TI) (x k:V) (ok:Bool):Option (V × List Ob):=match mapAt t x H with
 | some (kt,et,_,es)=>(match (tt et).known with
  | true=>(match ok with
   | true=>nd (keyB tt kt k&&keysB tt kt es) (.tup [mGet (tt et).zero k es,.bool (mHas k es)]) H
   | false=>nd (keyB tt kt k&&keysB tt kt es) (mGet (tt et).zero k es) H)
  | false=>none)
 | none=>none
def updB (t:TI) (x k v:V):Option (V × List Ob):=match mapAt t x H with
 | some (kt,_,id,es)=>nd (keyB tt kt k&&keysB tt kt es) (.tup []) (setO H id (.map (mPut k v es)))
 | none=>none
def delB (t:TI) (x k:V):Option (V × List Ob):=match mapAt t x H with
 | some (kt,_,id,es)=>nd (keyB tt kt k&&keysB tt kt es) (.tup []) (setO H id (.map (mDel k es)))
 | none=>none
def sN (k:TK) (x y:V):Bool:=match k,x,y with
 | .slice _,.sl false _ n,.sl true _ _=>Nat.blt 0 n
 | .slice _,.sl true _ _,.sl false _ n=>Nat.blt 0 n
 | .slice _,.buf _ _ _ n _,.sl true _ _=>Nat.blt 0 n
 | .slice _,.sl true _ _,.buf _ _ _ n _=>Nat.blt 0 n
 | _,_,_=>false
def binB (t:TI) (op:BinOp) (x y:V):Option (V × List Ob):=match op,x,y with
 | .shl,.int k a,.int _ b=>nd (decide (0≤b)) (.int k (ishl k a b)) H
 | .shr,.int k a,.int _ b=>nd (decide (0≤b)) (.int k (ishr k a b)) H
 | .quo,.int k a,.int k' b=>(match kindEq k k' with | true=>nd (decide (b≠0)) (.int k (k.wrap (a.tdiv b))) H | false=>none)
 | .rem,.int k a,.int k' b=>(match kindEq k k' with | true=>nd (decide (b≠0)) (.int k (a.tmod b)) H | false=>none)
 | .add,.str a,.str b=>nd (Nat.ble (a.length+b.length) 4611686018427387904) (.str (a++b)) H
 | .eql,x,y=>(match sN t.k x y with | true=>some (.bool false,H) | false=>(binR t .eql x y true H).go0)
 | .neq,x,y=>(match sN t.k x y with | true=>some (.bool true,H) | false=>(binR t .neq x y true H).go0)
 | op,x,y=>(binR t op x y true H).go0
variable {tt H} {K:V→List Ob→Prop} {v:V} {H':List Ob}
theorem ldB_ok {t:TI} {x:V} (h:ldB H t x=some (v,H')) (k:K v H'):(ldR t x true H).then K:=by
 unfold ldB at h
 unfold ldR
 cases x<;>simp only at h ⊢<;>try (cases h;done)
 ·exact nd_then h (fun e=>lenB_ok e) k
 ·split at h
  ·rename_i hg
   rw [hg]
   exact nd_then h (fun e=>by rw [Bool.and_eq_true] at e;exact ⟨Nat.eq_of_beq_eq_true e.1,lenB_ok e.2⟩) k
  ·cases h
theorem stB_ok {t:TI} {x y:V} (h:stB H t x y=some (v,H')) (k:K v H'):(stR t x y H).then K:=by
 unfold stB at h
 unfold stR
 cases x<;>simp only at h ⊢<;>try (cases h;done)
 split at h
 ·rename_i hg
  rw [hg]
  exact nd_then h (fun e=>by
   simp only [Bool.and_eq_true] at e
   exact ⟨Nat.eq_of_beq_eq_true e.1,Nat.eq_of_beq_eq_true e.2.1,onesB_ok e.2.2.1,lenB_ok e.2.2.2⟩) k
 ·cases h
theorem inB_ok {i:Int} {n:Nat} (h:inB i n=true):0≤i∧i<(n:Int):=by
 unfold inB at h
 rw [Bool.and_eq_true] at h
 exact ⟨of_decide_eq_true h.1,of_decide_eq_true h.2⟩
theorem idxAB_ok {t:TI} {x:V} {i:Int} (h:idxAB tt H t x i=some (v,H')) (k:K v H'):(idxAR tt t x i true H).then K:=by
 unfold idxAB at h
 unfold idxAR
 cases hk:t.k<;>simp only [hk] at h ⊢<;>try (cases h;done)
 ·cases x<;>simp only at h ⊢<;>try (cases h;done)
  ·exact nd_then h inB_ok k
  ·split at h
   ·rename_i e;rw [e];exact nd_then h inB_ok k
   ·cases h
 ·cases x<;>simp only at h ⊢<;>try (cases h;done)
  ·exact nd_then h inB_ok k
  ·exact nd_then h inB_ok k
theorem idxB_ok {t:TI} {x:V} {i:Int} (h:idxB tt H t x i=some (v,H')) (k:K v H'):(idxR tt t x i true H).then K:=by
 unfold idxB at h
 unfold idxR
 cases hk:t.k<;>simp only [hk] at h ⊢<;>try (cases h;done)
 ·cases x<;>simp only at h ⊢<;>try (cases h;done)
  exact nd_then h inB_ok k
 ·cases x<;>simp only at h ⊢<;>try (cases h;done)
  exact nd_then h (fun e=>by rw [Bool.and_eq_true] at e;exact ⟨inB_ok e.1,lenB_ok e.2⟩) k
theorem fldB_ok {t:TI} {x:V} {f:Nat} (h:fldB tt H t x f=some (v,H')) (k:K v H'):(fldR tt t x f true H).then K:=by
 unfold fldB at h
 unfold fldR
 cases hk:t.k<;>simp only [hk] at h ⊢<;>try (cases h;done)
 split at h
 ·rename_i hf
  simp only [hf]
  exact nd_then h lenB_ok k
 ·cases h
theorem slB_ok {t:TI} {x:V} {lo hi mx:Option Int} (h:slB tt H t x lo hi mx=some (v,H')) (k:K v H'):(slR tt t x lo hi mx true H).then K:=by
 unfold slB at h
 unfold slR
 cases hk:t.k<;>simp only [hk] at h ⊢<;>try (cases h;done)
 ·cases x<;>simp only at h ⊢<;>try (cases h;done)
  cases mx<;>simp only at h ⊢<;>try (cases h;done)
  exact nd_then h (fun e=>by simp only [Bool.and_eq_true,decide_eq_true_eq] at e;exact e) k
 ·cases x<;>simp only at h ⊢<;>try (cases h;done)
  ·exact nd_then h (fun e=>by simp only [Bool.and_eq_true,decide_eq_true_eq] at e;exact e) k
  ·split at h
   ·rename_i e
    rw [e]
    exact nd_then h (fun e=>by simp only [Bool.and_eq_true,decide_eq_true_eq] at e;exact e) k
   ·cases h
 ·cases x<;>simp only at h ⊢<;>try (cases h;done)
  split at h
  ·rename_i hg
   rw [hg]
   exact nd_then h (fun e=>by
    simp only [Bool.and_eq_true,decide_eq_true_eq] at e
    exact ⟨⟨Nat.eq_of_beq_eq_true e.1.1,e.1.2⟩,lenB_ok e.2⟩) k
  ·cases h
theorem bytesB_ok {x:V} (h:bytesB H x=some (v,H')) (k:K v H'):(bytesR x H).then K:=by
 unfold bytesB at h
 unfold bytesR
 cases x<;>simp only at h ⊢<;>try (cases h;done)
 all_goals
  split at h
  ·cases h
  ·rename_i hs
   rw [hs]
   exact nd_then h (fun e=>by rw [Bool.and_eq_true] at e;exact ⟨srcB_ok e.1,e.2⟩) k
theorem blt_ok {a b:Nat} (h:Nat.blt a b=true):a<b:=Nat.le_of_ble_eq_true h
theorem appB_ok {te:TI} {d x:V} {nid:Nat} (h:appB H te d x nid=some (v,H')) (k:K v H'):(appR te d x nid H).then K:=by
 unfold appB at h
 unfold appR
 split at h
 ·cases h
 ·rename_i src n hs
  rw [hs]
  simp only at h ⊢
  split at h
  ·exact nd_then h (fun e=>by
    simp only [Bool.and_eq_true] at e
    exact ⟨srcB_ok e.1,Nat.le_of_ble_eq_true e.2.1,Nat.le_of_ble_eq_true e.2.2.1,blt_ok e.2.2.2.1,onesB_ok e.2.2.2.2⟩) k
  ·split at h
   ·rename_i hg
    simp only [hg]
    exact nd_then h (fun e=>by
     simp only [Bool.and_eq_true] at e
     exact ⟨srcB_ok e.1,Nat.eq_of_beq_eq_true e.2.1,blt_ok e.2.2.1,Nat.eq_of_beq_eq_true e.2.2.2.1,Nat.eq_of_beq_eq_true e.2.2.2.2.1,Nat.le_of_ble_eq_true e.2.2.2.2.2.1,Nat.le_of_ble_eq_true e.2.2.2.2.2.2.1,onesB_ok e.2.2.2.2.2.2.2⟩) k
   ·cases h
  ·cases h
theorem appZB_ok {te:TI} {d x:V} {nid:Nat} (h:appZB H te d x nid=some (v,H')) (k:K v H'):(appZ te d x nid H).then K:=by
 unfold appZB at h
 unfold appZ
 split at h
 ·exact nd_then h (fun e=>by
   simp only [Bool.and_eq_true,decide_eq_true_eq] at e
   exact ⟨e.1,e.2.1,Nat.le_of_ble_eq_true e.2.2⟩) k
 ·cases h
theorem copyB_ok {te:TI} {d x:V} (h:copyB H te d x=some (v,H')) (k:K v H'):(copyR te d x H).then K:=by
 unfold copyB at h
 unfold copyR
 split at h
 ·rename_i hs
  rw [hs]
  simp only at h ⊢
  split at h
  ·rename_i hg
   rw [hg]
   exact nd_then h (fun e=>by
    simp only [Bool.and_eq_true] at e
    exact ⟨srcB_ok e.1,Nat.eq_of_beq_eq_true e.2.1,Nat.eq_of_beq_eq_true e.2.2.1,Nat.le_of_ble_eq_true e.2.2.2.1,onesB_ok e.2.2.2.2⟩) k
  ·cases h
 ·cases h
theorem makeB_ok {te:TI} {n m:Int} {nid:Nat} (h:makeB H te n m nid=some (v,H')) (k:K v H'):(makeR te n m nid H).then K:=by
 unfold makeB at h
 unfold makeR
 exact nd_then h (fun e=>by
  simp only [Bool.and_eq_true,decide_eq_true_eq] at e
  exact ⟨e.1,e.2.1,e.2.2.1,Nat.le_of_ble_eq_true e.2.2.2.1,blt_ok e.2.2.2.2⟩) k
theorem keyB_ok {t:Nat} {x:V} (h:keyB tt t x=true):keyOK tt t x:=by
 unfold keyB at h
 rw [Bool.and_eq_true] at h
 exact h
theorem keysB_ok {t:Nat}:∀ {es:List (V × V)},keysB tt t es=true→keysOK tt t es
 | [],_=>fun _ h=>by cases h
 | (k,y)::r,h=>by
  simp only [keysB,Bool.and_eq_true] at h
  intro e he
  rcases List.mem_cons.1 he with rfl | he
  ·exact keyB_ok h.1
  ·exact keysB_ok h.2 e he
theorem keys2 {kt:Nat} {x:V} {es:List (V × V)} (e:(keyB tt kt x&&keysB tt kt es)=true):keyOK tt kt x∧keysOK tt kt es:=by
 rw [Bool.and_eq_true] at e
 exact ⟨keyB_ok e.1,keysB_ok e.2⟩
theorem lookB_ok {t:TI} {x y:V} {ok:Bool} (h:lookB tt H t x y ok=some (v,H')) (k:K v H'):(lookR tt t x y ok true H).then K:=by
 unfold lookB at h
 unfold lookR
 split at h
 ·rename_i hm
  rw [hm]
  simp only at h ⊢
  split at h
  ·rename_i hn
   rw [hn]
   cases ok<;>simp only at h ⊢<;>exact nd_then h keys2 k
  ·cases h
 ·cases h
theorem updB_ok {t:TI} {x y z:V} (h:updB tt H t x y z=some (v,H')) (k:K v H'):(updR tt t x y z H).then K:=by
 unfold updB at h
 unfold updR
 split at h
 ·rename_i hm
  rw [hm]
  exact nd_then h keys2 k
 ·cases h
theorem delB_ok {t:TI} {x y:V} (h:delB tt H t x y=some (v,H')) (k:K v H'):(delR tt t x y H).then K:=by
 unfold delB at h
 unfold delR
 split at h
 ·rename_i hm
  rw [hm]
  exact nd_then h keys2 k
 ·cases h
theorem ne0 {n:Nat} (h:Nat.blt 0 n=true):n≠0:=by have:=blt_ok h;omega
theorem sN_eql {t:TI} {x y:V} (h:sN t.k x y=true) (k:K (.bool false) H):(binR t .eql x y true H).then K:=by
 unfold sN at h
 split at h<;>first | (cases h;done) | (rename_i hk;simp only [binR,hk,eqN];exact ⟨ne0 h,k⟩)
theorem sN_neq {t:TI} {x y:V} (h:sN t.k x y=true) (k:K (.bool true) H):(binR t .neq x y true H).then K:=by
 unfold sN at h
 split at h<;>first | (cases h;done) | (rename_i hk;simp only [binR,hk,eqN];exact ⟨ne0 h,k⟩)
theorem binB_ok {t:TI} {op:BinOp} {x y:V} (h:binB H t op x y=some (v,H')) (k:K v H'):(binR t op x y true H).then K:=by
 unfold binB at h
 split at h
 ·exact nd_then h of_decide_eq_true k
 ·exact nd_then h of_decide_eq_true k
 ·split at h
  ·rename_i e
   simp only [binR,e]
   exact nd_then h of_decide_eq_true k
  ·cases h
 ·split at h
  ·rename_i e
   simp only [binR,e]
   exact nd_then h of_decide_eq_true k
  ·cases h
 ·exact nd_then h Nat.le_of_ble_eq_true k
 ·split at h
  ·cases h;exact sN_eql (by assumption) k
  ·exact go0_ok h k
 ·split at h
  ·cases h;exact sN_neq (by assumption) k
  ·exact go0_ok h k
 ·exact go0_ok h k
end
def sliceB (tt:Nat→TI) (t:TI) (lo hi mx:Bool) (args:List V) (H:List Ob):Option (V × List Ob) :=
 match lo,hi,mx,args with
 | false,false,false,[x]=>slB tt H t x none none none
 | true,false,false,[x,.int _ l]=>slB tt H t x (some l) none none
 | false,true,false,[x,.int _ h]=>slB tt H t x none (some h) none
 | true,true,false,[x,.int _ l,.int _ h]=>slB tt H t x (some l) (some h) none
 | false,true,true,[x,.int _ h,.int _ m]=>slB tt H t x none (some h) (some m)
 | true,true,true,[x,.int _ l,.int _ h,.int _ m]=>slB tt H t x (some l) (some h) (some m)
 | _,_,_,_=>none
theorem sliceB_ok {tt:Nat→TI} {t:TI} {lo hi mx:Bool} {args:List V} {H H':List Ob} {K:V→List Ob→Prop} {v:V} (h:sliceB tt t lo hi mx args H=some (v,H')) (k:K v H'):(sliceR tt t lo hi mx args true H).then K:=by
 unfold sliceB at h
 unfold sliceR
 split at h<;>first | exact slB_ok h k | cases h
def bltB (tt:Nat→TI) (b:Builtin) (ats:List Nat) (args:List V) (nid:Nat) (H:List Ob):Option (V × List Ob) :=
 match b,ats,args with
 | .append,st::xt::_,[d,x]=>(match (tt st).k with
  | .slice e=>(match (tt e).known with
   | true=>(match (tt xt).k with
    | .slice _=>appB H (tt e) d x nid
    | .str=>appB H (tt e) d x nid
    | .int _=>appZB H (tt e) d x nid
    | _=>none)
   | false=>none)
  | _=>none)
 | .copy,st::_,[d,x]=>(match (tt st).k with
  | .slice e=>(match (tt e).known with
   | true=>copyB H (tt e) d x
   | false=>none)
  | _=>none)
 | .delete,mt::_,[m,k]=>delB tt H (tt mt) m k
 | b,ats,args=>(builtinR tt b ats args nid H).go0
theorem bltB_ok {tt:Nat→TI} {b:Builtin} {ats:List Nat} {args:List V} {nid:Nat} {H H':List Ob} {K:V→List Ob→Prop} {v:V} (h:bltB tt b ats args nid H=some (v,H')) (k:K v H'):(builtinR tt b ats args nid H).then K:=by
 unfold bltB at h
 split at h
 ·simp only [builtinR,appendR]
  split at h
  ·rename_i hk
   rw [hk]
   simp only at h ⊢
   split at h
   ·rename_i hn
    rw [hn]
    simp only at h ⊢
    split at h
    ·rename_i hx;rw [hx];exact appB_ok h k
    ·rename_i hx;rw [hx];exact appB_ok h k
    ·rename_i hx;rw [hx];exact appZB_ok h k
    ·cases h
   ·cases h
  ·cases h
 ·simp only [builtinR,copyT]
  split at h
  ·rename_i hk
   rw [hk]
   simp only at h ⊢
   split at h
   ·rename_i hn
    rw [hn]
    exact copyB_ok h k
   ·cases h
  ·cases h
 ·exact delB_ok h k
 ·exact go0_ok h k
def opB (tt:Nat→TI) (lv:List Nat) (dst:Option Nat) (o:Op) (args:List V) (nid:Nat) (H:List Ob):Option (V × List Ob) :=
 match o,args with
 | .load t _,[x]=>(match ldT (tt t) with | true=>ldB H (tt t) x | false=>none)
 | .store t _ _,[x,y]=>(match (tt t).known with | true=>stB H (tt t) x y | false=>none)
 | .binOp op t _ _ _,[x,y]=>(match ifcEq tt (tt t).k op x y with | some b=>some (.bool b,H) | none=>(match binT (tt t) x with | true=>binB H (tt t) op x y | false=>none))
 | .convert s t _,[x]=>(match (tt s).known with
  | true=>(match isBS tt (tt s) (tt t) with | true=>bytesB H x | false=>(convR (tt s) (tt t) x H).go0)
  | false=>none)
 | .makeSlice t _ _,[.int _ n,.int _ m]=>(match (tt t).k with
  | .slice e=>(match (tt e).known,(tt e).zero.cok with
   | true,true=>makeB H (tt e) n m nid
   | _,_=>none)
  | _=>none)
 | .slice t _ lo hi mx,args=>(match elemK tt (tt t) with
  | true=>sliceB tt (tt t) lo.isSome hi.isSome mx.isSome args H
  | false=>none)
 | .field t _ f,[x]=>(match fldT tt (tt t) f with | true=>fldB tt H (tt t) x f | false=>none)
 | .indexAddr t _ _,[x,.int _ i]=>(match elemK tt (tt t) with | true=>idxAB tt H (tt t) x i | false=>none)
 | .index t _ _,[x,.int _ i]=>(match elemLd tt (tt t) with | true=>idxB tt H (tt t) x i | false=>none)
 | .lookup t _ _ ok,[x,k]=>lookB tt H (tt t) x k ok
 | .mapUpdate t _ _ _,[x,k,y]=>updB tt H (tt t) x k y
 | .insert t _ _ _,[x,k,y]=>updB tt H (tt t) x k y
 | .call c,args=>(match c.callee with
  | .builtin b=>bltB tt b c.argTypes.toList args nid H
  | _=>none)
 | o,args=>(opR tt lv dst o args true nid H).go0
theorem opB_ok {tt:Nat→TI} {lv:List Nat} {dst:Option Nat} {o:Op} {args:List V} {nid:Nat} {H H':List Ob} {K:V→List Ob→Prop} {v:V} (h:opB tt lv dst o args nid H=some (v,H')) (k:K v H'):(opR tt lv dst o args true nid H).then K:=by
 unfold opB at h
 split at h
 ·simp only [opR]
  split at h
  ·rename_i e;rw [e];exact ldB_ok h k
  ·cases h
 ·simp only [opR]
  split at h
  ·rename_i e;rw [e];exact stB_ok h k
  ·cases h
 ·simp only [opR]
  split at h
  ·rename_i e;rw [e];cases h;exact k
  ·rename_i e
   rw [e]
   simp only
   split at h
   ·rename_i e2;rw [e2];exact binB_ok h k
   ·cases h
 ·simp only [opR]
  split at h
  ·rename_i e
   rw [e]
   simp only
   split at h
   ·rename_i e2;rw [e2];exact bytesB_ok h k
   ·rename_i e2;rw [e2];exact go0_ok h k
  ·cases h
 ·simp only [opR]
  split at h
  ·rename_i e
   rw [e]
   simp only
   split at h
   ·rename_i e1 e2;rw [e1,e2];exact makeB_ok h k
   ·cases h
  ·cases h
 ·simp only [opR]
  split at h
  ·rename_i e;rw [e];exact sliceB_ok h k
  ·cases h
 ·simp only [opR]
  split at h
  ·rename_i e;rw [e];exact fldB_ok h k
  ·cases h
 ·simp only [opR]
  split at h
  ·rename_i e;rw [e];exact idxAB_ok h k
  ·cases h
 ·simp only [opR]
  split at h
  ·rename_i e;rw [e];exact idxB_ok h k
  ·cases h
 ·exact lookB_ok h k
 ·exact updB_ok h k
 ·exact updB_ok h k
 ·rename_i c
  have e:∀args,opR tt lv dst (.call c) args true nid H=(match c.callee with | .builtin b=>builtinR tt b c.argTypes.toList args nid H | _=>.bad):=fun args=>by unfold opR;rfl
  rw [e]
  split at h
  ·exact bltB_ok h k
  ·cases h
 ·exact go0_ok h k
def optB (g:Bool):List V→Bool
 | []=>true
 | .opt g' _::xs=>match g with
  | true=>(match g' with | true=>optB true xs | false=>false)
  | false=>optB false xs
 | _::xs=>optB g xs
theorem optB_ok {g:Bool} {p:Prop} (hp:p):∀ {xs:List V},optB g xs=true→optSide g xs p:=by
 intro xs
 induction xs with
 | nil=>exact fun _=>hp
 | cons x xs ih =>
  intro h
  cases x<;>try exact ih h
  rename_i g' v
  cases g with
  | true =>
   cases g' with
   | true=>exact ⟨fun _=>rfl,ih h⟩
   | false=>cases h
  | false=>exact ⟨fun e=>(by cases e),ih h⟩
section
variable (P:Program) (tt:Nat→TI) (M:Nat→String→Option Nat) (C:V→List V→List Ob→Option (V × List Ob)) (cfg:Cfg)
def opX (o:Oper) (args:List V) (nid:Nat) (H:List Ob):Option (V × List Ob) :=
 match optB true args with
 | true=>opB tt cfg.lv o.dst o.op (args.map V.st) nid H
 | false=>none
theorem opX_ok {o:Oper} {args:List V} {nid:Nat} {H H':List Ob} {v:V} {K:V→List Ob→Prop} (h:opX tt cfg o args nid H=some (v,H')) (k:K v H') :
  optSide true args ((opR tt cfg.lv o.dst o.op (args.map V.st) true nid H).then K):=by
 unfold opX at h
 split at h
 ·exact optB_ok (opB_ok h k) (by assumption)
 ·cases h
def pkX (x:V):Option V:=match x.st with
 | .bool p=>(match optB true [x] with | true=>some (.bool p) | false=>none)
 | _=>none
theorem pkX_ok {x v:V} {K:V→Prop} (h:pkX x=some v) (k:K v):pkB true x K:=by
 unfold pkX at h
 unfold pkB
 cases hx:x.st<;>rw [hx] at h<;>simp only at h ⊢<;>try (cases h;done)
 split at h
 ·cases h;exact optB_ok k (by assumption)
 ·cases h
def pickX (args:List V):Option V:=match args with
 | [c,x,y]=>match c.st with
  | .bool b=>(match optB true [c] with | true=>(match b with | true=>pkX x | false=>pkX y) | false=>none)
  | _=>none
 | _=>none
theorem pickX_ok {args:List V} {v:V} {K:V→Prop} (h:pickX args=some v) (k:K v):pickR true args K:=by
 unfold pickX at h
 unfold pickR
 match args,h with
 | [c,x,y],h =>
  simp only at h ⊢
  cases hx:c.st<;>rw [hx] at h<;>simp only at h ⊢<;>try (cases h;done)
  split at h
  ·refine optB_ok ?_ (by assumption)
   split at h
   ·exact ⟨fun _=>pkX_ok h k,fun e=>by cases e⟩
   ·exact ⟨fun e=>(by cases e),fun _=>pkX_ok h k⟩
  ·cases h
def vcX (args:List V) (H:List Ob):Option (V × List Ob):=match args with
 | f::rest=>(match optB true (f::rest) with | true=>C f.st (rest.map V.st) H | false=>none)
 | []=>none
def icX (name:String) (args:List V) (H:List Ob):Option (V × List Ob):=match args with
 | f::rest=>(match optB true (f::rest) with
  | true=>(match f.st with
   | .ifc t x=>(match M t name with | some n=>C (.fn (.func n) [] []) (x::rest.map V.st) H | none=>none)
   | _=>none)
  | false=>none)
 | []=>none
def runOX (o:Oper) (args:List V) (H:List Ob):Option (V × List Ob) :=
 match o.op with
 | .pick _ _ _=>(match pickX args with | some v=>some (v,H) | none=>none)
 | .call c=>(match c.callee with
  | .builtin _=>opX tt cfg o args H.length H
  | .value _=>vcX C args H
  | .invoke _ name=>icX M C name args H)
 | _=>opX tt cfg o args H.length H
variable (hC:∀f a H v H',C f a H=some (v,H')→ACall P f a H v H') (hM:∀t nm n,M t nm=some n→MethAt P t nm n)
include hC hM
theorem runOX_ok {o:Oper} {args:List V} {H H':List Ob} {v:V} {K:V→List Ob→Prop} (h:runOX tt M C cfg o args H=some (v,H')) (k:K v H'):runO P tt cfg o args H K:=by
 obtain ⟨d,op,ty,ps,af,gd⟩:=o
 unfold runOX at h
 unfold runO
 cases op<;>simp only at h ⊢<;>try exact opX_ok tt cfg h k
 case pick =>
  split at h
  ·cases h;exact pickX_ok (K:=fun v=>K v H) (by assumption) k
  ·cases h
 case call c =>
  obtain ⟨ce,ca,ct⟩:=c
  cases ce<;>simp only at h ⊢<;>try exact opX_ok tt cfg h k
  case value =>
   unfold vcX at h
   match args,h with
   | f::rest,h =>
    simp only at h ⊢
    split at h
    ·exact optB_ok ⟨_,_,hC _ _ _ _ _ h,k⟩ (by assumption)
    ·cases h
  case invoke =>
   unfold icX at h
   match args,h with
   | f::rest,h =>
    simp only at h ⊢
    split at h
    ·cases hx:f.st<;>rw [hx] at h<;>simp only at h ⊢<;>try (cases h;done)
     split at h
     ·rename_i hm
      exact optB_ok ⟨_,_,⟨_,hM _ _ _ hm,hC _ _ _ _ _ h⟩,k⟩ (by assumption)
     ·cases h
    ·cases h
noncomputable def evOpX (ops:List Oper) (o:Oper) (tm:List V) (H:List Ob):Option (List V × List Ob) :=
 match o.guard with
 | none=>argX o tm fun as=>stepX o tm id (runOX tt M C cfg o as H) fun t H'=>some (t,H')
 | some (j,want)=>(match gvalX ops tm j want with
  | none=>none
  | some g=>(match g with
   | true=>argX o tm fun as=>stepX o tm (.opt true) (runOX tt M C cfg o as H) fun t H'=>some (t,H')
   | false=>putX tm o.dst (.opt false .dead) fun t=>some (t,H)))
theorem evOpX_ok {ops:List Oper} {o:Oper} {tm tm':List V} {H H':List Ob} {K:List V→List Ob→Prop} (h:evOpX tt M C cfg ops o tm H=some (tm',H')) (k:K tm' H'):evOp P tt cfg ops o tm H K:=by
 unfold evOpX at h
 simp only [argX_eq,putX_eq,gvalX_eq] at h
 unfold evOp
 cases hg:o.guard with
 | none =>
  simp only [hg] at h ⊢
  obtain ⟨v,H2,h1,h2⟩:=stepX_ok h
  cases h2
  exact runOX_ok P tt M C cfg hC hM (K:=fun v H'=>K (putT tm o.dst v) H') h1 k
 | some jw =>
  obtain ⟨j,want⟩:=jw
  simp only [hg] at h ⊢
  cases hv:gval ops tm j want with
  | none=>rw [hv] at h;cases h
  | some g =>
   rw [hv] at h
   cases g with
   | true =>
    simp only at h ⊢
    obtain ⟨v,H2,h1,h2⟩:=stepX_ok h
    cases h2
    exact ⟨fun _=>runOX_ok P tt M C cfg hC hM (K:=fun v H'=>K (putT tm o.dst (.opt true v)) H') h1 k,fun e=>by cases e⟩
   | false=>cases h;exact ⟨fun e=>(by cases e),fun _=>k⟩
noncomputable def evOpsX (ops:List Oper):List Oper→List V→List Ob→Option (List V × List Ob)
 | [],tm,H=>some (tm,H)
 | o::r,tm,H=>(match evOpX tt M C cfg ops o tm H with | some (tm',H')=>evOpsX ops r tm' H' | none=>none)
theorem evOpsX_ok {ops:List Oper} {tm':List V} {H':List Ob} {K:List V→List Ob→Prop} (k:K tm' H'):∀ {r:List Oper} {tm:List V} {H:List Ob},evOpsX tt M C cfg ops r tm H=some (tm',H')→evOps P tt cfg ops r tm H K:=by
 intro r
 induction r with
 | nil=>intro tm H h;cases h;exact k
 | cons o r ih =>
  intro tm H h
  simp only [evOpsX] at h
  split at h
  ·exact evOpX_ok P tt M C cfg hC hM (K:=fun tm' H'=>evOps P tt cfg ops r tm' H' K) (by assumption) (ih h)
  ·cases h
def frzX:Bool→V→Bool
 | false,_=>true
 | true,.fp _=>true
 | true,_=>false
def ksX:Option (List Nat)→Bool→V→Bool
 | none,b,a=>frzX b a
 | some _,true,a=>frzX true a
 | some l,false,a=>match a with | .ptr id _ _=>memN l (some id) | .fp _=>true | _=>false
def frzLX (ks:Option (List Nat)) (b:Bool):List V→Bool
 | [a]=>ksX ks b a.st
 | _=>true
omit hC hM in
theorem frzX_ok {b:Bool} {a:V} (h:frzX b a=true):frz b a:=by
 cases b with
 | false=>trivial
 | true=>cases a<;>first | trivial | cases h
omit hC hM in
theorem frzLX_ok {ks:Option (List Nat)} {b:Bool} {l:List V} (h:frzLX ks b l=true):frzL ks b l:=by
 match l,h with
 | [],_=>trivial
 | _::_::_,_=>trivial
 | [a],h =>
  simp only [frzLX,frzL] at h ⊢
  cases ks with
  | none=>exact frzX_ok h
  | some l =>
   cases b with
   | true=>exact frzX_ok h
   | false =>
    simp only [ksX,ksK] at h ⊢
    cases ha:a.st<;>rw [ha] at h<;>simp only at h ⊢<;>first | exact h | trivial | cases h
def pcX (f:V) (args:List V):Option V :=
 match f with
 | .fn (.func k) a b=>(match belAll 0 (a++args++b) with
  | true=>(match C f args [] with
   | some (v,[])=>(match v.bel 0 with | true=>some v | false=>none)
   | _=>none)
  | false=>none)
 | _=>none
omit hM in
theorem pcX_ok {f:V} {args:List V} {v:V} (h:pcX C f args=some v) (H:List Ob):ACall P f args H v H:=by
 unfold pcX at h
 split at h
 ·rename_i k a b
  split at h
  ·rename_i hb
   split at h
   ·rename_i v' hc
    split at h
    ·rename_i hv
     cases h
     rcases hC _ _ _ _ _ hc with h1 | ⟨_,h1⟩
     ·have:=GCall.frame h1 hb H
      rw [V.sh_bel v hv,shOs,List.append_nil] at this
      exact .inl this
     ·exact .inr ⟨rfl,h1⟩
    ·cases h
   ·cases h
  ·cases h
 ·cases h
omit hC hM in
theorem then_same {r:Res} {v:V} {H H':List Ob} {K:V→Prop} (hr:r=r.withH H) (h2:r.then fun v' H''=>v'=v∧H''=H') (k:K v):r.thenSame H K:=by
 cases r with
 | ok v0 H0 =>
  simp only [Res.withH,Res.ok.injEq,true_and] at hr
  obtain ⟨e,_⟩:=h2
  exact ⟨hr,by rw [e];exact k⟩
 | need p v0 H0 =>
  simp only [Res.withH,Res.need.injEq,true_and] at hr
  obtain ⟨hp,e,_⟩:=h2
  exact ⟨hr,hp,by rw [e];exact k⟩
 | bad=>exact h2.elim
omit hC hM in
theorem opX_same {o:Oper} {args:List V} {H H':List Ob} {v:V} {K:V→Prop} (hr:opR tt cfg.lv o.dst o.op (args.map V.st) true H.length H=(opR tt cfg.lv o.dst o.op (args.map V.st) true H.length H).withH H)
  (h:opX tt cfg o args H.length H=some (v,H')) (k:K v):optSide true args ((opR tt cfg.lv o.dst o.op (args.map V.st) true H.length H).thenSame H K):=by
 unfold opX at h
 split at h
 ·exact optB_ok (then_same hr (opB_ok (K:=fun v' H''=>v'=v∧H''=H') h ⟨rfl,rfl⟩) k) (by assumption)
 ·cases h
def fstX (o:Option (V × List Ob)):Option V:=match o with | some (v,_)=>some v | none=>none
omit hC hM in
theorem fstX_ok {o:Option (V × List Ob)} {v:V} (h:fstX o=some v):∃H,o=some (v,H):=by
 match o,h with
 | some (v,H),h=>cases h;exact ⟨H,rfl⟩
def runGX (o:Oper) (args:List V) (H:List Ob):Option V :=
 match o.op with
 | .pick _ _ _=>pickX args
 | .call c=>(match c.callee with
  | .builtin _=>(match isP0 tt cfg o with | true=>fstX (opX tt cfg o args H.length H) | false=>none)
  | .value _=>(match args with
   | f::rest=>(match optB true (f::rest) with | true=>pcX C f.st (rest.map V.st) | false=>none)
   | []=>none)
  | .invoke _ _=>none)
 | .load _ _=>(match frzLX cfg.ks (memN cfg.fl o.dst) args with | true=>fstX (opX tt cfg o args H.length H) | false=>none)
 | _=>(match isP0 tt cfg o with | true=>fstX (opX tt cfg o args H.length H) | false=>none)
omit hM in
theorem runGX_ok {o:Oper} {args:List V} {H:List Ob} {v:V} {K:V→Prop} (h:runGX tt C cfg o args H=some v) (k:K v):runG P tt cfg o true args H K:=by
 have key:isP0 tt cfg o=true→∀v,fstX (opX tt cfg o args H.length H)=some v→K v→optSide true args ((opR tt cfg.lv o.dst o.op (args.map V.st) true H.length H).thenSame H K):=fun hp v h k=>by
  obtain ⟨H',h⟩:=fstX_ok h
  exact opX_same tt cfg (opR_H hp _ _ _ _ H H) h k
 have lod:(∃t a,o.op=.load t a)→∀v,fstX (opX tt cfg o args H.length H)=some v→K v→optSide true args ((opR tt cfg.lv o.dst o.op (args.map V.st) true H.length H).thenSame H K):=fun hp v h k=>by
  obtain ⟨H',h⟩:=fstX_ok h
  refine opX_same tt cfg ?_ h k
  obtain ⟨t,a,e⟩:=hp
  rw [e]
  generalize args.map V.st=as
  match as with
  | []=>rfl
  | [x] =>
   simp only [opR]
   cases ldT (tt t)
   ·rfl
   ·simp only
    unfold ldR
    (repeat' split)<;>rfl
  | [x,y]=>rfl
  | x::y::z::r=>rfl
 obtain ⟨d,op,ty,ps,af,gd⟩:=o
 unfold runGX at h
 unfold runG
 cases op<;>simp only at h ⊢<;>try (split at h<;>first | exact key (by assumption) _ h k | cases h)
 case pick=>exact pickX_ok h k
 case load =>
  split at h
  ·have:=lod ⟨_,_,rfl⟩ _ h k
   exact optB_ok ⟨frzLX_ok (by assumption),optSide_any this⟩ (by
    obtain ⟨H',h⟩:=fstX_ok h
    unfold opX at h
    split at h
    ·assumption
    ·cases h)
  ·cases h
 case call c =>
  obtain ⟨ce,ca,ct⟩:=c
  cases ce<;>simp only at h ⊢<;>try (split at h<;>first | exact key (by assumption) _ h k | (cases h;done))
  case value =>
   match args,h with
   | f::rest,h =>
    simp only at h ⊢
    split at h
    ·exact optB_ok ⟨v,fun _ H' _=>pcX_ok P C hC h H',k⟩ (by assumption)
    ·cases h
  case invoke=>cases h
def ncX (args:List V) (H:List Ob):Option (V × List Ob) :=
 match args with
 | f::rest=>(match optB true (f::rest) with
  | true=>(match f.st with
   | .fn (.func k) a b=>(match belAll 0 (a++rest.map V.st++b) with
    | true=>(match C (.fn (.func k) a b) (rest.map V.st) [] with
     | some (v,J)=>(match noUnX (shOs H.length J)&&(v.bel 0 || !J.isEmpty) with | true=>some (v.sh H.length,H++shOs H.length J) | false=>none)
     | none=>none)
    | false=>none)
   | _=>none)
  | false=>none)
 | []=>none
omit hM in
theorem ncX_ok {args:List V} {H H':List Ob} {v:V} {K:V→List Ob→Prop} (h:ncX C args H=some (v,H')) (k:K v H'):runC P args H K:=by
 unfold ncX at h
 unfold runC
 match args,h with
 | f::rest,h =>
  simp only at h ⊢
  split at h
  ·split at h
   ·rename_i kk a b hf
    split at h
    ·rename_i hb
     split at h
     ·rename_i v0 J hc
      split at h
      ·rename_i hn
       cases h
       rw [Bool.and_eq_true] at hn
       refine optB_ok ⟨_,_,noUnX_ok hn.1,fun H2 hl _=>?_,k⟩ (by assumption)
       rw [hf]
       rcases hC _ _ _ _ _ hc with h1 | ⟨hJ,h1⟩
       ·have:=GCall.frame h1 hb H2
        rw [hl] at this
        exact .inl this
       ·subst hJ
        refine .inr ⟨by rw [shOs,List.append_nil],?_⟩
        have hv:v0.bel 0=true:=by simpa using hn.2
        rwa [V.sh_bel v0 hv]
      ·cases h
     ·cases h
    ·cases h
   ·cases h
  ·cases h
def runXX (rs:List (Nat × Nat)) (o:Oper) (args:List V) (H:List Ob):Option (V × List Ob) :=
 match isA2 o with
 | true=>(match look rs o.dst with
  | some i=>(match getO H i with | .unborn=>opX tt cfg o args i H | _=>none)
  | none=>none)
 | false=>(match isC cfg o with
  | true=>ncX C args H
  | false=>(match isK cfg o with
   | true=>(match runOX tt M C cfg o args H with
    | some (v,H')=>(match keepX cfg.ks H H' with | true=>some (v,H') | false=>none)
    | none=>none)
   | false=>runOX tt M C cfg o args H))
theorem runXX_ok {rs:List (Nat × Nat)} {o:Oper} {args:List V} {H H':List Ob} {v:V} {K:V→List Ob→Prop} (h:runXX tt M C cfg rs o args H=some (v,H')) (k:K v H'):runX P tt cfg rs o args H K:=by
 unfold runXX at h
 unfold runX
 cases ha:isA2 o with
 | true =>
  simp only [ha] at h ⊢
  unfold runA
  cases hl:look rs o.dst with
  | none=>rw [hl] at h;cases h
  | some i =>
   simp only [hl] at h ⊢
   cases hg:getO H i<;>simp only [hg] at h<;>try (cases h;done)
   exact ⟨trivial,opX_ok tt cfg h k⟩
 | false =>
  simp only [ha] at h ⊢
  cases hc:isC cfg o with
  | true=>simp only [hc] at h ⊢;exact ncX_ok P C hC h k
  | false =>
   simp only [hc] at h ⊢
   cases hk:isK cfg o with
   | true =>
    simp only [hk] at h ⊢
    split at h
    ·split at h
     ·cases h;exact runOX_ok P tt M C cfg hC hM (K:=keepE cfg.ks H K) (by assumption) ⟨keepX_ok (by assumption),k⟩
     ·cases h
    ·cases h
   | false =>
    simp only [hk] at h ⊢
    exact runOX_ok P tt M C cfg hC hM h k
noncomputable def evVX (rs:List (Nat × Nat)) (ops:List Oper) (o:Oper) (tm:List V) (H:List Ob):Option (V × List Ob) :=
 match o.guard with
 | none=>(match isE cfg o with
  | true=>argX o tm fun as=>runXX tt M C cfg rs o as H
  | false=>argX o tm fun as=>(match runGX tt C cfg o as H with | some v=>some (v,H) | none=>none))
 | some (j,want)=>(match gvalX ops tm j want with
  | none=>none
  | some g=>(match g with
   | true=>(match isE cfg o with
    | true=>argX o tm fun as=>(match runXX tt M C cfg rs o as H with | some (v,H')=>some (.opt true v,H') | none=>none)
    | false=>argX o tm fun as=>(match runGX tt C cfg o as H with | some v=>some (.opt true v,H) | none=>none))
   | false=>some (.opt false .dead,H)))
theorem evVX_ok {rs:List (Nat × Nat)} {ops:List Oper} {o:Oper} {tm:List V} {H H':List Ob} {v:V} {K:V→List Ob→Prop} (h:evVX tt M C cfg rs ops o tm H=some (v,H')) (k:K v H'):evV P tt cfg rs ops o tm H K:=by
 unfold evVX at h
 simp only [argX_eq,gvalX_eq] at h
 unfold evV
 cases hg:o.guard with
 | none =>
  simp only [hg] at h ⊢
  cases he:isE cfg o with
  | true=>simp only [he] at h ⊢;exact runXX_ok P tt M C cfg hC hM h k
  | false =>
   simp only [he] at h ⊢
   split at h
   ·cases h;exact runGX_ok P tt C cfg hC (K:=fun v=>K v H) (by assumption) k
   ·cases h
 | some jw =>
  obtain ⟨j,want⟩:=jw
  simp only [hg] at h ⊢
  cases hv:gval ops tm j want with
  | none=>rw [hv] at h;cases h
  | some g =>
   rw [hv] at h
   cases he:isE cfg o with
   | true =>
    cases g with
    | true =>
     simp only [he] at h ⊢
     split at h
     ·cases h;exact ⟨fun _=>runXX_ok P tt M C cfg hC hM (K:=fun v H'=>K (.opt true v) H') (by assumption) k,fun e=>by cases e⟩
     ·cases h
    | false=>cases h;exact ⟨fun e=>(by cases e),fun _=>k⟩
   | false =>
    cases g with
    | true =>
     simp only [he] at h ⊢
     split at h
     ·cases h;exact ⟨fun _=>runGX_ok P tt C cfg hC (K:=fun v=>K (.opt true v) H) (by assumption) k,fun e=>by cases e⟩
     ·cases h
    | false=>cases h;exact ⟨fun e=>(by cases e),fun _=>k⟩
noncomputable def evOpsDX (rs:List (Nat × Nat)) (ops:List Oper):List Oper→List V→List Ob→Option (List V × List Ob)
 | [],tm,H=>some (tm,H)
 | o::r,tm,H=>stepX o tm id (evVX tt M C cfg rs ops o tm H) fun t H'=>evOpsDX rs ops r t H'
theorem evOpsDX_ok {rs:List (Nat × Nat)} {ops:List Oper} {tm':List V} {H':List Ob} {K:List V→List Ob→Prop} (k:K tm' H'):∀ {r:List Oper} {tm:List V} {H:List Ob},evOpsDX tt M C cfg rs ops r tm H=some (tm',H')→evOpsD P tt cfg rs ops r tm H K:=by
 intro r
 induction r with
 | nil=>intro tm H h;cases h;exact k
 | cons o r ih =>
  intro tm H h
  simp only [evOpsDX] at h
  obtain ⟨v,H2,h1,h2⟩:=stepX_ok h
  exact evVX_ok P tt M C cfg hC hM (K:=fun v H'=>evOpsD P tt cfg rs ops r (putT tm o.dst v) H' K) h1 (ih h2)
noncomputable def evIX (rs:List (Nat × Nat)) (ops:List Oper):List Nat→List V→List Ob→Option (List V × List Ob)
 | [],tm,H=>some (tm,H)
 | i::r,tm,H=>(match ops[i]? with
  | some o=>stepX o tm id (evVX tt M C cfg rs ops o tm H) fun t H'=>evIX rs ops r t H'
  | none=>none)
theorem evIX_ok {rs:List (Nat × Nat)} {ops:List Oper} {tm':List V} {H':List Ob} {K:List V→List Ob→Prop} (k:K tm' H'):∀ {r:List Nat} {tm:List V} {H:List Ob},evIX tt M C cfg rs ops r tm H=some (tm',H')→evI P tt cfg rs ops r tm H K:=by
 intro r
 induction r with
 | nil=>intro tm H h;cases h;exact k
 | cons i r ih =>
  intro tm H h
  simp only [evIX] at h
  simp only [evI]
  split at h
  ·rename_i o ho
   rw [ho]
   obtain ⟨v,H2,h1,h2⟩:=stepX_ok h
   exact evVX_ok P tt M C cfg hC hM (K:=fun v H'=>evI P tt cfg rs ops r (putT tm o.dst v) H' K) h1 (ih h2)
  ·cases h
end
noncomputable def lpX (f:S→Option (Exit × S)):Nat→S→Option (Exit × S)
 | 0,_=>none
 | n+1,s=>(match f s with
  | some (.normal,s')=>lpX f n s'
  | r=>r)
section
variable (P:Program) (tt:Nat→TI) (M:Nat→String→Option Nat) (C:V→List V→List Ob→Option (V × List Ob)) (cfg:Cfg) (L:Nat)
def outX (o:Option (List V × List Ob)):Option (Exit × S):=match o with | some (t,h)=>some (.normal,⟨t,h⟩) | none=>none
noncomputable def cd:Code→S→Option (Exit × S)
 | .skip,s=>some (.normal,s)
 | .region i ops draw,s=>(match draw with
  | false=>outX (evOpsX tt M C cfg ops.toList ops.toList s.tm s.hp)
  | true=>(match ordOf cfg.ord i with
   | none=>(match drawOK tt cfg ops.toList with
    | true=>outX (evOpsDX tt M C cfg (resv ops.toList s.hp.length) ops.toList ops.toList s.tm (s.hp++unb ops.toList))
    | false=>none)
   | some l=>(match drawOKL tt cfg ops.toList l with
    | true=>outX (evIX tt M C cfg (resv ops.toList s.hp.length) ops.toList l s.tm (s.hp++unb ops.toList))
    | false=>none)))
 | .seq a b,s=>(match cd a s with
  | some (.normal,s')=>cd b s'
  | r=>r)
 | .cond c a b,s=>(match evF s.tm c with
  | .bool t=>(match t with | true=>cd a s | false=>cd b s)
  | _=>none)
 | .block id c,s=>(match cd c s with
  | some (.exit j,s')=>(match Nat.beq j id with | true=>some (.normal,s') | false=>some (.exit j,s'))
  | r=>r)
 | .loop c,s=>lpX (cd c) L s
 | .exit id,s=>some (.exit id,s)
 | .ret,s=>some (.ret,s)
 | .label _,s=>some (.normal,s)
 | _,_=>none
variable (hC:∀f a H v H',C f a H=some (v,H')→ACall P f a H v H') (hM:∀t nm n,M t nm=some n→MethAt P t nm n) (tok:TOK P tt) (hm:P.follows .mixedOrders=true)
include hC hM tok hm
theorem cd_ok:∀(c:Code) {s s':S} {e:Exit},cd tt M C cfg L c s=some (e,s')→∀ {Q:Exit→S→Prop},Q e s'→ev P tt cfg c Q s
 | .skip,s,s',e,h,Q,q=>by cases h;exact q
 | .region i ops draw,s,s',e,h,Q,q=>by
  simp only [cd] at h
  simp only [ev]
  cases draw with
  | false =>
   simp only at h ⊢
   unfold outX at h
   split at h
   ·cases h;exact evOpsX_ok P tt M C cfg hC hM (K:=fun t h=>Q .normal ⟨t,h⟩) q (by assumption)
   ·cases h
  | true =>
   simp only at h ⊢
   cases ho:ordOf cfg.ord i with
   | none =>
    simp only [ho] at h ⊢
    split at h
    ·unfold outX at h
     split at h
     ·cases h;exact ⟨by assumption,evOpsDX_ok P tt M C cfg hC hM (K:=fun t h=>Q .normal ⟨t,h⟩) q (by assumption)⟩
     ·cases h
    ·cases h
   | some l =>
    simp only [ho] at h ⊢
    split at h
    ·unfold outX at h
     split at h
     ·cases h;exact ⟨by assumption,evIX_ok P tt M C cfg hC hM (K:=fun t h=>Q .normal ⟨t,h⟩) q (by assumption)⟩
     ·cases h
    ·cases h
 | .seq a b,s,s',e,h,Q,q=>by
  simp only [cd] at h
  simp only [ev]
  split at h
  ·rename_i s1 h1
   exact cd_ok a h1 (cd_ok b h q)
  ·rename_i h1 hn
   refine cd_ok a h ?_
   cases e<;>first | exact q | exact absurd h (fun h=>hn _ h)
 | .cond c a b,s,s',e,h,Q,q=>by
  simp only [cd,evF_eq] at h
  simp only [ev]
  split at h
  ·rename_i t ht
   rw [ht]
   split at h
   ·exact ⟨fun _=>cd_ok a h q,fun e=>by cases e⟩
   ·exact ⟨fun e=>(by cases e),fun _=>cd_ok b h q⟩
  ·cases h
 | .block id c,s,s',e,h,Q,q=>by
  simp only [cd] at h
  simp only [ev]
  split at h
  ·rename_i j s1 h1
   split at h
   ·rename_i hj
    cases h
    refine cd_ok c h1 ?_
    simp only [inBlk,Nat.eq_of_beq_eq_true hj,if_true]
    exact q
   ·rename_i hj
    cases h
    refine cd_ok c h1 ?_
    simp only [inBlk]
    rw [if_neg (fun e=>by rw [e,Nat.beq_refl] at hj;cases hj)]
    exact q
  ·rename_i h1 hn
   refine cd_ok c h ?_
   cases e<;>first | exact q | exact absurd h (fun h=>hn _ _ h)
 | .loop c,s,s',e,h,Q,q=>by
  simp only [cd] at h
  simp only [ev]
  refine T.loop (α:=Nat × S) (fun x=>x.2) (fun x=>lpX (cd tt M C cfg L c) x.1 x.2=some (e,s')) (fun x=>x.1) (L,s) (fun O β a w hs=>⟨β,hs,Ext.refl β w⟩) h ?_
  rintro ⟨m,s0⟩ hx
  cases m with
  | zero=>cases hx
  | succ m =>
   simp only [lpX] at hx
   refine ev_sound (cfg:=cfg) tok hm c ?_
   split at hx
   ·rename_i s1 h1
    exact cd_ok c h1 ⟨(m,s1),hx,Nat.lt_succ_self m,fun O β a w hs=>⟨β,hs,Ext.refl β w⟩⟩
   ·rename_i h1 hn
    refine cd_ok c hx ?_
    cases e<;>first | exact q | exact absurd hx (fun h=>hn _ h)
 | .exit id,s,s',e,h,Q,q=>by cases h;exact q
 | .ret,s,s',e,h,Q,q=>by cases h;exact q
 | .label _,s,s',e,h,Q,q=>by cases h;exact q
end
structure FnAt (P:Program) (k:Nat) where
 fn:Func
 c:Code
 hf:P.funcs[k]? = some fn
 hb:fn.body=some c
 hc:∀(vals:Array Value) (w:World),(callFunc k vals).run P w=.ok (.enter k vals) w
noncomputable def resX (tt:Nat→TI):List ResultVar→List V→List Ob→Option (List V)
 | [],_,_=>some []
 | .tmp t::r,tm,H=>(match resX tt r tm H with | some vs=>some (getT tm t::vs) | none=>none)
 | .cell a t::r,tm,H=>(match ldT (tt t) with
  | true=>(match ldB H (tt t) (getT tm a) with
   | some (v,_)=>(match resX tt r tm H with | some vs=>some (v::vs) | none=>none)
   | none=>none)
  | false=>none)
theorem resX_ok {tt:Nat→TI} {tm:List V} {H:List Ob}:∀ {rs:List ResultVar} {vs:List V} {K:List V→Prop},resX tt rs tm H=some vs→K vs→evRes tt rs tm H K:=by
 intro rs
 induction rs with
 | nil=>intro vs K h k;cases h;exact k
 | cons r rs ih =>
  intro vs K h k
  cases r with
  | tmp t =>
   simp only [resX] at h
   simp only [evRes]
   split at h
   ·cases h;exact ih (by assumption) k
   ·cases h
  | cell a t =>
   simp only [resX] at h
   simp only [evRes]
   cases hl:ldT (tt t) with
   | false=>rw [hl] at h;cases h
   | true =>
    simp only [hl] at h ⊢
    split at h
    ·rename_i v H2 hg
     split at h
     ·rename_i vs' hr
      cases h
      exact ldB_ok (K:=fun v _=>evRes tt rs tm H fun vs=>K (v::vs)) hg (ih hr k)
     ·cases h
    ·cases h
def finX (n0:Nat) (v:V) (hp:List Ob):Option (V × List Ob) :=
 match Nat.ble n0 hp.length,v.bel n0,belObs n0 (hp.take n0) with
 | true,true,true=>some (v,hp.take n0)
 | true,_,_=>(match v.bel hp.length,belObs hp.length hp with
  | true,true=>some (v,hp)
  | _,_=>none)
 | _,_,_=>none
theorem finX_ok {n0:Nat} {v v':V} {hp H':List Ob} (h:finX n0 v hp=some (v',H')):v'=v∧∃J,hp=H'++J∧n0≤H'.length∧v'.bel H'.length=true∧belObs H'.length H'=true:=by
 unfold finX at h
 split at h
 ·rename_i h1 h2 h3
  cases h
  have hl:(hp.take n0).length=n0:=by rw [List.length_take];exact Nat.min_eq_left (Nat.le_of_ble_eq_true h1)
  refine ⟨rfl,hp.drop n0,(List.take_append_drop n0 hp).symm,?_,?_,?_⟩
  ·rw [hl];exact Nat.le_refl _
  ·rw [hl];exact h2
  ·rw [hl];exact h3
 ·rename_i h1 _
  split at h
  ·cases h
   exact ⟨rfl,[],(List.append_nil _).symm,Nat.le_of_ble_eq_true h1,by assumption,by assumption⟩
  ·cases h
 ·cases h
noncomputable def endX (tt:Nat→TI) (rs:List ResultVar) (n0:Nat) (s:S):Option (V × List Ob):=match resX tt rs s.tm s.hp with
 | some vs=>finX n0 (retV vs) s.hp
 | none=>none
def frz1 (id:Nat) (s:S):S:=match getO s.hp id with
 | .cells ver l=>(match belAll 0 l with | true=>⟨fzs id ver l s.tm,setO (fzH id ver l s.hp) id .dead⟩ | false=>s)
 | _=>s
theorem frz1_gn {n id:Nat} {s:S}:Gn n s (frz1 id s):=by
 unfold frz1
 split
 ·rename_i ver l hg
  split
  ·exact Gn.freeze hg
  ·exact Gn.refl _ _
 ·exact Gn.refl _ _
def frzI:List Nat→S→S
 | [],s=>s
 | i::r,s=>frzI r (frz1 i s)
theorem frzI_gn {n:Nat}:∀ {l:List Nat} {s:S},Gn n s (frzI l s)
 | [],s=>Gn.refl _ _
 | i::r,s=>frz1_gn.trans frzI_gn
def frzP (l:List Nat):Nat→S→S
 | 0,s=>s
 | n+1,s=>frzP l n (frzI l s)
theorem frzP_gn {n:Nat} {l:List Nat}:∀ {k:Nat} {s:S},Gn n s (frzP l k s)
 | 0,s=>Gn.refl _ _
 | k+1,s=>frzI_gn.trans frzP_gn
theorem Gn.chop {n id ver m:Nat} {tm:List V} {H:List Ob} {l:List V} (hg:getO H id=.cells ver l):Gn n ⟨tm,H⟩ ⟨tm,setO H id (.cells ver (l.take m))⟩:=by
 refine Gn.of_ext fun O β a w hs=>⟨β,⟨hs.defers,hs.tm,?_⟩,Ext.refl β w⟩
 have hh:=hs.hp
 have hH:H[id]? = some (.cells ver l):=getO_eq hg (by simp)
 have hlt:=(List.getElem?_eq_some_iff.1 hH).1
 refine ⟨?_,?_,hh.inj,hh.lt,hh.apart,hh.old,hh.glob⟩
 ·rw [setO_place hlt,length_place (by omega)]
  have hlen:β.length=H.length:=hh.len
  omega
 ·intro i p o hi ho
  rw [setO_place hlt,get_place (by omega)] at ho
  split at ho
  ·rename_i e
   subst e
   cases ho
   have h0:=hh.ob i p _ hi hH
   simp only [ObR] at h0 ⊢
   rcases h0 with ⟨rfl,rfl⟩ | ⟨b,base,cs,ty,h1,h2,h3,h4⟩
   ·exact .inl ⟨rfl,by simp⟩
   ·refine .inr ⟨b,base,cs,ty,h1,h2,?_,?_⟩
    ·rw [List.length_take];omega
    ·have:=VRs.take m h4
     rw [List.take_take] at this
     rw [List.length_take];exact this
  ·exact hh.ob i p o hi ho
def chopV (n0:Nat) (v:V) (s:S):S:=match v with
 | .buf id ver off len sz=>(match Nat.ble n0 id,getO s.hp id with
  | true,.cells ver' l=>⟨s.tm,setO s.hp id (.cells ver' (l.take (off+len*sz)))⟩
  | _,_=>s)
 | _=>s
theorem chopV_gn {n n0:Nat} {v:V} {s:S}:Gn n s (chopV n0 v s):=by
 unfold chopV
 split
 ·split
  ·exact Gn.chop (by assumption)
  ·exact Gn.refl _ _
 ·exact Gn.refl _ _
noncomputable def cdZ (f:Code→S→Option (Exit × S)) (z:Nat→List Nat):Nat→Code→S→Option (Exit × S)
 | i,.seq a b,s=>(match f a s with
  | some (.normal,s')=>(match z i with | []=>cdZ f z (i+1) b s' | l=>(fun s=>frVs s.tm fun tm=>frH s.hp fun hp=>cdZ f z (i+1) b ⟨tm,hp⟩) (frzI l s'))
  | r=>r)
 | _,c,s=>f c s
theorem cdZ_ok {P:Program} {f:Code→S→Option (Exit × S)} {z:Nat→List Nat} {n:Nat} (hf:∀c s e s',f c s=some (e,s')→∀ {Q:Exit→S→Prop},Q e s'→T P c Q s):∀(c:Code) {i:Nat} {s s':S} {e:Exit},cdZ f z i c s=some (e,s')→∀ {Q:Exit→S→Prop},Q e s'→Tg P n c Q s:=by
 intro c
 induction c with
 | seq a b _ ihb =>
  intro i s s' e h Q q
  simp only [cdZ] at h
  split at h
  ·rename_i s1 h1
   simp only [frVs_eq,frH_eq] at h
   split at h
   ·exact Tg.seq (Tg.of_T (hf a s _ _ h1 (ihb h q)))
   ·exact Tg.seq (Tg.of_T (hf a s _ _ h1 (Tg.gn frzI_gn (ihb h q))))
  ·rename_i hn
   refine Tg.seq (Tg.of_T (hf a s _ _ h ?_))
   cases e<;>first | exact q | exact absurd h (fun h=>hn _ h)
 | _=>intro i s s' e h Q q;simp only [cdZ] at h;exact Tg.of_T (hf _ _ _ _ h q)
section
variable (P:Program) (tt:Nat→TI) (M:Nat→String→Option Nat) (tbl:(k:Nat)→Option (FnAt P k)) (cf:Nat→List V→Nat→Cfg) (X:V→List V→List Ob→Option (V × List Ob)) (L:Nat) (zf:Nat→Nat) (zc:Nat→List V→Nat→Nat→List Nat)
noncomputable def clsX (tt:Nat→TI) (rs:List ResultVar) (n0 m:Nat) (s:S):S :=
 (fun s1=>chopV n0 (match resX tt rs s1.tm s1.hp with | some vs=>retV vs | none=>.dead) s1) (frzP (List.range' n0 (s.hp.length-n0)) m s)
theorem clsX_gn {tt:Nat→TI} {rs:List ResultVar} {n n0 m:Nat} {s:S}:Gn n s (clsX tt rs n0 m s):=frzP_gn.trans chopV_gn
noncomputable def bodyX (C:V→List V→List Ob→Option (V × List Ob)) (k:Nat) (args:List V) (H:List Ob):Option (V × List Ob) :=
 match tbl k with
 | some F=>(match frVs (args++List.replicate (F.fn.ntmps-args.length) .dead) fun tm=>cdZ (cd tt M C (cf k args H.length) L) (zc k args H.length) 0 F.c ⟨tm,H⟩ with
  | some (.ret,s)=>endX tt F.fn.results.toList H.length (clsX tt F.fn.results.toList H.length (zf k) s)
  | some (.normal,s)=>endX tt F.fn.results.toList H.length (clsX tt F.fn.results.toList H.length (zf k) s)
  | _=>none)
 | none=>none
noncomputable def callN:Nat→V→List V→List Ob→Option (V × List Ob)
 | 0=>X
 | n+1=>fun f args H=>(match X f args H with
  | some r=>some r
  | none=>(match f with
   | .fn (.func k) a b=>bodyX P tt M tbl cf L zf zc (callN n) k (a++args++b) H
   | _=>none))
variable (hM:∀t nm n,M t nm=some n→MethAt P t nm n) (hX:∀f a H v H',X f a H=some (v,H')→ACall P f a H v H') (tok:TOK P tt) (hm:P.follows .mixedOrders=true)
include hM tok hm
theorem bodyX_ok {C:V→List V→List Ob→Option (V × List Ob)} (hC:∀f a H v H',C f a H=some (v,H')→ACall P f a H v H') {k:Nat} {args:List V} {H H':List Ob} {v:V} (h:bodyX P tt M tbl cf L zf zc C k args H=some (v,H')):GCall P k args H v H':=by
 unfold bodyX at h
 simp only [frVs_eq] at h
 split at h
 ·rename_i F _
  have key:∀(e:Exit) (s:S),cdZ (cd tt M C (cf k args H.length) L) (zc k args H.length) 0 F.c ⟨args++List.replicate (F.fn.ntmps-args.length) .dead,H⟩=some (e,s)→e=.ret∨e=.normal →
    endX tt F.fn.results.toList H.length (clsX tt F.fn.results.toList H.length (zf k) s)=some (v,H')→GCall P k args H v H':=fun e s hcd he h=>by
   unfold endX at h
   split at h
   ·rename_i vs hr
    obtain ⟨e1,J,g1,g2,g3,g4⟩:=finX_ok h
    refine GCall.of_T tok F.hf F.hb F.hc (T.aft (Tg.to_T (cdZ_ok (P:=P) (fun c s e s' h Q q=>ev_sound tok hm c (cd_ok P tt M C (cf k args H.length) L hC hM tok hm c h q)) F.c hcd ⟨_,clsX_gn (m:=zf k) (n0:=H.length) (rs:=F.fn.results.toList) (tt:=tt),?_⟩)))
    rcases he with rfl | rfl
    ·exact resX_ok hr ⟨e1.symm,J,g1,g2,g3,g4⟩
    ·exact resX_ok hr ⟨e1.symm,J,g1,g2,g3,g4⟩
   ·cases h
  split at h
  ·exact key _ _ (by assumption) (.inl rfl) h
  ·exact key _ _ (by assumption) (.inr rfl) h
  ·cases h
 ·cases h
include hX
theorem callN_ok:∀(n:Nat) (f:V) (a:List V) (H:List Ob) (v:V) (H':List Ob),callN P tt M tbl cf X L zf zc n f a H=some (v,H')→ACall P f a H v H'
 | 0,f,a,H,v,H',h=>hX _ _ _ _ _ h
 | n+1,f,a,H,v,H',h=>by
  simp only [callN] at h
  split at h
  ·rename_i r hr
   cases h
   exact hX _ _ _ _ _ hr
  ·split at h
   ·exact .inl (bodyX_ok P tt M tbl cf L zf zc hM tok hm (callN_ok n) h)
   ·cases h
theorem PC.run (n:Nat) {k:Nat} {args:List V} {v:V} (ha:belAll 0 args=true) (hv:v.bel 0=true) (h:bodyX P tt M tbl cf L zf zc (callN P tt M tbl cf X L zf zc n) k args []=some (v,[])):PC P k args v:=by
 intro H
 have:=GCall.frame (bodyX_ok P tt M tbl cf L zf zc hM tok hm (callN_ok P tt M tbl cf X L zf zc hM hX tok hm n) h) ha H
 rwa [V.sh_bel v hv,shOs,List.append_nil] at this
end
end Go.Vm

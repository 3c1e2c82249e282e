/-
  Joined by a program from the texts Bdr Shl Kit Bq Bf.
-/
import Derived.Test.YtlbmbbaefncleaaGreatDoorRa
import Derived.Lib.Builder
import Derived.Lib.Strings
import Derived.Lib.Slices
import Derived.Lib.Walk
import Derived.Lib.AppendStr
import Derived.Lib.UnsafeStr
import Derived.Shelf.RegionOpenPlain
import Derived.Lib.MakeNoZero
import Derived.WalkKit
import Derived.Laws.Externs
import Derived.Laws.IdiomCopy
import Derived.Laws.BitsLemmas
import Derived.Shelf.Strings.Builder1
import Derived.Test.YtlbmbbaefncleaaGreatDoorProg
import Derived.Deep.RegionHeld3
import Derived.Test.YtlbmbbaefncleaaGreatDoorSd
set_option linter.unusedVariables false
set_option maxRecDepth 100000
set_option maxHeartbeats 4000000
namespace Go.Proofs.YtlbmbbaefncleaaGreatDoor
open Go.RowKit
theorem cc_used (b:Nat) (w:World) (h0:w.cell? ⟨b,0,none⟩=some (.pointer (some ⟨b,0,none⟩))) :
  Calls Tryz.prog 76 #[.pointer (some ⟨b,0,none⟩)] w fun e w'=>e=.returned (.tuple #[])∧w'=w:=by
 obtain ⟨j,hj⟩:∃j,Tryz.prog.info? 73=some j:=⟨_,rfl⟩
 go_enter Tryz.func76,Tryz.ntmps76
 go_wp2
 rw [Lib.run_neq_ptr_same w _ Tryz.underlying70 hj]
 go_wp2
 go_end0
 exact ⟨rfl,rfl⟩
theorem info73:∃j,Tryz.prog.info? 73=some j∧j.size=2:=⟨_,rfl,rfl⟩
theorem lies73:liesAt Tryz.prog Tryz.prog.depth 73 (2 / Tryz.prog.cellsOf 73) 0 73 1=true:=by kernel_rfl
theorem cc_fresh (b:Nat) (w:World) (h0:w.cell? ⟨b,0,none⟩=some (.pointer none)) (hsh:w.shape? b=some (73,2)) (hfz:w.frozen? ⟨b,0,none⟩=false) :
  Calls Tryz.prog 76 #[.pointer (some ⟨b,0,none⟩)] w fun e w'=>e=.returned (.tuple #[])∧w'=w.setCell ⟨b,0,none⟩ (.pointer (some ⟨b,0,none⟩)):=by
 obtain ⟨j,hj,hjs⟩:=info73
 go_enter Tryz.func76,Tryz.ntmps76
 go_wp2
 rw [Lib.run_to_unsafe w ⟨b,0,none⟩ Tryz.underlying70 Tryz.underlying193 hj (by rw [hjs];decide) hsh (Nat.zero_lt_succ 1)]
 simp only [Result.andThen]
 rw [Oper.upon_value]
 go_wp2
 rw [run_callFunc_extern (fn:=Tryz.f120) (e:=Extern.AbiNoEscape.same) Tryz.func120 (by kernel_rfl) (by kernel_rfl) (by kernel_rfl) (by kernel_rfl)]
 rw [Lib.run_noEscape]
 simp only [Result.andThen]
 rw [Oper.upon_value]
 go_wp2
 rw [Lib.run_from_unsafe w ⟨b,0,none⟩ Tryz.underlying193 Tryz.underlying70 hj hsh lies73]
 simp only [Result.andThen]
 rw [Oper.upon_value]
 go_wp2
 go_end0
 exact ⟨rfl,rfl⟩
def Far (b:Nat) (w w':World):Prop:=∀(x:Nat) (cs:Array Value) (t:TypeId),x≠b→t≠5→w.heap[x]? = some (.cells cs t (0,0))→w'.heap[x]? = some (.cells cs t (0,0))
theorem cc (B b:Nat) (bs:List Value) (w:World) (h:Lib.IsBuilder 73 5 B b bs w) :
  Calls Tryz.prog 76 #[.pointer (some ⟨b,0,none⟩)] w fun e w'=>e=.returned (.tuple #[])∧Lib.BuilderAt 73 5 B b (.pointer (some ⟨b,0,none⟩)) bs w'∧Below B w w'∧Far b w w':=by
 rcases h with h | h
 ·refine (cc_fresh b w h.cell0 h.shape (Lib.BuilderAt.frozen0 h)).mono ?_
  rintro e w' ⟨rfl,rfl⟩
  exact ⟨rfl,h.used _,(Below.refl B w).setCell (p:=⟨b,0,none⟩) h.1 _,fun x cs t hx ht e=>by rw [Below.heap_setCell _ _ _ _ hx];exact e⟩
 ·refine (cc_used b w h.cell0).mono ?_
  rintro e w' ⟨rfl,rfl⟩
  exact ⟨rfl,h,Below.refl B _,fun _ _ _ _ _ e=>e⟩
theorem own_ne {w:World} {B n x:Nat} {v:Value} {bs:List Value} {cs:Array Value} {t:TypeId} (h:w.ownsRow B 5 1 v n bs) (ht:t≠5) (hx:w.heap[x]? = some (.cells cs t (0,0))):some x≠v.ownBlock:=by
 intro e
 rcases h.2 with ⟨rfl,_⟩ | ⟨g,cap,cur,rfl,_,hg,_⟩
 ·simp [Value.ownBlock] at e
 ·simp only [Value.ownBlock,Option.some.injEq] at e
  subst e
  rw [hx] at hg
  simp only [Option.some.injEq,Obj.cells.injEq] at hg
  exact ht hg.2.1
theorem info5:∃i,Tryz.prog.info? 5=some i∧i.zero=some (.int .u8 0)∧i.size=1∧i.bytes=1:=⟨_,rfl,rfl,rfl,rfl⟩
theorem wrS (B b:Nat) (bs:List Value) (s:ByteArray) (w:World) (h:Lib.IsBuilder 73 5 B b bs w) (hlen:bs.length+s.size≤140737488355328) (hBw:B≤w.heap.size) :
  Calls Tryz.prog 38 #[.pointer (some ⟨b,0,none⟩),.string s] w fun e w'=>e=.returned (.tuple #[.int .i64 s.size,.nilIface])∧Lib.BuilderAt 73 5 B b (.pointer (some ⟨b,0,none⟩)) (bs++Lib.strCells s) w'∧Below B w w'∧Far b w w':=by
 obtain ⟨i0,hi,hz0,hz1,hz2⟩:=info5
 go_enter Tryz.func38,Tryz.ntmps38
 go_wp2_with (go_at_call 76;refine (cc B b bs _ h).mono ?_)
 rintro e w1 ⟨rfl,h1,hb1,hf1⟩
 obtain ⟨hB,v,hbk,hown,hne⟩:=h1
 have c0:w1.cell? ⟨b,0,none⟩=some (.pointer (some ⟨b,0,none⟩)):=by rw [Lib.cell_of_heap hbk];rfl
 have c1:w1.cell? ⟨b,1,none⟩=some v:=by rw [Lib.cell_of_heap hbk];rfl
 have hsz:=hb1.size
 go_wp2_with (at_builtin;refine Lib.wpList_append_own_string _ rfl _ _ 71 9 rfl B 5 i0 Tryz.underlying71 Tryz.underlying9 hi hz0 hz1 hz2 _ _ _ rfl hown s rfl ?c3 ?c4 ?c5 ?_)
 case c3=>unfold maxLen;omega
 case c4=>omega
 case c5=>omega
 intro v' w2 hown' hgrow _
 have hlt:b<w1.heap.size:=Lib.BuilderAt.lt ⟨hB,v,hbk,hown,hne⟩
 have hb2:w2.heap[b]? = some (.cells #[.pointer (some ⟨b,0,none⟩),v] 73 (0,0)):=by
  rw [hgrow.block b hlt (fun e=>hne e.symm)]
  exact hbk
 have d0:w2.cell? ⟨b,0,none⟩=some (.pointer (some ⟨b,0,none⟩)):=by rw [Lib.cell_of_heap hb2];rfl
 have d1:w2.cell? ⟨b,1,none⟩=some v:=by rw [Lib.cell_of_heap hb2];rfl
 have f1:w2.frozen? ⟨b,1,none⟩=false:=Lib.frozen_of_heap hb2 1
 obtain ⟨ao,n',cap,rfl⟩:∃ao n' cap,v'=.slice ao n' cap:=by
  rcases hown'.2 with ⟨hv,_⟩ | ⟨g,cap,cur,hv,_⟩
  ·exact ⟨_,_,_,hv⟩
  ·exact ⟨_,_,_,hv⟩
 go_wp2
 go_ret2
 refine ⟨rfl,?_,?_,?_⟩
 ·exact Lib.BuilderAt.put (T:=73) (e:=5) hB hb2 (bs':=bs++Lib.strCells s) (by simpa [Lib.strCells_length] using hown') (by decide)
 ·exact (hb1.grown hgrow (by omega) (fun k hk=>(hown.lt k hk).1)).setCell (p:=⟨b,1,none⟩) hB _
 ·intro x cs t hx ht e
  have e1:=hf1 x cs t hx ht e
  have e2:=(Array.getElem?_eq_some_iff.1 e1).1
  rw [Below.heap_setCell _ _ _ _ hx,hgrow.block x e2 (own_ne hown ht e1)]
  exact e1
theorem wrB (B b:Nat) (bs:List Value) (c:Int) (w:World) (h:Lib.IsBuilder 73 5 B b bs w) (hlen:bs.length+1≤140737488355328) (hBw:B≤w.heap.size) :
  Calls Tryz.prog 39 #[.pointer (some ⟨b,0,none⟩),.int .u8 c] w fun e w'=>e=.returned .nilIface∧Lib.BuilderAt 73 5 B b (.pointer (some ⟨b,0,none⟩)) (bs++[.int .u8 c]) w'∧Below B w w'∧Far b w w':=by
 obtain ⟨i0,hi,hz0,hz1,hz2⟩:=info5
 go_enter Tryz.func39,Tryz.ntmps39
 go_wp2_with (go_at_call 76;refine (cc B b bs _ h).mono ?_)
 rintro e w1 ⟨rfl,h1,hb1,hf1⟩
 obtain ⟨hB,v,hbk,hown,hne⟩:=h1
 have c0:w1.cell? ⟨b,0,none⟩=some (.pointer (some ⟨b,0,none⟩)):=by rw [Lib.cell_of_heap hbk];rfl
 have c1:w1.cell? ⟨b,1,none⟩=some v:=by rw [Lib.cell_of_heap hbk];rfl
 have hsz:=hb1.size
 go_wp2_with (at_builtin;refine wpList_append_own _ rfl _ _ 71 rfl B 5 i0 (.int .u8 0) 1 1 Tryz.underlying71 hi hz0 hz1 hz2 rfl (by decide) _ _ _ rfl (hown.alloc _) ⟨w1.heap.size,0,none⟩ 1 1 [.int .u8 c] rfl rfl ?c1 ?c2 ?c3 ?c4 ?c5 ?_)
 case c1 =>
  intro j u hj
  match j,hj with
  | 0,hj=>simp at hj;subst hj;simp [Addr.add]
 case c2=>intro u hu;simp at hu;subst hu;rfl
 case c3=>unfold maxLen;omega
 case c4=>omega
 case c5=>simp;omega
 intro v' w2 hown' hgrow _
 have hlt:b<w1.heap.size:=Lib.BuilderAt.lt ⟨hB,v,hbk,hown,hne⟩
 have hb2:w2.heap[b]? = some (.cells #[.pointer (some ⟨b,0,none⟩),v] 73 (0,0)):=by
  rw [hgrow.block b (by simp;omega) (fun e=>hne e.symm),Lib.alloc_old w1 _ b hlt]
  exact hbk
 have d0:w2.cell? ⟨b,0,none⟩=some (.pointer (some ⟨b,0,none⟩)):=by rw [Lib.cell_of_heap hb2];rfl
 have d1:w2.cell? ⟨b,1,none⟩=some v:=by rw [Lib.cell_of_heap hb2];rfl
 have f1:w2.frozen? ⟨b,1,none⟩=false:=Lib.frozen_of_heap hb2 1
 obtain ⟨g,cap,rfl⟩:∃g cap,v'=.slice (some ⟨g,0,none⟩) (bs.length+1) cap:=by
  rcases hown'.2 with ⟨_,h0⟩ | ⟨g,cap,cur,hv,_⟩
  ·omega
  ·exact ⟨g,cap,hv⟩
 go_wp2
 go_ret
 refine ⟨rfl,?_,?_,?_⟩
 ·exact Lib.BuilderAt.put (T:=73) (e:=5) hB hb2 (bs':=bs++[.int .u8 c]) (by simpa using hown') (by decide)
 ·exact ((hb1.alloc (by omega) _).grown hgrow (by simp;omega) (fun k hk=>(hown.lt k hk).1)).setCell (p:=⟨b,1,none⟩) hB _
 ·intro x cs t hx ht e
  have e1:=hf1 x cs t hx ht e
  have e2:=(Array.getElem?_eq_some_iff.1 e1).1
  rw [Below.heap_setCell _ _ _ _ hx,hgrow.block x (by simp;omega) (own_ne hown ht e1),Lib.alloc_old w1 _ x e2]
  exact e1
end Go.Proofs.YtlbmbbaefncleaaGreatDoor
namespace Go.Proofs
open Go.Shelf
def Tryz.lays170_ren:Go.Shelf.Ren:=⟨fun | 170=>40 | n=>n,fun | 70=>70 | 3=>3 | 0=>0 | 72=>73 | 37=>71 | 5=>5 | n=>n,fun | n=>n⟩
theorem Tryz.lays170:Go.Proofs.Lays.n170 Tryz.prog Tryz.lays170_ren:={
 mixed:=by kernel_rfl
 f170:=Tryz.func40.trans (congrArg some (by kernel_rfl))
 t0:=Tryz.underlying0
 a0:=Tryz.isAgg0
 z0:=Tryz.sizeOf0
 v0:=Tryz.zeroValue0
 t3:=Tryz.underlying3
 a3:=Tryz.isAgg3
 z3:=Tryz.sizeOf3
 v3:=Tryz.zeroValue3
 t37:=Tryz.underlying71
 a37:=Tryz.isAgg71
 z37:=Tryz.sizeOf71
 v37:=Tryz.zeroValue71
 t70:=Tryz.underlying70
 a70:=Tryz.isAgg70
 z70:=Tryz.sizeOf70
 v70:=Tryz.zeroValue70
 t72:=Tryz.underlying73
 a72:=Tryz.isAgg73
 z72:=Tryz.sizeOf73
 v72:=Tryz.zeroValue73 }
open Go.RowKit in
theorem Tryz.Builder_Len (B b:Nat) (bs:List Value) (w:World) (h:Lib.IsBuilder 73 5 B b bs w) :
  Calls Tryz.prog 40 #[.pointer (some ⟨b,0,none⟩)] w fun e w'=>e=.returned (.int .i64 bs.length)∧w'=w:=Any.Builder_Len Tryz.lays170 B b bs w h
def Tryz.lays169_ren:Go.Shelf.Ren:=⟨fun | 169=>41 | n=>n,fun | 70=>70 | 9=>9 | 0=>0 | 72=>73 | 37=>71 | 127=>124 | 3=>3 | 5=>5 | n=>n,fun | n=>n⟩
theorem Tryz.lays169:Go.Proofs.Lays.n169 Tryz.prog Tryz.lays169_ren:={
 mixed:=by kernel_rfl
 f169:=Tryz.func41.trans (congrArg some (by kernel_rfl))
 t0:=Tryz.underlying0
 a0:=Tryz.isAgg0
 z0:=Tryz.sizeOf0
 v0:=Tryz.zeroValue0
 t3:=Tryz.underlying3
 a3:=Tryz.isAgg3
 z3:=Tryz.sizeOf3
 v3:=Tryz.zeroValue3
 t9:=Tryz.underlying9
 a9:=Tryz.isAgg9
 z9:=Tryz.sizeOf9
 v9:=Tryz.zeroValue9
 t37:=Tryz.underlying71
 a37:=Tryz.isAgg71
 z37:=Tryz.sizeOf71
 v37:=Tryz.zeroValue71
 t70:=Tryz.underlying70
 a70:=Tryz.isAgg70
 z70:=Tryz.sizeOf70
 v70:=Tryz.zeroValue70
 t72:=Tryz.underlying73
 a72:=Tryz.isAgg73
 z72:=Tryz.sizeOf73
 v72:=Tryz.zeroValue73
 t127:=Tryz.underlying124
 a127:=Tryz.isAgg124
 z127:=Tryz.sizeOf124
 v127:=Tryz.zeroValue124 }
theorem Tryz.Builder_Extra_169:Builder.Extra Tryz.prog Tryz.lays169_ren:={
 sizeBuilder:=by kernel_rfl
 liesBuilder:=by kernel_rfl
 t5:=Tryz.underlying5
 a5:=Tryz.isAgg5
 z5:=Tryz.sizeOf5
 v5:=Tryz.zeroValue5
 infoByte:=by kernel_rfl
 cellsByte:=by kernel_rfl
 sizeByte:=by kernel_rfl
 neB5:=by decide }
open Go.RowKit in
theorem Tryz.Builder_String_any (B b:Nat) (l:List UInt8) (w:World) (h:Lib.IsBuilder 73 5 B b (Lib.byteCells l) w) (hBw:B≤w.heap.size) :
  Calls Tryz.prog 41 #[.pointer (some ⟨b,0,none⟩)] w fun e w'=>e=.returned (.string ⟨l.toArray⟩)∧Below B w w':=Any.Builder_String_any Tryz.lays169 Tryz.Builder_Extra_169 B b l w h hBw
end Go.Proofs
namespace Go.Proofs.YtlbmbbaefncleaaGreatDoor
open Go.Vm Go.RowKit
def no:Nat→Prop:=fun _=>False
def W0 (w:World):Prop:=HR no [] w []
theorem own_no:Own no []=no:=by
 funext b
 refine propext ⟨?_,fun h=>.inl h⟩
 rintro (h | ⟨i,l,hi,_⟩)
 ·exact h
 ·simp at hi
theorem W0.of {O:Nat→Prop} {β:List Pl} {w:World} {H:List Ob} (h:HR O β w H):W0 w :=
 ⟨rfl,fun i loc o hi=>by simp at hi,fun i j l l' b hi=>by simp at hi,fun b ⟨i,l,hi,_⟩=>by simp at hi,fun b ⟨i,l,hi,_⟩=>by simp at hi,fun b hb=>hb.elim,by
  rw [own_no];exact h.glob.sub fun b hb=>hb.elim⟩
theorem ext_below {w w':World} (h:Ext [] w [] w'):Below w.heap.size w w':=⟨h.os,h.tape,h.output,h.size,fun k hk=>h.keep k hk (fun ⟨i,l,hi,_⟩=>by simp at hi)⟩
theorem below_ext {β:List Pl} {w w':World} (h:Below w.heap.size w w') (hβ:β=[]):Ext β w β w':=by
 subst hβ
 exact ⟨h.size,fun b hb _=>h.block b hb,h.os,h.tape,h.output,fun _ h=>.inl h,fun i l hi=>by simp at hi⟩
theorem W0.below {w w':World} (h:W0 w) (hb:Below w.heap.size w w'):W0 w' :=
 ⟨rfl,fun i loc o hi=>by simp at hi,fun i j l l' b hi=>by simp at hi,fun b ⟨i,l,hi,_⟩=>by simp at hi,fun b ⟨i,l,hi,_⟩=>by simp at hi,fun b hb=>hb.elim,h.glob.ext (below_ext hb rfl)⟩
theorem PC.calls {P:Program} {n:Nat} {args:List V} {v:V} (h:PC P n args v) {w:World} (hw:W0 w) {vals:List Value} (ha:VRs no w [] args vals) :
  Calls P n vals.toArray w fun e w'=>∃u,e=.returned u∧VR no w' [] v u∧Below w.heap.size w w':=by
 refine ((h []).2 no [] w vals hw (by rw [own_no];exact ha)).mono ?_
 rintro e w' ⟨u,β',rfl,g1,g2,g3⟩
 have hb:β'=[]:=List.length_eq_zero_iff.1 g1.len
 subst hb
 rw [own_no] at g2
 exact ⟨u,rfl,g2,ext_below g3⟩
theorem PC.ofCalls {P:Program} {n:Nat} {args:List V} {v:V} (hc:∀(vals:Array Value) (w:World),(callFunc n vals).run P w=.ok (.enter n vals) w) (ha:belAll 0 args=true) (hv:v.bel 0=true)
  (h:∀(own:Nat→Prop) (w:World) (vals:List Value),W0 w→VRs own w [] args vals→Calls P n vals.toArray w fun e w'=>∃u,e=.returned u∧(∀own',VR own' w' [] v u)∧Below w.heap.size w w'):PC P n args v:=by
 have h0:GCall P n args [] v []:=by
  refine ⟨hc,fun O β w vals hh hva=>?_⟩
  have hb:β=[]:=List.length_eq_zero_iff.1 hh.len
  subst hb
  refine (h _ w vals (W0.of hh) hva).mono ?_
  rintro e w' ⟨u,rfl,h1,h2⟩
  have he:=below_ext h2 (β:=[]) rfl
  exact ⟨u,[],rfl,⟨rfl,fun i loc o hi=>by simp at hi,fun i j l l' b hi=>by simp at hi,fun b ⟨i,l,hi,_⟩=>by simp at hi,fun b ⟨i,l,hi,_⟩=>by simp at hi,fun b hb=>Nat.lt_of_lt_of_le (hh.old b hb) he.size,hh.glob.ext he⟩,h1 _,he⟩
 intro H
 have:=GCall.frame h0 ha H
 rw [V.sh_bel v hv,shOs,List.append_nil] at this
 exact this
theorem bld_keep {T e:TypeId} {B b:Nat} {p:Value} {bs:List Value} {w w':World} (h:Lib.BuilderAt T e B b p bs w) (hk:∀k,k<w.heap.size→w'.heap[k]? = w.heap[k]?):Lib.BuilderAt T e B b p bs w':=by
 have hlt:∀(k:Nat) (o:Obj),w.heap[k]? = some o→k<w.heap.size:=fun k o ho=>(Array.getElem?_eq_some_iff.1 ho).1
 obtain ⟨hB,v,hb,hown,hne⟩:=h
 refine ⟨hB,v,by rw [hk b (hlt _ _ hb)];exact hb,⟨hown.1,?_⟩,hne⟩
 rcases hown.2 with h | ⟨g,cap,cur,hv,hg0,hg,r⟩
 ·exact .inl h
 ·exact .inr ⟨g,cap,cur,hv,hg0,by rw [hk g (hlt _ _ hg)];exact hg,r⟩
theorem isb_keep {T e:TypeId} {B b:Nat} {bs:List Value} {w w':World} (h:Lib.IsBuilder T e B b bs w) (hk:∀k,k<w.heap.size→w'.heap[k]? = w.heap[k]?):Lib.IsBuilder T e B b bs w' :=
 h.imp (fun h=>bld_keep h hk) (fun h=>bld_keep h hk)
end Go.Proofs.YtlbmbbaefncleaaGreatDoor
set_option linter.all false
namespace Go.Proofs.YtlbmbbaefncleaaGreatDoor
open Go.Vm Go.RowKit
section
def hostB (n:Int):Bool:=decide (0≤n)&&decide (n<16)
def decH (n:Int):List UInt8:=if n<10 then [UInt8.ofNat (48+n.toNat)] else [49,UInt8.ofNat (38+n.toNat)]
theorem hostB_iff {n:Int}:hostB n=true↔(0≤n∧n<16):=by
 unfold hostB
 rw [Bool.and_eq_true,decide_eq_true_eq,decide_eq_true_eq]
theorem host_cases {n:Int} (h:hostB n=true):∃m:Nat,n=m∧m<16:=by
 obtain ⟨h1,h2⟩:=hostB_iff.1 h
 exact ⟨n.toNat,by omega,by omega⟩
theorem q181 (n:Int) (h:hostB n=true) (w:World):Calls Tryz.prog 181 #[.int .i64 n] w fun e w'=>e=.returned (.string ⟨(decH n).toArray⟩)∧w'=w:=by
 obtain ⟨m,rfl,hm⟩:=host_cases h
 match m,hm with
 | 0,_ | 1,_ | 2,_ | 3,_ | 4,_ | 5,_ | 6,_ | 7,_ | 8,_ | 9,_ | 10,_ | 11,_ | 12,_ | 13,_ | 14,_ | 15,_ =>
  go_enter Tryz.func181,Tryz.ntmps181
  go_wp2
  go_ret
  exact ⟨rfl,rfl⟩
theorem q155 (n:Int) (h:hostB n=true) (w:World):Calls Tryz.prog 155 #[.int .i64 n,.int .i64 10] w fun e w'=>e=.returned (.string ⟨(decH n).toArray⟩)∧w'=w:=by
 obtain ⟨h1,h2⟩:=hostB_iff.1 h
 have h3:n<100:=by omega
 go_enter Tryz.func155,Tryz.ntmps155
 go_wp2_with (go_at_call 181;refine (q181 n h _).mono ?_)
 rintro e w' ⟨rfl,rfl⟩
 go_wp2
 go_ret
 exact ⟨rfl,rfl⟩
theorem q119 (n:Int) (h:hostB n=true) (w:World):Calls Tryz.prog 119 #[.int .i64 n] w fun e w'=>e=.returned (.string ⟨(decH n).toArray⟩)∧w'=w:=by
 go_enter Tryz.func119,Tryz.ntmps119
 go_wp2_with (go_at_call 155;refine (q155 n h _).mono ?_)
 rintro e w' ⟨rfl,rfl⟩
 go_wp2
 go_ret
 exact ⟨rfl,rfl⟩
theorem q75 (n:Int) (h:hostB n=true) (w:World):Calls Tryz.prog 75 #[.int .i64 n] w fun e w'=>e=.returned (.string ⟨(decH n).toArray⟩)∧w'=w:=by
 go_enter Tryz.func75,Tryz.ntmps75
 go_wp2_with (go_at_call 119;refine (q119 n h _).mono ?_)
 rintro e w' ⟨rfl,rfl⟩
 go_wp2
 go_ret
 exact ⟨rfl,rfl⟩
theorem q37 (n:Int) (h:hostB n=true) (w:World):Calls Tryz.prog 37 #[.int .i64 n] w fun e w'=>e=.returned (.string ⟨(decH n).toArray⟩)∧w'=w:=by
 go_enter Tryz.func37,Tryz.ntmps37
 go_wp2_with (go_at_call 75;refine (q75 n h _).mono ?_)
 rintro e w' ⟨rfl,rfl⟩
 go_wp2
 go_ret
 exact ⟨rfl,rfl⟩
end
section
structure Rg where
 f:Int
 t:Int
 p:V
 q:V
 ps:List UInt8
 qs:List UInt8
 pe:Int
 qe:Int
instance:Inhabited Rg:=⟨⟨0,0,.dead,.dead,[],[],0,0⟩⟩
def encG (r:Rg):List V:=[.int .i64 r.f,.int .i64 r.t,r.p,r.q]
def slG (l:List Rg):V:=.sl false (l.flatMap encG) l.length
def headG (r:Rg):List UInt8:=[114,117,108,101,32]++decH r.f++[32]++decH r.t
def lineG (r:Rg):List UInt8:=headG r++[10]++(r.ps++[10]++(r.qs++[10]))
def chkG (r:Rg):Int:=if (hostB r.f&&hostB r.t)=true then (if r.pe=0 then r.qe else r.pe) else 9
def txtG (l:List Rg):List UInt8:=l.flatMap lineG
def badG:List Rg→Int
 | []=>0
 | e::l=>if chkG e=0 then badG l else chkG e
def fmtG (l:List Rg):List UInt8 × Int:=if badG l≠0 then ([],badG l) else if 16384<(txtG l).length then ([],4) else (txtG l,0)
theorem badG_at:∀ {l:List Rg} {k:Nat} {e:Rg},l[k]? = some e→badG (l.take k)=0→¬chkG e=0→badG l=chkG e
 | [],_,_,h,_,_=>by simp at h
 | x::l,0,e,h,_,hn=>by
  simp at h
  subst h
  rw [badG,if_neg hn]
 | x::l,k+1,e,h,hb,hn=>by
  rw [List.getElem?_cons_succ] at h
  rw [List.take_succ_cons,badG] at hb
  split at hb
  ·rename_i h0
   rw [badG,if_pos h0]
   exact badG_at h hb hn
  ·rename_i h0
   exact absurd hb h0
theorem badG_step:∀ {l:List Rg} {k:Nat} {e:Rg},l[k]? = some e→badG (l.take k)=0→chkG e=0→badG (l.take (k+1))=0
 | [],_,_,h,_,_=>by simp at h
 | x::l,0,e,h,_,hn=>by
  simp at h
  subst h
  rw [List.take_succ_cons,badG,if_pos hn];rfl
 | x::l,k+1,e,h,hb,hn=>by
  rw [List.getElem?_cons_succ] at h
  rw [List.take_succ_cons,badG] at hb ⊢
  split at hb
  ·rename_i h0
   rw [if_pos h0]
   exact badG_step h hb hn
  ·rename_i h0
   exact absurd hb h0
theorem txtG_step {l:List Rg} {k:Nat} {e:Rg} (h:l[k]? = some e):txtG (l.take (k+1))=txtG (l.take k)++lineG e:=by
 rw [txtG,List.take_succ,h,List.flatMap_append]
 simp [txtG]
theorem kcB {n:Nat} {a:Int} {b:Bool} (h:PC Tryz.prog n [.int .i64 a] (.bool b)) {w:World} (hw:W0 w) :
  Calls Tryz.prog n #[.int .i64 a] w fun x w'=>x=.returned (.bool b)∧Below w.heap.size w w':=by
 refine (PC.calls h hw (vals:=[.int .i64 a]) (by simp only [VRs,VR,and_true])).mono ?_
 rintro x w' ⟨u,rfl,h1,h2⟩
 simp only [VR] at h1
 exact ⟨by rw [h1],h2⟩
theorem kcT {n:Nat} {p:V} {s:List UInt8} {e:Int} (h:PC Tryz.prog n [p] (.tup [.str s,.int .i64 e])) {w:World} (hw:W0 w) {vp:Value} (hv:VR no w [] p vp) :
  Calls Tryz.prog n #[vp] w fun x w'=>x=.returned (.tuple #[.string ⟨s.toArray⟩,.int .i64 e])∧Below w.heap.size w w':=by
 refine (PC.calls h hw (vals:=[vp]) (by simp only [VRs,and_true];exact hv)).mono ?_
 rintro x w' ⟨u,rfl,h1,h2⟩
 simp only [VR] at h1
 obtain ⟨l,rfl,h1⟩:=h1
 match l,h1 with
 | [a,b],h1 =>
  simp only [VRs,VR,and_true] at h1
  obtain ⟨rfl,rfl⟩:=h1
  exact ⟨rfl,h2⟩
 | [],h1=>simp [VRs] at h1
 | [_],h1=>simp [VRs] at h1
 | _::_::_::_,h1=>simp [VRs] at h1
theorem vr_low {w w':World} {x:V} {v:Value} (h:VR no w [] x v) (hb:Below w.heap.size w w'):VR no w' [] x v:=by
 have:=VR.ext (O:=no) (below_ext hb (β:=[]) rfl) x v (by rw [own_no];exact h)
 rwa [own_no] at this
structure Bst (w0:World) (B n:Nat) (bs:List Value) (o:Obj) (W:World):Prop where
 bel:Below B w0 W
 bld:Lib.IsBuilder 73 5 B B bs W
 box:W.heap[n]? = some o
 lt:n<W.heap.size
 le:B≤W.heap.size
theorem Bst.step {w0 W W':World} {B n:Nat} {bs:List Value} {o:Obj} (h:Bst w0 B n bs o W) (hb:Below W.heap.size W W'):Bst w0 B n bs o W' :=
 ⟨h.bel.trans (hb.mono h.le),isb_keep h.bld fun j hj=>hb.block j hj,by rw [hb.block n h.lt];exact h.box,Nat.lt_of_lt_of_le h.lt hb.size,Nat.le_trans h.le hb.size⟩
theorem Bst.start {w0 W:World} {B:Nat} {bs:List Value} {cs:Array Value} {t:TypeId} (hb:Below B w0 W) (hB:Lib.IsBuilder 73 5 B B bs W) (hle:B≤W.heap.size):Bst w0 B W.heap.size bs (.cells cs t (0,0)) (W.alloc (.cells cs t)) :=
 ⟨hb.alloc hle _,isb_keep hB fun j hj=>heap_alloc_old W _ hj,heap_alloc_new W _,by simp,by simp;omega⟩
theorem Bst.c0 {w0 W:World} {B n:Nat} {bs:List Value} {x0 x1 x2 x3:Value} {t:TypeId} (h:Bst w0 B n bs (.cells #[x0,x1,x2,x3] t (0,0)) W):W.cell? ⟨n,0,none⟩=some x0:=by rw [Lib.cell_of_heap h.box];rfl
theorem Bst.c1 {w0 W:World} {B n:Nat} {bs:List Value} {x0 x1 x2 x3:Value} {t:TypeId} (h:Bst w0 B n bs (.cells #[x0,x1,x2,x3] t (0,0)) W):W.cell? ⟨n,1,none⟩=some x1:=by rw [Lib.cell_of_heap h.box];rfl
theorem Bst.c2 {w0 W:World} {B n:Nat} {bs:List Value} {x0 x1 x2 x3:Value} {t:TypeId} (h:Bst w0 B n bs (.cells #[x0,x1,x2,x3] t (0,0)) W):W.cell? ⟨n,2,none⟩=some x2:=by rw [Lib.cell_of_heap h.box];rfl
theorem Bst.c3 {w0 W:World} {B n:Nat} {bs:List Value} {x0 x1 x2 x3:Value} {t:TypeId} (h:Bst w0 B n bs (.cells #[x0,x1,x2,x3] t (0,0)) W):W.cell? ⟨n,3,none⟩=some x3:=by rw [Lib.cell_of_heap h.box];rfl
theorem fmtG_bad {l:List Rg} {k:Nat} {e:Rg} (hf:l[k]? = some e) (hb:badG (l.take k)=0) {c:Int} (hc:chkG e=c) (hn:c≠0):fmtG l=([],c):=by
 have:=badG_at hf hb (by rw [hc];exact hn)
 rw [fmtG,this,hc,if_pos hn]
theorem decH_size (n:Int):(⟨(decH n).toArray⟩:ByteArray).size≤2:=by
 unfold decH
 split<;>simp [ByteArray.size]
class Sm (s:ByteArray):Prop where
 le:s.size≤1000
theorem sm1 (b:ByteArray) [hb:Sm b]:(9223372036854775807<5+b.size)=False:=eq_false (by have:=hb.le;omega)
theorem sm2 (b:ByteArray) [hb:Sm b]:(9223372036854775807<5+b.size+1)=False:=eq_false (by have:=hb.le;omega)
theorem sm3 (b c:ByteArray) [hb:Sm b] [hc:Sm c]:(9223372036854775807<5+b.size+1+c.size)=False:=eq_false (by have:=hb.le;have:=hc.le;omega)
attribute [local go_sem] sm1 sm2 sm3
def prtG (r:Rg):Nat→List UInt8
 | 0=>[]
 | 1=>headG r++[10]
 | 2=>headG r++[10]++(r.ps++[10])
 | _=>lineG r
def strG (r:Rg) (sf st:ByteArray):Nat→ByteArray
 | 0=>⟨#[114,117,108,101,32]⟩++sf++⟨#[32]⟩++st
 | 1=>⟨r.ps.toArray⟩
 | _=>⟨r.qs.toArray⟩
theorem prt_step {r:Rg} {sf st:ByteArray} (hf:⟨(decH r.f).toArray⟩=sf) (ht:⟨(decH r.t).toArray⟩=st):∀ {j:Nat},j<3→prtG r (j+1)=prtG r j++((strG r sf st j).data.toList++[10])
 | 0,_=>by
  subst hf ht
  simp [prtG,strG,headG,ByteArray.data_append]
 | 1,_=>by simp [prtG,strG]
 | 2,_=>by simp [prtG,strG,lineG]
theorem str_size {r:Rg} {sf st:ByteArray} (zf:sf.size≤2) (zt:st.size≤2) (h1:r.ps.length≤100000000) (h2:r.qs.length≤100000000):∀j,(strG r sf st j).size≤100000000
 | 0=>by
  simp only [strG,ByteArray.size_append]
  show 5+_+1+_≤_
  omega
 | 1=>by simpa [strG,ByteArray.size] using h1
 | _+2=>by simpa [strG,ByteArray.size] using h2
theorem decH_len (n:Int):(decH n).length≤2:=by
 unfold decH
 split<;>simp
theorem line_len {r:Rg} (h1:r.ps.length≤100000000) (h2:r.qs.length≤100000000):(lineG r).length≤200000020:=by
 have h3:=decH_len r.f
 have h4:=decH_len r.t
 simp only [lineG,headG,List.length_append,List.length_cons,List.length_nil]
 omega
theorem prt_len {r:Rg} (h1:r.ps.length≤100000000) (h2:r.qs.length≤100000000):∀j,(prtG r j).length≤200000020
 | 0=>by simp [prtG]
 | 1=>by
  have h3:=decH_len r.f
  have h4:=decH_len r.t
  simp only [prtG,headG,List.length_append,List.length_cons,List.length_nil]
  omega
 | 2=>by
  have h3:=decH_len r.f
  have h4:=decH_len r.t
  simp only [prtG,headG,List.length_append,List.length_cons,List.length_nil]
  omega
 | _+3=>line_len h1 h2
theorem txt_len:∀(l:List Rg),(∀r ∈ l,r.ps.length≤100000000∧r.qs.length≤100000000)→(txtG l).length≤l.length*200000020
 | [],_=>by simp [txtG]
 | e::l,h=>by
  have h1:=line_len (h e (List.mem_cons_self ..)).1 (h e (List.mem_cons_self ..)).2
  have h2:=txt_len l fun r hr=>h r (List.mem_cons_of_mem _ hr)
  rw [txtG] at h2 ⊢
  rw [List.flatMap_cons,List.length_append,List.length_cons]
  omega
theorem f11 (l:List Rg) (hl:l.length≤32) (hsm:∀r ∈ l,r.ps.length≤100000000∧r.qs.length≤100000000) (h34:∀n,PC Tryz.prog 34 [.int .i64 n] (.bool (hostB n)))
  (h35:∀r ∈ l,(hostB r.f&&hostB r.t)=true→PC Tryz.prog 35 [r.p] (.tup [.str r.ps,.int .i64 r.pe]))
  (h36:∀r ∈ l,(hostB r.f&&hostB r.t)=true→r.pe=0→PC Tryz.prog 36 [r.q] (.tup [.str r.qs,.int .i64 r.qe]))
  (bk off cap:Nat) (w:World) (hw:W0 w) (hcap:l.length≤cap) (hbk:bk<w.heap.size)
  (hc:∀(i:Nat) (r:Rg),l[i]? = some r→∃(ap:Option Addr) (np cp:Nat) (aq:Option Addr) (nq cq:Nat),w.cell? ⟨bk,off+i*4,none⟩=some (.int .i64 r.f)∧w.cell? ⟨bk,off+i*4+1,none⟩=some (.int .i64 r.t)∧w.cell? ⟨bk,off+i*4+2,none⟩=some (.slice ap np cp)∧w.cell? ⟨bk,off+i*4+3,none⟩=some (.slice aq nq cq)∧VR no w [] r.p (.slice ap np cp)∧VR no w [] r.q (.slice aq nq cq)) :
  Calls Tryz.prog 11 #[.slice (some ⟨bk,off,none⟩) l.length cap] w fun x w'=>x=.returned (.tuple #[.string ⟨(fmtG l).1.toArray⟩,.int .i64 (fmtG l).2])∧Below w.heap.size w w':=by
 have h32:¬(32:Int)<(l.length:Int):=by omega
 go_enter Tryz.func11,Tryz.ntmps11
 go_wp2
 go_loopw [17] (fun i w1=>∃k:Nat,k≤l.length∧i=.int .i64 k∧Lib.IsBuilder 73 5 w.heap.size w.heap.size (Lib.byteCells (txtG (l.take k))) w1∧badG (l.take k)=0∧Below w.heap.size w w1)
  (fun i _=>l.length-(intOf i).toNat)
 case atStart =>
  refine ⟨0,Nat.zero_le _,rfl,.inl ⟨Nat.le_refl _,.slice none 0 0,?_,?_,?_⟩,rfl,?_⟩
  ·exact heap_alloc_new w _
  ·exact World.ownsRow_nil _ _ _ _
  ·simp [Value.ownBlock]
  ·exact (Below.refl _ w).alloc (Nat.le_refl _) _
 case round =>
  obtain ⟨k,hk,rfl,hb,hbad,hbel⟩:=hrel
  have hsz0:w.heap.size≤wr.heap.size:=hbel.size
  by_cases hlt:k<l.length
  ·have hlt':(k:Int)<(l.length:Int):=by omega
   obtain ⟨e,hf⟩:∃e,l[k]? = some e:=⟨_,List.getElem?_eq_getElem hlt⟩
   have hmem:e ∈ l:=List.mem_of_getElem? hf
   obtain ⟨ap,np,cp,aq,nq,cq,x0,x1,x2,x3,hvp,hvq⟩:=hc k e hf
   have hcell:∀j,wr.cell? ⟨bk,j,none⟩=w.cell? ⟨bk,j,none⟩:=fun j=>by simp only [World.cell?,hbel.block bk hbk]
   rw [←hcell] at x0 x1 x2 x3
   clear hcell hc
   have b1:=Bst.start (cs:=#[.int .i64 e.f,.int .i64 e.t,.slice ap np cp,.slice aq nq cq]) (t:=60) hbel hb hsz0
   have h34f:=h34 e.f
   have h34t:=h34 e.t
   cases hbf:hostB e.f
   ·rw [hbf] at h34f
    go_wp2_with (go_at_call 34;fail)
    refine (kcB h34f (hw.below b1.bel)).mono ?_
    rintro x w2 ⟨rfl,hb2⟩
    have b2:=b1.step hb2
    clear b1 hb2 x0 x1 x2 x3 hb
    go_wp2
    go_ret2
    rw [fmtG_bad hf hbad (c:=9) (by rw [chkG,hbf];rfl) (by decide)]
    exact ⟨rfl,b2.bel⟩
   ·rw [hbf] at h34f
    cases hbt:hostB e.t
    ·rw [hbt] at h34t
     go_wp2_with (go_at_call 34;refine (kcB h34f (hw.below b1.bel)).mono ?_)
     rintro x w2 ⟨rfl,hb2⟩
     have b2:=b1.step hb2
     have d1:=b2.c1
     clear b1 hb2 x0 x1 x2 x3 hb
     go_wp2_with (go_at_call 34;refine (kcB h34t (hw.below b2.bel)).mono ?_)
     rintro x w3 ⟨rfl,hb3⟩
     have b3:=b2.step hb3
     clear b2 hb3 d1
     go_wp2
     go_ret2
     rw [fmtG_bad hf hbad (c:=9) (by rw [chkG,hbf,hbt];rfl) (by decide)]
     exact ⟨rfl,b3.bel⟩
    ·rw [hbt] at h34t
     have hh:(hostB e.f&&hostB e.t)=true:=by rw [hbf,hbt];rfl
     go_wp2_with (go_at_call 34;refine (kcB h34f (hw.below b1.bel)).mono ?_)
     rintro x w2 ⟨rfl,hb2⟩
     have b2:=b1.step hb2
     have d1:=b2.c1
     clear b1 hb2 x0 x1 x2 x3 hb
     go_wp2_with (go_at_call 34;refine (kcB h34t (hw.below b2.bel)).mono ?_)
     rintro x w3 ⟨rfl,hb3⟩
     have b3:=b2.step hb3
     clear b2 hb3 d1
     have d2:=b3.c2
     go_wp2_with (go_at_call 35;fail)
     refine (kcT (h35 e hmem hh) (hw.below b3.bel) (vr_low hvp b3.bel)).mono ?_
     rintro x w4 ⟨rfl,hb4⟩
     have b4:=b3.step hb4
     clear b3 hb4 d2
     have d3:=b4.c3
     by_cases hpe:e.pe=0
     ·rw [hpe]
      go_wp2_with (go_at_call 36;fail)
      refine (kcT (h36 e hmem hh hpe) (hw.below b4.bel) (vr_low hvq b4.bel)).mono ?_
      rintro x w5 ⟨rfl,hb5⟩
      have b5:=b4.step hb5
      clear b4 hb5 d3
      by_cases hqe:e.qe=0
      ·rw [hqe]
       have c0:=b5.c0
       have c1:=b5.c1
       have cz:=b5.lt
       obtain ⟨sf,hsf,zf,qf⟩:∃sf:ByteArray,⟨(decH e.f).toArray⟩=sf∧sf.size≤2∧∀w,Calls Tryz.prog 37 #[.int .i64 e.f] w fun x w'=>x=.returned (.string sf)∧w'=w:=⟨_,rfl,decH_size _,fun w=>q37 e.f hbf w⟩
       obtain ⟨st,hst,zt,qt⟩:∃st:ByteArray,⟨(decH e.t).toArray⟩=st∧st.size≤2∧∀w,Calls Tryz.prog 37 #[.int .i64 e.t] w fun x w'=>x=.returned (.string st)∧w'=w:=⟨_,rfl,decH_size _,fun w=>q37 e.t hbt w⟩
       have i3:Sm sf:=⟨by omega⟩
       have i4:Sm st:=⟨by omega⟩
       go_wp2
       go_region_held3 (fun w'=>w'.cell? ⟨wr.heap.size,0,none⟩=some (.int .i64 e.f)∧w'.cell? ⟨wr.heap.size,1,none⟩=some (.int .i64 e.t)) (go_keep) (first | (go_at_call 37;refine (qf _).mono ?_;rintro x w' ⟨rfl,rfl⟩) | (go_at_call 37;refine (qt _).mono ?_;rintro x w' ⟨rfl,rfl⟩))
       obtain ⟨x,hx⟩:∃x,x=w5.heap.size:=⟨_,rfl⟩
       obtain ⟨W6,hW6⟩:∃W6,W6=(w5.alloc (Obj.cells #[Value.string ({ data:=#[114,117,108,101,32] }++sf++{ data:=#[32] }++st),Value.string { data:=e.ps.toArray },Value.string { data:=e.qs.toArray }] 9)).drew:=⟨_,rfl⟩
       have hbx:W6.heap[x]? = some (.cells #[Value.string (strG e sf st 0),Value.string (strG e sf st 1),Value.string (strG e sf st 2)] 9 (0,0)):=by rw [hW6,hx];exact heap_alloc_new w5 _
       have hbl6:Below w.heap.size w W6:=by rw [hW6];exact (b5.bel.alloc b5.le _).drew
       have hB6:Lib.IsBuilder 73 5 w.heap.size w.heap.size (Lib.byteCells (txtG (l.take k))) W6:=by rw [hW6];exact isb_keep b5.bld fun j hj=>heap_alloc_old w5 _ hj
       have hxw:x≠w.heap.size:=by have:=b5.le;have:=b5.lt;omega
       rw [←hx,←hW6]
       clear b5 c0 c1 cz hW6 hx qf qt i3 i4
       obtain ⟨hs1,hs2⟩:=hsm e hmem
       have htl:=txt_len (l.take k) fun r hr=>hsm r (List.mem_of_mem_take hr)
       have htk:(l.take k).length≤32:=by rw [List.length_take];omega
       go_wp2
       go_loopw [62] (fun i w1=>∃j:Nat,j≤3∧i=.int .i64 j∧Lib.IsBuilder 73 5 w.heap.size w.heap.size (Lib.byteCells (txtG (l.take k)++prtG e j)) w1∧Below w.heap.size w w1∧w1.heap[x]? = some (.cells #[Value.string (strG e sf st 0),Value.string (strG e sf st 1),Value.string (strG e sf st 2)] 9 (0,0)))
        (fun i _=>3-(intOf i).toNat)
       case atStart=>exact ⟨0,by omega,rfl,by rw [prtG,List.append_nil];exact hB6,hbl6,hbx⟩
       case round =>
        obtain ⟨j,hj,rfl,hbj,hblj,hxj⟩:=hrel
        have hszj:w.heap.size≤wr.heap.size:=hblj.size
        have hpl:=prt_len hs1 hs2 j
        have hsl:=str_size (r:=e) zf zt hs1 hs2 j
        by_cases hj3:j<3
        ·have hj3':(j:Int)<3:=by omega
         have cj:wr.cell? ⟨x,j,none⟩=some (.string (strG e sf st j)):=by
          rw [Lib.cell_of_heap hxj]
          match j,hj3 with
          | 0,_=>rfl
          | 1,_=>rfl
          | 2,_=>rfl
         go_wp2_with (go_at_call 38;fail)
         refine (wrS w.heap.size w.heap.size _ (strG e sf st j) wr hbj (by rw [Lib.byteCells_length,List.length_append];omega) hszj).mono ?_
         rintro y w7 ⟨rfl,hB7,hb7,hf7⟩
         rw [Lib.strCells_eq,←Lib.byteCells_append] at hB7
         have hx7:=hf7 x _ 9 hxw (by decide) hxj
         have hbl7:=hblj.trans hb7
         have hs7:=hbl7.size
         have hq:((strG e sf st j).data.toList).length=(strG e sf st j).size:=Array.length_toList
         clear cj hbj hxj hf7 hb7
         go_wp2_with (go_at_call 39;fail)
         refine (wrB w.heap.size w.heap.size _ 10 w7 (.inr hB7) (by rw [Lib.byteCells_length,List.length_append,List.length_append,hq];omega) hs7).mono ?_
         rintro y w8 ⟨rfl,hB8,hb8,hf8⟩
         have hx8:=hf8 x _ 9 hxw (by decide) hx7
         have hbl8:=hbl7.trans hb8
         have hst8:=prt_step hsf hst hj3
         have hB9:Lib.IsBuilder 73 5 w.heap.size w.heap.size (Lib.byteCells (txtG (l.take k)++prtG e (j+1))) w8:=by
          rw [hst8,←List.append_assoc,←List.append_assoc,Lib.byteCells_append]
          exact .inr (by simpa [Lib.byteCells] using hB8)
         clear hB7 hB8 hx7 hbl7 hf8 hb8
         go_wp2
         go_roundw
         case rel=>exact ⟨j+1,by omega,by go_num,hB9,hbl8,hx8⟩
         case measure=>simp [intOf];omega
        ·have hj4:j=3:=by omega
         subst hj4
         have hst:=txtG_step hf
         have hbad2:=badG_step hf hbad (by rw [chkG,if_pos hh,if_pos hpe,hqe])
         have hB9:Lib.IsBuilder 73 5 w.heap.size w.heap.size (Lib.byteCells (txtG (l.take (k+1)))) wr:=by
          rw [hst];exact hbj
         clear hbj hxj
         go_wp2
         go_roundw
         case rel=>exact ⟨k+1,by omega,by go_num,hB9,hbad2,hblj⟩
         case measure=>simp [intOf];omega
      ·have hqe':(e.qe==0)=false:=by simpa using hqe
       go_wp2
       go_ret2
       rw [fmtG_bad hf hbad (c:=e.qe) (by rw [chkG,if_pos hh,if_pos hpe]) hqe]
       exact ⟨rfl,b5.bel⟩
     ·have hpe':(e.pe==0)=false:=by simpa using hpe
      go_wp2
      go_ret2
      rw [fmtG_bad hf hbad (c:=e.pe) (by rw [chkG,if_pos hh,if_neg hpe]) hpe]
      exact ⟨rfl,b4.bel⟩
  ·have hkl:k=l.length:=by omega
   subst hkl
   rw [List.take_length] at hb hbad
   have hlb:=Lib.byteCells_length (txtG l)
   go_wp2_with (go_at_call 40;fail)
   refine (Tryz.Builder_Len w.heap.size w.heap.size _ wr hb).mono ?_
   rintro x w2 ⟨rfl,rfl⟩
   go_wp2_with (go_at_call 41;fail)
   ·have h16:(16384:Int)<((txtG l).length:Int):=by assumption
    have hfm:fmtG l=([],4):=by rw [fmtG,if_neg (by simpa using hbad),if_pos (by omega)]
    go_ret2
    rw [hfm]
    exact ⟨rfl,hbel⟩
   ·have h16:((txtG l).length:Int)≤16384:=by assumption
    have hfm:fmtG l=(txtG l,0):=by rw [fmtG,if_neg (by simpa using hbad),if_neg (by omega)]
    refine (Tryz.Builder_String_any w.heap.size w.heap.size (txtG l) w2 hb hsz0).mono ?_
    rintro x w3 ⟨rfl,hb3⟩
    go_wp2
    go_ret2
    rw [hfm]
    exact ⟨rfl,hbel.trans hb3⟩
theorem f11nil (ao:Option Addr) (w:World):Calls Tryz.prog 11 #[.slice ao 0 0] w fun x w'=>x=.returned (.tuple #[.string ⟨#[]⟩,.int .i64 0])∧Below w.heap.size w w':=by
 go_enter Tryz.func11,Tryz.ntmps11
 go_wp2
 go_loopw [17] (fun i w1=>i=.int .i64 0∧Lib.IsBuilder 73 5 w.heap.size w.heap.size (Lib.byteCells []) w1∧Below w.heap.size w w1)
  (fun i _=>1-(intOf i).toNat)
 case atStart =>
  refine ⟨rfl,.inl ⟨Nat.le_refl _,.slice none 0 0,?_,?_,?_⟩,?_⟩
  ·exact heap_alloc_new w _
  ·exact World.ownsRow_nil _ _ _ _
  ·simp [Value.ownBlock]
  ·exact (Below.refl _ w).alloc (Nat.le_refl _) _
 case round =>
  obtain ⟨rfl,hb,hbel⟩:=hrel
  go_wp2_with (go_at_call 40;fail)
  refine (Tryz.Builder_Len w.heap.size w.heap.size _ wr hb).mono ?_
  rintro x w2 ⟨rfl,rfl⟩
  have hsz:=hbel.size
  go_wp2_with (go_at_call 41;fail)
  refine (Tryz.Builder_String_any w.heap.size w.heap.size [] w2 hb hsz).mono ?_
  rintro x w3 ⟨rfl,hb3⟩
  go_wp2
  go_ret2
  exact ⟨rfl,hbel.trans hb3⟩
def isSl:V→Bool
 | .sl _ _ _=>true
 | _=>false
theorem VR_sl {own:Nat→Prop} {w:World} {x:V} {v:Value} (hs:isSl x=true) (h:VR own w [] x v):∃a n c,v=.slice a n c:=by
 cases x<;>first | (cases hs;done) | skip
 simp only [VR] at h
 rcases h with ⟨a,rfl,_⟩ | ⟨_,b,off,cap,l,rfl,_⟩
 ·exact ⟨_,_,_,rfl⟩
 ·exact ⟨_,_,_,rfl⟩
theorem flatG_get:∀ {l:List Rg} {i:Nat} {e:Rg},l[i]? = some e→(l.flatMap encG)[i*4]? = some (.int .i64 e.f)∧(l.flatMap encG)[i*4+1]? = some (.int .i64 e.t)∧(l.flatMap encG)[i*4+2]? = some e.p∧(l.flatMap encG)[i*4+3]? = some e.q
 | [],_,_,h=>by simp at h
 | x::l,0,e,h=>by
  simp at h
  subst h
  exact ⟨rfl,rfl,rfl,rfl⟩
 | x::l,i+1,e,h=>by
  rw [List.getElem?_cons_succ] at h
  have:=flatG_get h
  rw [List.flatMap_cons,show (i+1)*4=i*4+4 by omega]
  exact this
theorem pc11 (l:List Rg) (hl:l.length≤32) (hsm:∀r ∈ l,r.ps.length≤100000000∧r.qs.length≤100000000) (hbl:belAll 0 (l.flatMap encG)=true) (hs:∀r ∈ l,isSl r.p=true∧isSl r.q=true)
  (h34:∀n,PC Tryz.prog 34 [.int .i64 n] (.bool (hostB n)))
  (h35:∀r ∈ l,(hostB r.f&&hostB r.t)=true→PC Tryz.prog 35 [r.p] (.tup [.str r.ps,.int .i64 r.pe]))
  (h36:∀r ∈ l,(hostB r.f&&hostB r.t)=true→r.pe=0→PC Tryz.prog 36 [r.q] (.tup [.str r.qs,.int .i64 r.qe])) :
  PC Tryz.prog 11 [slG l] (.tup [.str (fmtG l).1,.int .i64 (fmtG l).2]):=by
 refine PC.ofCalls Tryz.call11 (by rw [slG,belAll_cons,bel_sl,hbl];rfl) rfl ?_
 intro own w vals hw h
 match vals,h with
 | [a],h =>
  simp only [VRs,slG,VR,and_true] at h
  rcases h with ⟨a',rfl,h0,_⟩ | ⟨_,bk,off,cap,c,rfl,hcap,hbk,_,hcells,hvs⟩
  ·have hl0:l=[]:=List.length_eq_zero_iff.1 h0
   subst hl0
   refine (f11nil a' w).mono ?_
   rintro x w' ⟨rfl,hb⟩
   refine ⟨_,rfl,fun own'=>?_,hb⟩
   simp only [VR]
   exact ⟨_,rfl,by simp only [VRs,VR,and_true];exact ⟨rfl,rfl⟩⟩
  ·refine (f11 l hl hsm h34 h35 h36 bk off cap w hw hcap hbk fun i e he=>?_).mono ?_
   ·obtain ⟨g0,g1,g2,g3⟩:=flatG_get he
    have hm:=List.mem_of_getElem? he
    have q:∀(j:Nat) (x:V),(l.flatMap encG)[j]? = some x→∃v,w.cell? ⟨bk,off+j,none⟩=some v∧VR own w [] x v:=fun j x hj=>by
     obtain ⟨v,hv,hr⟩:=hvs.get hj
     exact ⟨v,hcells j _ hv,hr⟩
    obtain ⟨v0,c0,r0⟩:=q _ _ g0
    obtain ⟨v1,c1,r1⟩:=q _ _ g1
    obtain ⟨v2,c2,r2⟩:=q _ _ g2
    obtain ⟨v3,c3,r3⟩:=q _ _ g3
    simp only [VR] at r0 r1
    subst r0 r1
    obtain ⟨ap,np,cp,rfl⟩:=VR_sl (hs e hm).1 r2
    obtain ⟨aq,nq,cq,rfl⟩:=VR_sl (hs e hm).2 r3
    exact ⟨ap,np,cp,aq,nq,cq,c0,c1,c2,c3,VR.less (fun b hb=>hb.elim) _ _ r2,VR.less (fun b hb=>hb.elim) _ _ r3⟩
   ·rintro x w' ⟨rfl,hb⟩
    refine ⟨_,rfl,fun own'=>?_,hb⟩
    simp only [VR]
    exact ⟨_,rfl,by simp only [VRs,VR,and_true]⟩
 | [],h=>simp [VRs] at h
 | _::_::_,h=>simp [VRs] at h
end
end Go.Proofs.YtlbmbbaefncleaaGreatDoor

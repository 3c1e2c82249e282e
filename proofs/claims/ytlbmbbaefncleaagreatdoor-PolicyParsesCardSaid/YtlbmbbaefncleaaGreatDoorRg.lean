/-
  Joined by a program from the texts PxFmt3 PxFmt4 PxTxt PxPar PxPars PxRnum PxTxt2 PxRnum2 PxFrm.
-/
import Derived.Test.YtlbmbbaefncleaaGreatDoorRf
import Derived.Test.YtlbmbbaefncleaaGreatDoorSi
import Derived.Test.YtlbmbbaefncleaaGreatDoorRe
set_option maxRecDepth 100000
set_option maxHeartbeats 4000000
set_option linter.all false
namespace Go.Proofs.YtlbmbbaefncleaaGreatDoor.Px
open Go.Vm
section
def dc (m:Nat):V:=.int .u8 ((48+m:Nat):Int)
@[simp] theorem bel_dc {n m:Nat}:(dc m).bel n=true:=rfl
theorem u32_two {m:Nat} (h:m<100):IntKind.u32.wrap ((m:Int)*2)=(m:Int)*2:=u32_id (by omega)
theorem u32_one {m:Nat} (h:m<100):IntKind.u32.wrap ((m:Int)*2+1)=(m:Int)*2+1:=u32_id (by omega)
theorem nat_two {m:Nat}:((m:Int)*2).toNat=m*2:=by omega
theorem nat_one {m:Nat}:((m:Int)*2+1).toNat=m*2+1:=by omega
theorem u32_48 {m:Nat} (h:m<100):IntKind.u32.wrap (48+(m:Int))=48+(m:Int):=u32_id (by omega)
theorem u8_48 {m:Nat} (h:m<100):IntKind.u8.wrap (48+(m:Int))=48+(m:Int):=u8_id (by omega)
attribute [local push_cast] cfg0 take_rest ibeq_dec V.rn rns qn setPs rnOs Ob.rn gl0 glV List.map V.st List.set_cons_zero List.size_toArray
theorem g80_3 (a A n:Nat) (hA:A<100) (ha:a<10) (hn:n=a*100+A):GCall Tryz.prog 183 [.buf 0 0 1 3 1,.int .u64 n] [.cells 0 z24] (.tup []) [.cells 0 ([.int .u8 0,dc a,dc (A / 10),dc (A % 10)]++List.replicate 20 (.int .u8 0))]:=by
 have hn9:n<1000000000:=by omega
 have hx:True:=trivial
 have r1:IntKind.u32.wrap ((n:Nat):Int)=((n:Nat):Int):=by exact u32_id (by omega)
 have r2:((n:Nat):Int).tmod 100=((A:Nat):Int):=by rw [Int.tmod_eq_emod_of_nonneg (by omega)];omega
 have r3:((n:Nat):Int).tdiv 100=((a:Nat):Int):=by rw [Int.tdiv_eq_ediv_of_nonneg (by omega)];omega
 have wA:IntKind.u32.wrap ((A:Nat):Int)=((A:Nat):Int):=by exact u32_id (by omega)
 have wa:IntKind.u32.wrap ((a:Nat):Int)=((a:Nat):Int):=by exact u32_id (by omega)
 unfold z24
 simp only [List.replicate]
 refine GC.walk tok mixed cfg0 Tryz.func183 rfl Tryz.call183 ?_;refine vms1 Tryz.ntmps183 ?_
 refine T.lp tok mixed cfg0 (fun (j:Nat)=>kp 1 (sv (.int .u64 n) (dd 2 (sv (.int .i64 3) (dd 162 (nl)))))) (fun H0 (j:Nat)=>[.cells 0 z24]) (fun (j:Nat)=>j=0) (fun (j:Nat)=>0) (0) ?_ ?_ ?_
 ·rfl
 ·unfold z24
  simp only [List.replicate]
  exact Gn.canon (J:=[]) (by first | rfl | (simp [List.append_nil];done) | (simp [List.append_nil];rfl)) (by simp [wk,putT,kp,dd,sv,nl]) (by simp [List.length_append]) (by simp [kp,dd,sv,nl]) (by simp)
 rintro j rfl
 unfold z24
 simp only [List.replicate]
 simp (maxSteps:=2000000) -implicitDefEqProofs +contextual (disch:=first | assumption | omega | decide +kernel) only [push_cast,↓capI,seval,Nat.reduceLeDiff,Nat.reduceEqDiff,reduceCtorEq,↓reduceIte,r1,r2,r3,wA,wa,u32_two,u32_one,nat_two,nat_one,u32_48,u8_48,bigA,bigB,bigL]
 refine endG.normal ([]) (by first | rfl | simp [fzs_ok,getO,setO,fzs,fz,fzH,Nat.beq,tt_3,tt_4,tt_5,tt_9,tt_128,tt_200,tt_203,tt_205,tt_231,tt_327,tt_251,tt_2,tt_71,tt_246,tt_299,cfg0,take_rest,ibeq_dec,V.rn,rns,qn,setPs,rnOs,Ob.rn,gl0,glV,List.map,V.st,List.set_cons_zero,List.size_toArray,dc,List.replicate,hx]) (by simp) (by simp [fzs_ok,imp,lenOK_iff,List.take_of_length_le,evRes,getT,getO,setO,fzs,fz,fzH,Nat.beq,retV,Res.then,ldT,ldR,mkV,getV,tt_3,tt_4,tt_5,tt_9,tt_128,tt_200,tt_203,tt_205,tt_231,tt_327,tt_251,tt_2,tt_71,tt_246,tt_299,cfg0,take_rest,ibeq_dec,V.rn,rns,qn,setPs,rnOs,Ob.rn,gl0,glV,List.map,V.st,List.set_cons_zero,List.size_toArray,Tryz.f183,dc,List.replicate,hx]) (by first | rfl | simp [dc,List.replicate,hx]) (by first | rfl | simp [dc,List.replicate,hx])
theorem g80_4 (B A n:Nat) (hA:A<100) (hB:B<100) (hn:n=B*100+A):GCall Tryz.prog 183 [.buf 0 0 1 4 1,.int .u64 n] [.cells 0 z24] (.tup []) [.cells 0 ([.int .u8 0,dc (B / 10),dc (B % 10),dc (A / 10),dc (A % 10)]++List.replicate 19 (.int .u8 0))]:=by
 have hn9:n<1000000000:=by omega
 obtain ⟨y,hy⟩:∃y,y=B*100+A:=⟨_,rfl⟩
 obtain ⟨x,hx⟩:∃x,x=0:=⟨_,rfl⟩
 have r1:IntKind.u32.wrap ((n:Nat):Int)=((n:Nat):Int):=by exact u32_id (by omega)
 have r2:((n:Nat):Int).tmod 10000=((y:Nat):Int):=by rw [Int.tmod_eq_emod_of_nonneg (by omega)];omega
 have r3:((n:Nat):Int).tdiv 10000=((x:Nat):Int):=by rw [Int.tdiv_eq_ediv_of_nonneg (by omega)];omega
 have r4:((y:Nat):Int).tdiv 100=((B:Nat):Int):=by rw [Int.tdiv_eq_ediv_of_nonneg (by omega)];omega
 have r5:((y:Nat):Int).tmod 100=((A:Nat):Int):=by rw [Int.tmod_eq_emod_of_nonneg (by omega)];omega
 have r6:IntKind.u32.wrap ((x:Nat):Int)=((x:Nat):Int):=by exact u32_id (by omega)
 have r7:IntKind.u32.wrap ((y:Nat):Int)=((y:Nat):Int):=by exact u32_id (by omega)
 have wA:IntKind.u32.wrap ((A:Nat):Int)=((A:Nat):Int):=by exact u32_id (by omega)
 have wB:IntKind.u32.wrap ((B:Nat):Int)=((B:Nat):Int):=by exact u32_id (by omega)
 unfold z24
 simp only [List.replicate]
 refine GC.walk tok mixed cfg0 Tryz.func183 rfl Tryz.call183 ?_;refine vms1 Tryz.ntmps183 ?_
 refine T.lp tok mixed cfg0 (fun (j:Nat)=>kp 1 (sv (.int .u64 n) (dd 2 (sv (.int .i64 4) (dd 162 (nl)))))) (fun H0 (j:Nat)=>[.cells 0 z24]) (fun (j:Nat)=>j=0) (fun (j:Nat)=>0) (0) ?_ ?_ ?_
 ·rfl
 ·unfold z24
  simp only [List.replicate]
  exact Gn.canon (J:=[]) (by first | rfl | (simp [List.append_nil];done) | (simp [List.append_nil];rfl)) (by simp [wk,putT,kp,dd,sv,nl]) (by simp [List.length_append]) (by simp [kp,dd,sv,nl]) (by simp)
 rintro j rfl
 unfold z24
 simp only [List.replicate]
 simp (maxSteps:=2000000) -implicitDefEqProofs +contextual (disch:=first | assumption | omega | decide +kernel) only [push_cast,↓capI,seval,Nat.reduceLeDiff,Nat.reduceEqDiff,reduceCtorEq,↓reduceIte,r1,r2,r3,r4,r5,r6,r7,wA,wB,u32_two,u32_one,nat_two,nat_one,u32_48,u8_48,bigA,bigB,bigL]
 refine endG.normal ([]) (by first | rfl | simp [fzs_ok,getO,setO,fzs,fz,fzH,Nat.beq,tt_3,tt_4,tt_5,tt_9,tt_128,tt_200,tt_203,tt_205,tt_231,tt_327,tt_251,tt_2,tt_71,tt_246,tt_299,cfg0,take_rest,ibeq_dec,V.rn,rns,qn,setPs,rnOs,Ob.rn,gl0,glV,List.map,V.st,List.set_cons_zero,List.size_toArray,dc,List.replicate,hx]) (by simp) (by simp [fzs_ok,imp,lenOK_iff,List.take_of_length_le,evRes,getT,getO,setO,fzs,fz,fzH,Nat.beq,retV,Res.then,ldT,ldR,mkV,getV,tt_3,tt_4,tt_5,tt_9,tt_128,tt_200,tt_203,tt_205,tt_231,tt_327,tt_251,tt_2,tt_71,tt_246,tt_299,cfg0,take_rest,ibeq_dec,V.rn,rns,qn,setPs,rnOs,Ob.rn,gl0,glV,List.map,V.st,List.set_cons_zero,List.size_toArray,Tryz.f183,dc,List.replicate,hx]) (by first | rfl | simp [dc,List.replicate,hx]) (by first | rfl | simp [dc,List.replicate,hx])
theorem g80_5 (a B A n:Nat) (hA:A<100) (hB:B<100) (ha:a<10) (hn:n=a*10000+B*100+A):GCall Tryz.prog 183 [.buf 0 0 1 5 1,.int .u64 n] [.cells 0 z24] (.tup []) [.cells 0 ([.int .u8 0,dc a,dc (B / 10),dc (B % 10),dc (A / 10),dc (A % 10)]++List.replicate 18 (.int .u8 0))]:=by
 have hn9:n<1000000000:=by omega
 obtain ⟨y,hy⟩:∃y,y=B*100+A:=⟨_,rfl⟩
 obtain ⟨x,hx⟩:∃x,x=a:=⟨_,rfl⟩
 have r1:IntKind.u32.wrap ((n:Nat):Int)=((n:Nat):Int):=by exact u32_id (by omega)
 have r2:((n:Nat):Int).tmod 10000=((y:Nat):Int):=by rw [Int.tmod_eq_emod_of_nonneg (by omega)];omega
 have r3:((n:Nat):Int).tdiv 10000=((x:Nat):Int):=by rw [Int.tdiv_eq_ediv_of_nonneg (by omega)];omega
 have r4:((y:Nat):Int).tdiv 100=((B:Nat):Int):=by rw [Int.tdiv_eq_ediv_of_nonneg (by omega)];omega
 have r5:((y:Nat):Int).tmod 100=((A:Nat):Int):=by rw [Int.tmod_eq_emod_of_nonneg (by omega)];omega
 have r6:IntKind.u32.wrap ((x:Nat):Int)=((x:Nat):Int):=by exact u32_id (by omega)
 have r7:IntKind.u32.wrap ((y:Nat):Int)=((y:Nat):Int):=by exact u32_id (by omega)
 have wA:IntKind.u32.wrap ((A:Nat):Int)=((A:Nat):Int):=by exact u32_id (by omega)
 have wB:IntKind.u32.wrap ((B:Nat):Int)=((B:Nat):Int):=by exact u32_id (by omega)
 have wa:IntKind.u32.wrap ((a:Nat):Int)=((a:Nat):Int):=by exact u32_id (by omega)
 unfold z24
 simp only [List.replicate]
 refine GC.walk tok mixed cfg0 Tryz.func183 rfl Tryz.call183 ?_;refine vms1 Tryz.ntmps183 ?_
 refine T.lp tok mixed cfg0 (fun (j:Nat)=>kp 1 (sv (.int .u64 n) (dd 2 (sv (.int .i64 5) (dd 162 (nl)))))) (fun H0 (j:Nat)=>[.cells 0 z24]) (fun (j:Nat)=>j=0) (fun (j:Nat)=>0) (0) ?_ ?_ ?_
 ·rfl
 ·unfold z24
  simp only [List.replicate]
  exact Gn.canon (J:=[]) (by first | rfl | (simp [List.append_nil];done) | (simp [List.append_nil];rfl)) (by simp [wk,putT,kp,dd,sv,nl]) (by simp [List.length_append]) (by simp [kp,dd,sv,nl]) (by simp)
 rintro j rfl
 unfold z24
 simp only [List.replicate]
 simp (maxSteps:=2000000) -implicitDefEqProofs +contextual (disch:=first | assumption | omega | decide +kernel) only [push_cast,↓capI,seval,Nat.reduceLeDiff,Nat.reduceEqDiff,reduceCtorEq,↓reduceIte,r1,r2,r3,r4,r5,r6,r7,wA,wB,wa,u32_two,u32_one,nat_two,nat_one,u32_48,u8_48,bigA,bigB,bigL]
 refine endG.normal ([]) (by first | rfl | simp [fzs_ok,getO,setO,fzs,fz,fzH,Nat.beq,tt_3,tt_4,tt_5,tt_9,tt_128,tt_200,tt_203,tt_205,tt_231,tt_327,tt_251,tt_2,tt_71,tt_246,tt_299,cfg0,take_rest,ibeq_dec,V.rn,rns,qn,setPs,rnOs,Ob.rn,gl0,glV,List.map,V.st,List.set_cons_zero,List.size_toArray,dc,List.replicate,hx]) (by simp) (by simp [fzs_ok,imp,lenOK_iff,List.take_of_length_le,evRes,getT,getO,setO,fzs,fz,fzH,Nat.beq,retV,Res.then,ldT,ldR,mkV,getV,tt_3,tt_4,tt_5,tt_9,tt_128,tt_200,tt_203,tt_205,tt_231,tt_327,tt_251,tt_2,tt_71,tt_246,tt_299,cfg0,take_rest,ibeq_dec,V.rn,rns,qn,setPs,rnOs,Ob.rn,gl0,glV,List.map,V.st,List.set_cons_zero,List.size_toArray,Tryz.f183,dc,List.replicate,hx]) (by first | rfl | simp [dc,List.replicate,hx]) (by first | rfl | simp [dc,List.replicate,hx])
theorem g80_6 (C B A n:Nat) (hA:A<100) (hB:B<100) (hC:C<100) (hn:n=C*10000+B*100+A):GCall Tryz.prog 183 [.buf 0 0 1 6 1,.int .u64 n] [.cells 0 z24] (.tup []) [.cells 0 ([.int .u8 0,dc (C / 10),dc (C % 10),dc (B / 10),dc (B % 10),dc (A / 10),dc (A % 10)]++List.replicate 17 (.int .u8 0))]:=by
 have hn9:n<1000000000:=by omega
 obtain ⟨y,hy⟩:∃y,y=B*100+A:=⟨_,rfl⟩
 obtain ⟨x,hx⟩:∃x,x=C:=⟨_,rfl⟩
 have r1:IntKind.u32.wrap ((n:Nat):Int)=((n:Nat):Int):=by exact u32_id (by omega)
 have r2:((n:Nat):Int).tmod 10000=((y:Nat):Int):=by rw [Int.tmod_eq_emod_of_nonneg (by omega)];omega
 have r3:((n:Nat):Int).tdiv 10000=((x:Nat):Int):=by rw [Int.tdiv_eq_ediv_of_nonneg (by omega)];omega
 have r4:((y:Nat):Int).tdiv 100=((B:Nat):Int):=by rw [Int.tdiv_eq_ediv_of_nonneg (by omega)];omega
 have r5:((y:Nat):Int).tmod 100=((A:Nat):Int):=by rw [Int.tmod_eq_emod_of_nonneg (by omega)];omega
 have r6:IntKind.u32.wrap ((x:Nat):Int)=((x:Nat):Int):=by exact u32_id (by omega)
 have r7:IntKind.u32.wrap ((y:Nat):Int)=((y:Nat):Int):=by exact u32_id (by omega)
 have wA:IntKind.u32.wrap ((A:Nat):Int)=((A:Nat):Int):=by exact u32_id (by omega)
 have wB:IntKind.u32.wrap ((B:Nat):Int)=((B:Nat):Int):=by exact u32_id (by omega)
 have r8:((x:Nat):Int).tmod 100=((C:Nat):Int):=by rw [Int.tmod_eq_emod_of_nonneg (by omega)];omega
 have r9:((x:Nat):Int).tdiv 100=((0:Nat):Int):=by rw [Int.tdiv_eq_ediv_of_nonneg (by omega)];omega
 have wC:IntKind.u32.wrap ((C:Nat):Int)=((C:Nat):Int):=by exact u32_id (by omega)
 unfold z24
 simp only [List.replicate]
 refine GC.walk tok mixed cfg0 Tryz.func183 rfl Tryz.call183 ?_;refine vms1 Tryz.ntmps183 ?_
 refine T.lp tok mixed cfg0 (fun (j:Nat)=>kp 1 (sv (.int .u64 n) (dd 2 (sv (.int .i64 6) (dd 162 (nl)))))) (fun H0 (j:Nat)=>[.cells 0 z24]) (fun (j:Nat)=>j=0) (fun (j:Nat)=>0) (0) ?_ ?_ ?_
 ·rfl
 ·unfold z24
  simp only [List.replicate]
  exact Gn.canon (J:=[]) (by first | rfl | (simp [List.append_nil];done) | (simp [List.append_nil];rfl)) (by simp [wk,putT,kp,dd,sv,nl]) (by simp [List.length_append]) (by simp [kp,dd,sv,nl]) (by simp)
 rintro j rfl
 unfold z24
 simp only [List.replicate]
 simp (maxSteps:=2000000) -implicitDefEqProofs +contextual (disch:=first | assumption | omega | decide +kernel) only [push_cast,↓capI,seval,Nat.reduceLeDiff,Nat.reduceEqDiff,reduceCtorEq,↓reduceIte,r1,r2,r3,r4,r5,r6,r7,wA,wB,r8,r9,wC,u32_two,u32_one,nat_two,nat_one,u32_48,u8_48,bigA,bigB,bigL]
 refine endG.normal ([]) (by first | rfl | simp [fzs_ok,getO,setO,fzs,fz,fzH,Nat.beq,tt_3,tt_4,tt_5,tt_9,tt_128,tt_200,tt_203,tt_205,tt_231,tt_327,tt_251,tt_2,tt_71,tt_246,tt_299,cfg0,take_rest,ibeq_dec,V.rn,rns,qn,setPs,rnOs,Ob.rn,gl0,glV,List.map,V.st,List.set_cons_zero,List.size_toArray,dc,List.replicate,hx]) (by simp) (by simp [fzs_ok,imp,lenOK_iff,List.take_of_length_le,evRes,getT,getO,setO,fzs,fz,fzH,Nat.beq,retV,Res.then,ldT,ldR,mkV,getV,tt_3,tt_4,tt_5,tt_9,tt_128,tt_200,tt_203,tt_205,tt_231,tt_327,tt_251,tt_2,tt_71,tt_246,tt_299,cfg0,take_rest,ibeq_dec,V.rn,rns,qn,setPs,rnOs,Ob.rn,gl0,glV,List.map,V.st,List.set_cons_zero,List.size_toArray,Tryz.f183,dc,List.replicate,hx]) (by first | rfl | simp [dc,List.replicate,hx]) (by first | rfl | simp [dc,List.replicate,hx])
theorem g80_7 (a C B A n:Nat) (hA:A<100) (hB:B<100) (hC:C<100) (ha:a<10) (hn:n=a*1000000+C*10000+B*100+A):GCall Tryz.prog 183 [.buf 0 0 1 7 1,.int .u64 n] [.cells 0 z24] (.tup []) [.cells 0 ([.int .u8 0,dc a,dc (C / 10),dc (C % 10),dc (B / 10),dc (B % 10),dc (A / 10),dc (A % 10)]++List.replicate 16 (.int .u8 0))]:=by
 have hn9:n<1000000000:=by omega
 obtain ⟨y,hy⟩:∃y,y=B*100+A:=⟨_,rfl⟩
 obtain ⟨x,hx⟩:∃x,x=a*100+C:=⟨_,rfl⟩
 have r1:IntKind.u32.wrap ((n:Nat):Int)=((n:Nat):Int):=by exact u32_id (by omega)
 have r2:((n:Nat):Int).tmod 10000=((y:Nat):Int):=by rw [Int.tmod_eq_emod_of_nonneg (by omega)];omega
 have r3:((n:Nat):Int).tdiv 10000=((x:Nat):Int):=by rw [Int.tdiv_eq_ediv_of_nonneg (by omega)];omega
 have r4:((y:Nat):Int).tdiv 100=((B:Nat):Int):=by rw [Int.tdiv_eq_ediv_of_nonneg (by omega)];omega
 have r5:((y:Nat):Int).tmod 100=((A:Nat):Int):=by rw [Int.tmod_eq_emod_of_nonneg (by omega)];omega
 have r6:IntKind.u32.wrap ((x:Nat):Int)=((x:Nat):Int):=by exact u32_id (by omega)
 have r7:IntKind.u32.wrap ((y:Nat):Int)=((y:Nat):Int):=by exact u32_id (by omega)
 have wA:IntKind.u32.wrap ((A:Nat):Int)=((A:Nat):Int):=by exact u32_id (by omega)
 have wB:IntKind.u32.wrap ((B:Nat):Int)=((B:Nat):Int):=by exact u32_id (by omega)
 have r8:((x:Nat):Int).tmod 100=((C:Nat):Int):=by rw [Int.tmod_eq_emod_of_nonneg (by omega)];omega
 have r9:((x:Nat):Int).tdiv 100=((a:Nat):Int):=by rw [Int.tdiv_eq_ediv_of_nonneg (by omega)];omega
 have wC:IntKind.u32.wrap ((C:Nat):Int)=((C:Nat):Int):=by exact u32_id (by omega)
 have wa:IntKind.u32.wrap ((a:Nat):Int)=((a:Nat):Int):=by exact u32_id (by omega)
 unfold z24
 simp only [List.replicate]
 refine GC.walk tok mixed cfg0 Tryz.func183 rfl Tryz.call183 ?_;refine vms1 Tryz.ntmps183 ?_
 refine T.lp tok mixed cfg0 (fun (j:Nat)=>kp 1 (sv (.int .u64 n) (dd 2 (sv (.int .i64 7) (dd 162 (nl)))))) (fun H0 (j:Nat)=>[.cells 0 z24]) (fun (j:Nat)=>j=0) (fun (j:Nat)=>0) (0) ?_ ?_ ?_
 ·rfl
 ·unfold z24
  simp only [List.replicate]
  exact Gn.canon (J:=[]) (by first | rfl | (simp [List.append_nil];done) | (simp [List.append_nil];rfl)) (by simp [wk,putT,kp,dd,sv,nl]) (by simp [List.length_append]) (by simp [kp,dd,sv,nl]) (by simp)
 rintro j rfl
 unfold z24
 simp only [List.replicate]
 simp (maxSteps:=2000000) -implicitDefEqProofs +contextual (disch:=first | assumption | omega | decide +kernel) only [push_cast,↓capI,seval,Nat.reduceLeDiff,Nat.reduceEqDiff,reduceCtorEq,↓reduceIte,r1,r2,r3,r4,r5,r6,r7,wA,wB,r8,r9,wC,wa,u32_two,u32_one,nat_two,nat_one,u32_48,u8_48,bigA,bigB,bigL]
 refine endG.normal ([]) (by first | rfl | simp [fzs_ok,getO,setO,fzs,fz,fzH,Nat.beq,tt_3,tt_4,tt_5,tt_9,tt_128,tt_200,tt_203,tt_205,tt_231,tt_327,tt_251,tt_2,tt_71,tt_246,tt_299,cfg0,take_rest,ibeq_dec,V.rn,rns,qn,setPs,rnOs,Ob.rn,gl0,glV,List.map,V.st,List.set_cons_zero,List.size_toArray,dc,List.replicate,hx]) (by simp) (by simp [fzs_ok,imp,lenOK_iff,List.take_of_length_le,evRes,getT,getO,setO,fzs,fz,fzH,Nat.beq,retV,Res.then,ldT,ldR,mkV,getV,tt_3,tt_4,tt_5,tt_9,tt_128,tt_200,tt_203,tt_205,tt_231,tt_327,tt_251,tt_2,tt_71,tt_246,tt_299,cfg0,take_rest,ibeq_dec,V.rn,rns,qn,setPs,rnOs,Ob.rn,gl0,glV,List.map,V.st,List.set_cons_zero,List.size_toArray,Tryz.f183,dc,List.replicate,hx]) (by first | rfl | simp [dc,List.replicate,hx]) (by first | rfl | simp [dc,List.replicate,hx])
theorem g80_8 (D C B A n:Nat) (hA:A<100) (hB:B<100) (hC:C<100) (hD:D<100) (hn:n=D*1000000+C*10000+B*100+A):GCall Tryz.prog 183 [.buf 0 0 1 8 1,.int .u64 n] [.cells 0 z24] (.tup []) [.cells 0 ([.int .u8 0,dc (D / 10),dc (D % 10),dc (C / 10),dc (C % 10),dc (B / 10),dc (B % 10),dc (A / 10),dc (A % 10)]++List.replicate 15 (.int .u8 0))]:=by
 have hn9:n<1000000000:=by omega
 obtain ⟨q,hq⟩:∃q,q=n % 100000000:=⟨_,rfl⟩
 have hq2:q=D*1000000+C*10000+B*100+A:=by omega
 obtain ⟨x,hx⟩:∃x,x=D*100+C:=⟨_,rfl⟩
 obtain ⟨y,hy⟩:∃y,y=B*100+A:=⟨_,rfl⟩
 have r1:((n:Nat):Int).tmod 100000000=((q:Nat):Int):=by rw [Int.tmod_eq_emod_of_nonneg (by omega)];omega
 have r2:((n:Nat):Int).tdiv 100000000=((0:Nat):Int):=by rw [Int.tdiv_eq_ediv_of_nonneg (by omega)];omega
 have r3:IntKind.u32.wrap ((q:Nat):Int)=((q:Nat):Int):=by exact u32_id (by omega)
 have r4:((q:Nat):Int).tdiv 10000=((x:Nat):Int):=by rw [Int.tdiv_eq_ediv_of_nonneg (by omega)];omega
 have r5:((q:Nat):Int).tmod 10000=((y:Nat):Int):=by rw [Int.tmod_eq_emod_of_nonneg (by omega)];omega
 have r6:((y:Nat):Int).tdiv 100=((B:Nat):Int):=by rw [Int.tdiv_eq_ediv_of_nonneg (by omega)];omega
 have r7:((y:Nat):Int).tmod 100=((A:Nat):Int):=by rw [Int.tmod_eq_emod_of_nonneg (by omega)];omega
 have r8:((x:Nat):Int).tdiv 100=((D:Nat):Int):=by rw [Int.tdiv_eq_ediv_of_nonneg (by omega)];omega
 have r9:((x:Nat):Int).tmod 100=((C:Nat):Int):=by rw [Int.tmod_eq_emod_of_nonneg (by omega)];omega
 have r10:IntKind.u32.wrap ((x:Nat):Int)=((x:Nat):Int):=by exact u32_id (by omega)
 have r11:IntKind.u32.wrap ((y:Nat):Int)=((y:Nat):Int):=by exact u32_id (by omega)
 have wA:IntKind.u32.wrap ((A:Nat):Int)=((A:Nat):Int):=by exact u32_id (by omega)
 have wB:IntKind.u32.wrap ((B:Nat):Int)=((B:Nat):Int):=by exact u32_id (by omega)
 have wC:IntKind.u32.wrap ((C:Nat):Int)=((C:Nat):Int):=by exact u32_id (by omega)
 have wD:IntKind.u32.wrap ((D:Nat):Int)=((D:Nat):Int):=by exact u32_id (by omega)
 unfold z24
 simp only [List.replicate]
 refine GC.walk tok mixed cfg0 Tryz.func183 rfl Tryz.call183 ?_;refine vms1 Tryz.ntmps183 ?_
 refine T.lp tok mixed cfg0 (fun (j:Nat)=>kp 1 (sv (.int .u64 (if j=1 then ((0:Nat):Int) else ((n:Nat):Int))) (dd 2 (sv (.int .i64 (if j=1 then 0 else 8)) (dd 162 (nl)))))) (fun H0 (j:Nat)=>[.cells 0 (if j=1 then [.int .u8 0,dc (D / 10),dc (D % 10),dc (C / 10),dc (C % 10),dc (B / 10),dc (B % 10),dc (A / 10),dc (A % 10)]++List.replicate 15 (.int .u8 0) else z24)]) (fun (j:Nat)=>j≤1) (fun (j:Nat)=>1-j) (0) ?_ ?_ ?_
 ·exact Nat.zero_le _
 ·unfold z24
  simp only [List.replicate,Nat.zero_ne_one,if_false]
  exact Gn.canon (J:=[]) (by first | rfl | (simp [List.append_nil];done) | (simp [List.append_nil];rfl)) (by simp [wk,putT,kp,dd,sv,nl]) (by simp [List.length_append]) (by simp [kp,dd,sv,nl]) (by simp)
 intro j hj
 rcases (by omega:j=0∨j=1) with rfl | rfl
 ·unfold z24
  simp only [List.replicate,Nat.zero_ne_one,if_false]
  simp (maxSteps:=2000000) -implicitDefEqProofs +contextual (disch:=first | assumption | omega | decide +kernel) only [push_cast,↓capI,seval,Nat.reduceLeDiff,Nat.reduceEqDiff,reduceCtorEq,↓reduceIte,r1,r2,r3,r4,r5,r6,r7,r8,r9,r10,r11,wA,wB,wC,wD,u32_two,u32_one,nat_two,nat_one,u32_48,u8_48,bigA,bigB,bigL]
  refine ⟨1,by omega,by (try simp only);omega,?_⟩;exact Gn.canon (by first | rfl | (simp [List.append_nil,dc,List.replicate,hx];rfl)) (by simp [wk,dc,List.replicate,hx]) (by simp [List.length_append]) (by simp) (by simp)
 ·simp only [List.replicate,if_true,List.cons_append,List.nil_append]
  simp (maxSteps:=2000000) -implicitDefEqProofs +contextual (disch:=first | assumption | omega | decide +kernel) only [push_cast,↓capI,seval,Nat.reduceLeDiff,Nat.reduceEqDiff,reduceCtorEq,↓reduceIte,r1,r2,r3,r4,r5,r6,r7,r8,r9,r10,r11,wA,wB,wC,wD,u32_two,u32_one,nat_two,nat_one,u32_48,u8_48,bigA,bigB,bigL]
  refine endG.normal ([]) (by first | rfl | simp [fzs_ok,getO,setO,fzs,fz,fzH,Nat.beq,tt_3,tt_4,tt_5,tt_9,tt_128,tt_200,tt_203,tt_205,tt_231,tt_327,tt_251,tt_2,tt_71,tt_246,tt_299,cfg0,take_rest,ibeq_dec,V.rn,rns,qn,setPs,rnOs,Ob.rn,gl0,glV,List.map,V.st,List.set_cons_zero,List.size_toArray,dc,List.replicate,hx]) (by simp) (by simp [fzs_ok,imp,lenOK_iff,List.take_of_length_le,evRes,getT,getO,setO,fzs,fz,fzH,Nat.beq,retV,Res.then,ldT,ldR,mkV,getV,tt_3,tt_4,tt_5,tt_9,tt_128,tt_200,tt_203,tt_205,tt_231,tt_327,tt_251,tt_2,tt_71,tt_246,tt_299,cfg0,take_rest,ibeq_dec,V.rn,rns,qn,setPs,rnOs,Ob.rn,gl0,glV,List.map,V.st,List.set_cons_zero,List.size_toArray,Tryz.f183,dc,List.replicate,hx]) (by first | rfl | simp [dc,List.replicate,hx]) (by first | rfl | simp [dc,List.replicate,hx])
theorem g80_9 (a D C B A n:Nat) (hA:A<100) (hB:B<100) (hC:C<100) (hD:D<100) (ha:a<10) (hn:n=a*100000000+D*1000000+C*10000+B*100+A):GCall Tryz.prog 183 [.buf 0 0 1 9 1,.int .u64 n] [.cells 0 z24] (.tup []) [.cells 0 ([.int .u8 0,dc a,dc (D / 10),dc (D % 10),dc (C / 10),dc (C % 10),dc (B / 10),dc (B % 10),dc (A / 10),dc (A % 10)]++List.replicate 14 (.int .u8 0))]:=by
 have hn9:n<1000000000:=by omega
 obtain ⟨q,hq⟩:∃q,q=n % 100000000:=⟨_,rfl⟩
 have hq2:q=D*1000000+C*10000+B*100+A:=by omega
 obtain ⟨x,hx⟩:∃x,x=D*100+C:=⟨_,rfl⟩
 obtain ⟨y,hy⟩:∃y,y=B*100+A:=⟨_,rfl⟩
 have r1:((n:Nat):Int).tmod 100000000=((q:Nat):Int):=by rw [Int.tmod_eq_emod_of_nonneg (by omega)];omega
 have r2:((n:Nat):Int).tdiv 100000000=((a:Nat):Int):=by rw [Int.tdiv_eq_ediv_of_nonneg (by omega)];omega
 have r3:IntKind.u32.wrap ((q:Nat):Int)=((q:Nat):Int):=by exact u32_id (by omega)
 have r4:((q:Nat):Int).tdiv 10000=((x:Nat):Int):=by rw [Int.tdiv_eq_ediv_of_nonneg (by omega)];omega
 have r5:((q:Nat):Int).tmod 10000=((y:Nat):Int):=by rw [Int.tmod_eq_emod_of_nonneg (by omega)];omega
 have r6:((y:Nat):Int).tdiv 100=((B:Nat):Int):=by rw [Int.tdiv_eq_ediv_of_nonneg (by omega)];omega
 have r7:((y:Nat):Int).tmod 100=((A:Nat):Int):=by rw [Int.tmod_eq_emod_of_nonneg (by omega)];omega
 have r8:((x:Nat):Int).tdiv 100=((D:Nat):Int):=by rw [Int.tdiv_eq_ediv_of_nonneg (by omega)];omega
 have r9:((x:Nat):Int).tmod 100=((C:Nat):Int):=by rw [Int.tmod_eq_emod_of_nonneg (by omega)];omega
 have r10:IntKind.u32.wrap ((x:Nat):Int)=((x:Nat):Int):=by exact u32_id (by omega)
 have r11:IntKind.u32.wrap ((y:Nat):Int)=((y:Nat):Int):=by exact u32_id (by omega)
 have wA:IntKind.u32.wrap ((A:Nat):Int)=((A:Nat):Int):=by exact u32_id (by omega)
 have wB:IntKind.u32.wrap ((B:Nat):Int)=((B:Nat):Int):=by exact u32_id (by omega)
 have wC:IntKind.u32.wrap ((C:Nat):Int)=((C:Nat):Int):=by exact u32_id (by omega)
 have wD:IntKind.u32.wrap ((D:Nat):Int)=((D:Nat):Int):=by exact u32_id (by omega)
 have wa:IntKind.u32.wrap ((a:Nat):Int)=((a:Nat):Int):=by exact u32_id (by omega)
 have wa6:IntKind.u64.wrap ((a:Nat):Int)=((a:Nat):Int):=by exact IntWalk.u64_in _ ⟨by omega,by omega⟩
 unfold z24
 simp only [List.replicate]
 refine GC.walk tok mixed cfg0 Tryz.func183 rfl Tryz.call183 ?_;refine vms1 Tryz.ntmps183 ?_
 refine T.lp tok mixed cfg0 (fun (j:Nat)=>kp 1 (sv (.int .u64 (if j=1 then ((a:Nat):Int) else ((n:Nat):Int))) (dd 2 (sv (.int .i64 (if j=1 then 1 else 9)) (dd 162 (nl)))))) (fun H0 (j:Nat)=>[.cells 0 (if j=1 then [.int .u8 0,.int .u8 0,dc (D / 10),dc (D % 10),dc (C / 10),dc (C % 10),dc (B / 10),dc (B % 10),dc (A / 10),dc (A % 10)]++List.replicate 14 (.int .u8 0) else z24)]) (fun (j:Nat)=>j≤1) (fun (j:Nat)=>1-j) (0) ?_ ?_ ?_
 ·exact Nat.zero_le _
 ·unfold z24
  simp only [List.replicate,Nat.zero_ne_one,if_false]
  exact Gn.canon (J:=[]) (by first | rfl | (simp [List.append_nil];done) | (simp [List.append_nil];rfl)) (by simp [wk,putT,kp,dd,sv,nl]) (by simp [List.length_append]) (by simp [kp,dd,sv,nl]) (by simp)
 intro j hj
 rcases (by omega:j=0∨j=1) with rfl | rfl
 ·unfold z24
  simp only [List.replicate,Nat.zero_ne_one,if_false]
  simp (maxSteps:=2000000) -implicitDefEqProofs +contextual (disch:=first | assumption | omega | decide +kernel) only [push_cast,↓capI,seval,Nat.reduceLeDiff,Nat.reduceEqDiff,reduceCtorEq,↓reduceIte,r1,r2,r3,r4,r5,r6,r7,r8,r9,r10,r11,wA,wB,wC,wD,wa,wa6,u32_two,u32_one,nat_two,nat_one,u32_48,u8_48,bigA,bigB,bigL]
  refine ⟨1,by omega,by (try simp only);omega,?_⟩;exact Gn.canon (by first | rfl | (simp [List.append_nil,dc,List.replicate,hx];rfl)) (by simp [wk,dc,List.replicate,hx]) (by simp [List.length_append]) (by simp) (by simp)
 ·simp only [List.replicate,if_true,List.cons_append,List.nil_append]
  simp (maxSteps:=2000000) -implicitDefEqProofs +contextual (disch:=first | assumption | omega | decide +kernel) only [push_cast,↓capI,seval,Nat.reduceLeDiff,Nat.reduceEqDiff,reduceCtorEq,↓reduceIte,r1,r2,r3,r4,r5,r6,r7,r8,r9,r10,r11,wA,wB,wC,wD,wa,wa6,u32_two,u32_one,nat_two,nat_one,u32_48,u8_48,bigA,bigB,bigL]
  refine endG.normal ([]) (by first | rfl | simp [fzs_ok,getO,setO,fzs,fz,fzH,Nat.beq,tt_3,tt_4,tt_5,tt_9,tt_128,tt_200,tt_203,tt_205,tt_231,tt_327,tt_251,tt_2,tt_71,tt_246,tt_299,cfg0,take_rest,ibeq_dec,V.rn,rns,qn,setPs,rnOs,Ob.rn,gl0,glV,List.map,V.st,List.set_cons_zero,List.size_toArray,dc,List.replicate,hx]) (by simp) (by simp [fzs_ok,imp,lenOK_iff,List.take_of_length_le,evRes,getT,getO,setO,fzs,fz,fzH,Nat.beq,retV,Res.then,ldT,ldR,mkV,getV,tt_3,tt_4,tt_5,tt_9,tt_128,tt_200,tt_203,tt_205,tt_231,tt_327,tt_251,tt_2,tt_71,tt_246,tt_299,cfg0,take_rest,ibeq_dec,V.rn,rns,qn,setPs,rnOs,Ob.rn,gl0,glV,List.map,V.st,List.set_cons_zero,List.size_toArray,Tryz.f183,dc,List.replicate,hx]) (by first | rfl | simp [dc,List.replicate,hx]) (by first | rfl | simp [dc,List.replicate,hx])
end
section
theorem dgs_one {k n:Nat} (h:n<10):dgs (k+1) n=[UInt8.ofNat (48+n)]:=by rw [dgs,if_pos h]
theorem dgs_step {k n:Nat} (h:10≤n):dgs (k+1) n=dgs k (n / 10)++[UInt8.ofNat (48+n % 10)]:=by rw [dgs,if_neg (by omega)]
theorem t48a {m:Nat}:((48:Int)+(m:Int) / 10).toNat=48+m / 10:=by omega
theorem t48b {m:Nat}:((48:Int)+(m:Int) % 10).toNat=48+m % 10:=by omega
theorem t48c {m:Nat}:((48:Int)+(m:Int)).toNat=48+m:=by omega
attribute [local push_cast] cfg0 take_rest ibeq_dec V.rn rns qn setPs rnOs Ob.rn gl0 glV List.map V.st List.set_cons_zero List.size_toArray
theorem f65_3 (n:Nat) (h1:10^2≤n) (h2:n<10^3):PC Tryz.prog 155 [.int .i64 n,.int .i64 10] (.str (dgs 9 n)):=by
 have hd:=numDigits n 3 (by decide) h1 h2
 simp only [Nat.reducePow] at h1 h2
 obtain ⟨A,hA⟩:∃x,x=n / 1 % 100:=⟨_,rfl⟩
 obtain ⟨a,ha⟩:∃x,x=n / 100:=⟨_,rfl⟩
 have hs:dgs 9 n=[UInt8.ofNat (48+a),UInt8.ofNat (48+(A / 10)),UInt8.ofNat (48+(A % 10))]:=by
  rw [dgs_step (by omega),dgs_step (by omega),dgs_one (by omega)]
  have e0:n % 10=A % 10:=by omega
  have e1:n / 10 % 10=A / 10:=by omega
  have e2:n / 10 / 10=a:=by omega
  rw [e2,e1,e0]
  rfl
 have hg:=g80_3 a A n (by omega) (by omega) (by omega)
 have hi:¬(n:Int)<0:=by omega
 have hc:¬(n:Int)<100:=by omega
 clear hA ha
 rw [hs]
 clear hs
 refine PC.walk tok mixed cfg0 Tryz.func155 rfl Tryz.call155 (by simp) (by first | rfl | simp) ?_;refine vms1 Tryz.ntmps155 ?_
 (try refine vms1 hc ?_)
 refine callO.pc hd ?_
 refine vms1 hi ?_
 refine callO.part0 [0] hg (by decide) rfl rfl ⟨by rfl,by simp,trivial⟩ ?_
 unfold dc
 simp only [List.replicate,List.append_eq,List.cons_append,List.nil_append]
 refine vms1 hi ?_
 refine endK.retA ?_;simp [evRes,getT,retV,Tryz.f155,t48a,t48b,t48c]
theorem f65_4 (n:Nat) (h1:10^3≤n) (h2:n<10^4):PC Tryz.prog 155 [.int .i64 n,.int .i64 10] (.str (dgs 9 n)):=by
 have hd:=numDigits n 4 (by decide) h1 h2
 simp only [Nat.reducePow] at h1 h2
 obtain ⟨A,hA⟩:∃x,x=n / 1 % 100:=⟨_,rfl⟩
 obtain ⟨B,hB⟩:∃x,x=n / 100 % 100:=⟨_,rfl⟩
 have hs:dgs 9 n=[UInt8.ofNat (48+(B / 10)),UInt8.ofNat (48+(B % 10)),UInt8.ofNat (48+(A / 10)),UInt8.ofNat (48+(A % 10))]:=by
  rw [dgs_step (by omega),dgs_step (by omega),dgs_step (by omega),dgs_one (by omega)]
  have e0:n % 10=A % 10:=by omega
  have e1:n / 10 % 10=A / 10:=by omega
  have e2:n / 10 / 10 % 10=B % 10:=by omega
  have e3:n / 10 / 10 / 10=B / 10:=by omega
  rw [e3,e2,e1,e0]
  rfl
 have hg:=g80_4 B A n (by omega) (by omega) (by omega)
 have hi:¬(n:Int)<0:=by omega
 have hc:¬(n:Int)<100:=by omega
 clear hA hB
 rw [hs]
 clear hs
 refine PC.walk tok mixed cfg0 Tryz.func155 rfl Tryz.call155 (by simp) (by first | rfl | simp) ?_;refine vms1 Tryz.ntmps155 ?_
 (try refine vms1 hc ?_)
 refine callO.pc hd ?_
 refine vms1 hi ?_
 refine callO.part0 [0] hg (by decide) rfl rfl ⟨by rfl,by simp,trivial⟩ ?_
 unfold dc
 simp only [List.replicate,List.append_eq,List.cons_append,List.nil_append]
 refine vms1 hi ?_
 refine endK.retA ?_;simp [evRes,getT,retV,Tryz.f155,t48a,t48b,t48c]
theorem f65_5 (n:Nat) (h1:10^4≤n) (h2:n<10^5):PC Tryz.prog 155 [.int .i64 n,.int .i64 10] (.str (dgs 9 n)):=by
 have hd:=numDigits n 5 (by decide) h1 h2
 simp only [Nat.reducePow] at h1 h2
 obtain ⟨A,hA⟩:∃x,x=n / 1 % 100:=⟨_,rfl⟩
 obtain ⟨B,hB⟩:∃x,x=n / 100 % 100:=⟨_,rfl⟩
 obtain ⟨a,ha⟩:∃x,x=n / 10000:=⟨_,rfl⟩
 have hs:dgs 9 n=[UInt8.ofNat (48+a),UInt8.ofNat (48+(B / 10)),UInt8.ofNat (48+(B % 10)),UInt8.ofNat (48+(A / 10)),UInt8.ofNat (48+(A % 10))]:=by
  rw [dgs_step (by omega),dgs_step (by omega),dgs_step (by omega),dgs_step (by omega),dgs_one (by omega)]
  have e0:n % 10=A % 10:=by omega
  have e1:n / 10 % 10=A / 10:=by omega
  have e2:n / 10 / 10 % 10=B % 10:=by omega
  have e3:n / 10 / 10 / 10 % 10=B / 10:=by omega
  have e4:n / 10 / 10 / 10 / 10=a:=by omega
  rw [e4,e3,e2,e1,e0]
  rfl
 have hg:=g80_5 a B A n (by omega) (by omega) (by omega) (by omega)
 have hi:¬(n:Int)<0:=by omega
 have hc:¬(n:Int)<100:=by omega
 clear hA hB ha
 rw [hs]
 clear hs
 refine PC.walk tok mixed cfg0 Tryz.func155 rfl Tryz.call155 (by simp) (by first | rfl | simp) ?_;refine vms1 Tryz.ntmps155 ?_
 (try refine vms1 hc ?_)
 refine callO.pc hd ?_
 refine vms1 hi ?_
 refine callO.part0 [0] hg (by decide) rfl rfl ⟨by rfl,by simp,trivial⟩ ?_
 unfold dc
 simp only [List.replicate,List.append_eq,List.cons_append,List.nil_append]
 refine vms1 hi ?_
 refine endK.retA ?_;simp [evRes,getT,retV,Tryz.f155,t48a,t48b,t48c]
theorem f65_6 (n:Nat) (h1:10^5≤n) (h2:n<10^6):PC Tryz.prog 155 [.int .i64 n,.int .i64 10] (.str (dgs 9 n)):=by
 have hd:=numDigits n 6 (by decide) h1 h2
 simp only [Nat.reducePow] at h1 h2
 obtain ⟨A,hA⟩:∃x,x=n / 1 % 100:=⟨_,rfl⟩
 obtain ⟨B,hB⟩:∃x,x=n / 100 % 100:=⟨_,rfl⟩
 obtain ⟨C,hC⟩:∃x,x=n / 10000 % 100:=⟨_,rfl⟩
 have hs:dgs 9 n=[UInt8.ofNat (48+(C / 10)),UInt8.ofNat (48+(C % 10)),UInt8.ofNat (48+(B / 10)),UInt8.ofNat (48+(B % 10)),UInt8.ofNat (48+(A / 10)),UInt8.ofNat (48+(A % 10))]:=by
  rw [dgs_step (by omega),dgs_step (by omega),dgs_step (by omega),dgs_step (by omega),dgs_step (by omega),dgs_one (by omega)]
  have e0:n % 10=A % 10:=by omega
  have e1:n / 10 % 10=A / 10:=by omega
  have e2:n / 10 / 10 % 10=B % 10:=by omega
  have e3:n / 10 / 10 / 10 % 10=B / 10:=by omega
  have e4:n / 10 / 10 / 10 / 10 % 10=C % 10:=by omega
  have e5:n / 10 / 10 / 10 / 10 / 10=C / 10:=by omega
  rw [e5,e4,e3,e2,e1,e0]
  rfl
 have hg:=g80_6 C B A n (by omega) (by omega) (by omega) (by omega)
 have hi:¬(n:Int)<0:=by omega
 have hc:¬(n:Int)<100:=by omega
 clear hA hB hC
 rw [hs]
 clear hs
 refine PC.walk tok mixed cfg0 Tryz.func155 rfl Tryz.call155 (by simp) (by first | rfl | simp) ?_;refine vms1 Tryz.ntmps155 ?_
 (try refine vms1 hc ?_)
 refine callO.pc hd ?_
 refine vms1 hi ?_
 refine callO.part0 [0] hg (by decide) rfl rfl ⟨by rfl,by simp,trivial⟩ ?_
 unfold dc
 simp only [List.replicate,List.append_eq,List.cons_append,List.nil_append]
 refine vms1 hi ?_
 refine endK.retA ?_;simp [evRes,getT,retV,Tryz.f155,t48a,t48b,t48c]
theorem f65_7 (n:Nat) (h1:10^6≤n) (h2:n<10^7):PC Tryz.prog 155 [.int .i64 n,.int .i64 10] (.str (dgs 9 n)):=by
 have hd:=numDigits n 7 (by decide) h1 h2
 simp only [Nat.reducePow] at h1 h2
 obtain ⟨A,hA⟩:∃x,x=n / 1 % 100:=⟨_,rfl⟩
 obtain ⟨B,hB⟩:∃x,x=n / 100 % 100:=⟨_,rfl⟩
 obtain ⟨C,hC⟩:∃x,x=n / 10000 % 100:=⟨_,rfl⟩
 obtain ⟨a,ha⟩:∃x,x=n / 1000000:=⟨_,rfl⟩
 have hs:dgs 9 n=[UInt8.ofNat (48+a),UInt8.ofNat (48+(C / 10)),UInt8.ofNat (48+(C % 10)),UInt8.ofNat (48+(B / 10)),UInt8.ofNat (48+(B % 10)),UInt8.ofNat (48+(A / 10)),UInt8.ofNat (48+(A % 10))]:=by
  rw [dgs_step (by omega),dgs_step (by omega),dgs_step (by omega),dgs_step (by omega),dgs_step (by omega),dgs_step (by omega),dgs_one (by omega)]
  have e0:n % 10=A % 10:=by omega
  have e1:n / 10 % 10=A / 10:=by omega
  have e2:n / 10 / 10 % 10=B % 10:=by omega
  have e3:n / 10 / 10 / 10 % 10=B / 10:=by omega
  have e4:n / 10 / 10 / 10 / 10 % 10=C % 10:=by omega
  have e5:n / 10 / 10 / 10 / 10 / 10 % 10=C / 10:=by omega
  have e6:n / 10 / 10 / 10 / 10 / 10 / 10=a:=by omega
  rw [e6,e5,e4,e3,e2,e1,e0]
  rfl
 have hg:=g80_7 a C B A n (by omega) (by omega) (by omega) (by omega) (by omega)
 have hi:¬(n:Int)<0:=by omega
 have hc:¬(n:Int)<100:=by omega
 clear hA hB hC ha
 rw [hs]
 clear hs
 refine PC.walk tok mixed cfg0 Tryz.func155 rfl Tryz.call155 (by simp) (by first | rfl | simp) ?_;refine vms1 Tryz.ntmps155 ?_
 (try refine vms1 hc ?_)
 refine callO.pc hd ?_
 refine vms1 hi ?_
 refine callO.part0 [0] hg (by decide) rfl rfl ⟨by rfl,by simp,trivial⟩ ?_
 unfold dc
 simp only [List.replicate,List.append_eq,List.cons_append,List.nil_append]
 refine vms1 hi ?_
 refine endK.retA ?_;simp [evRes,getT,retV,Tryz.f155,t48a,t48b,t48c]
theorem f65_8 (n:Nat) (h1:10^7≤n) (h2:n<10^8):PC Tryz.prog 155 [.int .i64 n,.int .i64 10] (.str (dgs 9 n)):=by
 have hd:=numDigits n 8 (by decide) h1 h2
 simp only [Nat.reducePow] at h1 h2
 obtain ⟨A,hA⟩:∃x,x=n / 1 % 100:=⟨_,rfl⟩
 obtain ⟨B,hB⟩:∃x,x=n / 100 % 100:=⟨_,rfl⟩
 obtain ⟨C,hC⟩:∃x,x=n / 10000 % 100:=⟨_,rfl⟩
 obtain ⟨D,hD⟩:∃x,x=n / 1000000 % 100:=⟨_,rfl⟩
 have hs:dgs 9 n=[UInt8.ofNat (48+(D / 10)),UInt8.ofNat (48+(D % 10)),UInt8.ofNat (48+(C / 10)),UInt8.ofNat (48+(C % 10)),UInt8.ofNat (48+(B / 10)),UInt8.ofNat (48+(B % 10)),UInt8.ofNat (48+(A / 10)),UInt8.ofNat (48+(A % 10))]:=by
  rw [dgs_step (by omega),dgs_step (by omega),dgs_step (by omega),dgs_step (by omega),dgs_step (by omega),dgs_step (by omega),dgs_step (by omega),dgs_one (by omega)]
  have e0:n % 10=A % 10:=by omega
  have e1:n / 10 % 10=A / 10:=by omega
  have e2:n / 10 / 10 % 10=B % 10:=by omega
  have e3:n / 10 / 10 / 10 % 10=B / 10:=by omega
  have e4:n / 10 / 10 / 10 / 10 % 10=C % 10:=by omega
  have e5:n / 10 / 10 / 10 / 10 / 10 % 10=C / 10:=by omega
  have e6:n / 10 / 10 / 10 / 10 / 10 / 10 % 10=D % 10:=by omega
  have e7:n / 10 / 10 / 10 / 10 / 10 / 10 / 10=D / 10:=by omega
  rw [e7,e6,e5,e4,e3,e2,e1,e0]
  rfl
 have hg:=g80_8 D C B A n (by omega) (by omega) (by omega) (by omega) (by omega)
 have hi:¬(n:Int)<0:=by omega
 have hc:¬(n:Int)<100:=by omega
 clear hA hB hC hD
 rw [hs]
 clear hs
 refine PC.walk tok mixed cfg0 Tryz.func155 rfl Tryz.call155 (by simp) (by first | rfl | simp) ?_;refine vms1 Tryz.ntmps155 ?_
 (try refine vms1 hc ?_)
 refine callO.pc hd ?_
 refine vms1 hi ?_
 refine callO.part0 [0] hg (by decide) rfl rfl ⟨by rfl,by simp,trivial⟩ ?_
 unfold dc
 simp only [List.replicate,List.append_eq,List.cons_append,List.nil_append]
 refine vms1 hi ?_
 refine endK.retA ?_;simp [evRes,getT,retV,Tryz.f155,t48a,t48b,t48c]
theorem f65_9 (n:Nat) (h1:10^8≤n) (h2:n<10^9):PC Tryz.prog 155 [.int .i64 n,.int .i64 10] (.str (dgs 9 n)):=by
 have hd:=numDigits n 9 (by decide) h1 h2
 simp only [Nat.reducePow] at h1 h2
 obtain ⟨A,hA⟩:∃x,x=n / 1 % 100:=⟨_,rfl⟩
 obtain ⟨B,hB⟩:∃x,x=n / 100 % 100:=⟨_,rfl⟩
 obtain ⟨C,hC⟩:∃x,x=n / 10000 % 100:=⟨_,rfl⟩
 obtain ⟨D,hD⟩:∃x,x=n / 1000000 % 100:=⟨_,rfl⟩
 obtain ⟨a,ha⟩:∃x,x=n / 100000000:=⟨_,rfl⟩
 have hs:dgs 9 n=[UInt8.ofNat (48+a),UInt8.ofNat (48+(D / 10)),UInt8.ofNat (48+(D % 10)),UInt8.ofNat (48+(C / 10)),UInt8.ofNat (48+(C % 10)),UInt8.ofNat (48+(B / 10)),UInt8.ofNat (48+(B % 10)),UInt8.ofNat (48+(A / 10)),UInt8.ofNat (48+(A % 10))]:=by
  rw [dgs_step (by omega),dgs_step (by omega),dgs_step (by omega),dgs_step (by omega),dgs_step (by omega),dgs_step (by omega),dgs_step (by omega),dgs_step (by omega),dgs_one (by omega)]
  have e0:n % 10=A % 10:=by omega
  have e1:n / 10 % 10=A / 10:=by omega
  have e2:n / 10 / 10 % 10=B % 10:=by omega
  have e3:n / 10 / 10 / 10 % 10=B / 10:=by omega
  have e4:n / 10 / 10 / 10 / 10 % 10=C % 10:=by omega
  have e5:n / 10 / 10 / 10 / 10 / 10 % 10=C / 10:=by omega
  have e6:n / 10 / 10 / 10 / 10 / 10 / 10 % 10=D % 10:=by omega
  have e7:n / 10 / 10 / 10 / 10 / 10 / 10 / 10 % 10=D / 10:=by omega
  have e8:n / 10 / 10 / 10 / 10 / 10 / 10 / 10 / 10=a:=by omega
  rw [e8,e7,e6,e5,e4,e3,e2,e1,e0]
  rfl
 have hg:=g80_9 a D C B A n (by omega) (by omega) (by omega) (by omega) (by omega) (by omega)
 have hi:¬(n:Int)<0:=by omega
 have hc:¬(n:Int)<100:=by omega
 clear hA hB hC hD ha
 rw [hs]
 clear hs
 refine PC.walk tok mixed cfg0 Tryz.func155 rfl Tryz.call155 (by simp) (by first | rfl | simp) ?_;refine vms1 Tryz.ntmps155 ?_
 (try refine vms1 hc ?_)
 refine callO.pc hd ?_
 refine vms1 hi ?_
 refine callO.part0 [0] hg (by decide) rfl rfl ⟨by rfl,by simp,trivial⟩ ?_
 unfold dc
 simp only [List.replicate,List.append_eq,List.cons_append,List.nil_append]
 refine vms1 hi ?_
 refine endK.retA ?_;simp [evRes,getT,retV,Tryz.f155,t48a,t48b,t48c]
theorem f65s (n:Nat) (h:n<100):PC Tryz.prog 155 [.int .i64 n,.int .i64 10] (.str (dgs 9 n)):=by
 have h8:=pc155 n (by omega)
 have e:dec8 n=dgs 9 n:=by
  rw [dec8]
  by_cases h10:n<10
  ·rw [if_pos h10,dgs_one h10]
  ·rw [if_neg h10,if_pos h,dgs_step (by omega),dgs_one (by omega)]
   rfl
 rw [e] at h8
 exact h8
theorem f65 (n:Nat) (h:n<1000000000):PC Tryz.prog 155 [.int .i64 n,.int .i64 10] (.str (dgs 9 n)):=by
 by_cases h2:n<100
 ·exact f65s n h2
 by_cases h3:n<1000
 ·exact f65_3 n (by simp only [Nat.reducePow];omega) (by simp only [Nat.reducePow];omega)
 by_cases h4:n<10000
 ·exact f65_4 n (by simp only [Nat.reducePow];omega) (by simp only [Nat.reducePow];omega)
 by_cases h5:n<100000
 ·exact f65_5 n (by simp only [Nat.reducePow];omega) (by simp only [Nat.reducePow];omega)
 by_cases h6:n<1000000
 ·exact f65_6 n (by simp only [Nat.reducePow];omega) (by simp only [Nat.reducePow];omega)
 by_cases h7:n<10000000
 ·exact f65_7 n (by simp only [Nat.reducePow];omega) (by simp only [Nat.reducePow];omega)
 by_cases h8:n<100000000
 ·exact f65_8 n (by simp only [Nat.reducePow];omega) (by simp only [Nat.reducePow];omega)
 exact f65_9 n (by simp only [Nat.reducePow];omega) (by simp only [Nat.reducePow];omega)
theorem fI1 (n:Nat) (hn:n<1000000000):PC Tryz.prog 119 [.int .i64 n] (.str (dgs 9 n)):=by
 refine PC.walk tok mixed cfg0 Tryz.func119 rfl Tryz.call119 (by simp) (by first | rfl | simp) ?_;refine vms1 Tryz.ntmps119 ?_
 refine callO.pc (f65 n hn) ?_
 refine vms0 ?_
 refine endK.retA ?_;simp [evRes,getT,retV,Tryz.f119]
theorem fI2 (n:Nat) (hn:n<1000000000):PC Tryz.prog 75 [.int .i64 n] (.str (dgs 9 n)):=by
 refine PC.walk tok mixed cfg0 Tryz.func75 rfl Tryz.call75 (by simp) (by first | rfl | simp) ?_;refine vms1 Tryz.ntmps75 ?_
 refine callO.pc (fI1 n hn) ?_
 refine vms0 ?_
 refine endK.retA ?_;simp [evRes,getT,retV,Tryz.f75]
theorem fmtP (n:Nat) (hn:n<1000000000):PC Tryz.prog 37 [.int .i64 n] (.str (dgs 9 n)):=by
 refine PC.walk tok mixed cfg0 Tryz.func37 rfl Tryz.call37 (by simp) (by first | rfl | simp) ?_;refine vms1 Tryz.ntmps37 ?_
 refine callO.pc (fI2 n hn) ?_
 refine vms0 ?_
 refine endK.retA ?_;simp [evRes,getT,retV,Tryz.f37]
end
section
def inn (k need:Int) (s:List UInt8):List UInt8:=if k<need then [40]++s++[41] else s
theorem inn_len (k need:Int) (s:List UInt8):(inn k need s).length≤s.length+2:=by
 unfold inn
 split
 ·simp
 ·omega
def prec:Pr→Int
 | .leaf _=>3
 | .un _ _=>3
 | .bin x _ _=>if x.op=5 then 1 else 2
def tx:Pr→List UInt8
 | .leaf x=>if x.op=1 then [40,41] else if x.op=2 then [46] else dgs 9 x.n.toNat
 | .un _ p=>inn (prec p) 3 (tx p)++[42]
 | .bin x p q=>if x.op=5 then inn (prec p) 1 (tx p)++[124]++inn (prec q) 2 (tx q) else inn (prec p) 2 (tx p)++[44]++inn (prec q) 3 (tx q)
theorem leaf_len (x:Nd):(tx (.leaf x)).length≤9:=by
 have:=dgs_len 9 x.n.toNat
 rw [tx]
 split
 ·decide
 split
 ·decide
 ·exact this
theorem tx_len:∀p:Pr,(tx p).length≤9*(flat p).length
 | .leaf x=>by
  have:=leaf_len x
  rw [flat,List.length_singleton]
  omega
 | .un x p=>by
  have h1:=tx_len p
  have h2:=inn_len (prec p) 3 (tx p)
  rw [tx,flat]
  (try simp only [List.length_append,List.length_cons,List.length_nil]);omega
 | .bin x p q=>by
  have h1:=tx_len p
  have h2:=tx_len q
  have h3:=inn_len (prec p) 2 (tx p)
  have h4:=inn_len (prec p) 1 (tx p)
  have h5:=inn_len (prec q) 2 (tx q)
  have h6:=inn_len (prec q) 3 (tx q)
  rw [tx,flat]
  split
  ·(try simp only [List.length_append,List.length_cons,List.length_nil]);omega
  ·(try simp only [List.length_append,List.length_cons,List.length_nil]);omega
attribute [local push_cast] fmN fm0 take_N toN1 slN_nil encN slN cfg0 gfp_lenN gfd_lenN lfl_lenN encX ibeq_dec
theorem pc154:∀p:Pr,PC Tryz.prog 154 [encX p] (.int .i64 (prec p))
 | .leaf x=>by
  refine PC.walk tok mixed cfg0 Tryz.func154 rfl Tryz.call154 (by simp [bel_clX]) (by first | rfl | simp [bel_clX]) ?_;refine vms1 Tryz.ntmps154 ?_
  simp (maxSteps:=2000000) -implicitDefEqProofs +contextual (disch:=first | assumption | omega | decide +kernel) only [push_cast,↓capI,seval,Nat.reduceLeDiff,Nat.reduceEqDiff,reduceCtorEq,↓reduceIte,tgX,clX]
  refine endK.ret ?_ (by first | rfl | simp [bel_clX]);simp [evRes,getT,retV,Tryz.f154,prec]
 | .un x p=>by
  refine PC.walk tok mixed cfg0 Tryz.func154 rfl Tryz.call154 (by simp [bel_clX]) (by first | rfl | simp [bel_clX]) ?_;refine vms1 Tryz.ntmps154 ?_
  simp (maxSteps:=2000000) -implicitDefEqProofs +contextual (disch:=first | assumption | omega | decide +kernel) only [push_cast,↓capI,seval,Nat.reduceLeDiff,Nat.reduceEqDiff,reduceCtorEq,↓reduceIte,tgX,clX]
  refine endK.ret ?_ (by first | rfl | simp [bel_clX]);simp [evRes,getT,retV,Tryz.f154,prec]
 | .bin x p q=>by
  by_cases h:x.op=5
  ·refine PC.walk tok mixed cfg0 Tryz.func154 rfl Tryz.call154 (by simp [bel_clX]) (by first | rfl | simp [bel_clX]) ?_;refine vms1 Tryz.ntmps154 ?_
   simp (maxSteps:=2000000) -implicitDefEqProofs +contextual (disch:=first | assumption | omega | decide +kernel) only [push_cast,↓capI,seval,Nat.reduceLeDiff,Nat.reduceEqDiff,reduceCtorEq,↓reduceIte,tgX,clX,h]
   refine endK.ret ?_ (by first | rfl | simp [bel_clX]);simp [evRes,getT,retV,Tryz.f154,prec,h]
  ·refine PC.walk tok mixed cfg0 Tryz.func154 rfl Tryz.call154 (by simp [bel_clX]) (by first | rfl | simp [bel_clX]) ?_;refine vms1 Tryz.ntmps154 ?_
   simp (maxSteps:=2000000) -implicitDefEqProofs +contextual (disch:=first | assumption | omega | decide +kernel) only [push_cast,↓capI,seval,Nat.reduceLeDiff,Nat.reduceEqDiff,reduceCtorEq,↓reduceIte,tgX,clX,h]
   refine endK.ret ?_ (by first | rfl | simp [bel_clX]);simp [evRes,getT,retV,Tryz.f154,prec,h]
theorem pc118 (p:Pr) (need:Int) (hl:(flat p).length≤4000000) (h:PC Tryz.prog 74 [encX p] (.str (tx p))):PC Tryz.prog 118 [encX p,.int .i64 need] (.str (inn (prec p) need (tx p))):=by
 have hs:=tx_len p
 have h55:=pc154 p
 rw [encX] at h h55
 by_cases hk:prec p<need
 ·refine PC.walk tok mixed cfg0 Tryz.func118 rfl Tryz.call118 (by simp [bel_clX]) (by first | rfl | simp [bel_clX]) ?_;refine vms1 Tryz.ntmps118 ?_
  refine callO.pc h ?_
  refine vms0 ?_
  refine callO.pc h55 ?_
  refine vms1 hk ?_
  (try refine ⟨by (try simp only [List.length_append,List.length_cons,List.length_nil]);omega,fun _=>?_⟩)
  (try refine vms0 ?_)
  (try refine ⟨by (try simp only [List.length_append,List.length_cons,List.length_nil]);omega,fun _=>?_⟩)
  refine endK.ret ?_ (by first | rfl | simp [bel_clX]);simp [evRes,getT,retV,Tryz.f118,inn,hk]
 ·refine PC.walk tok mixed cfg0 Tryz.func118 rfl Tryz.call118 (by simp [bel_clX]) (by first | rfl | simp [bel_clX]) ?_;refine vms1 Tryz.ntmps118 ?_
  refine callO.pc h ?_
  refine vms0 ?_
  refine callO.pc h55 ?_
  refine vms1 hk ?_
  refine endK.ret ?_ (by first | rfl | simp [bel_clX]);simp [evRes,getT,retV,Tryz.f118,inn,hk]
theorem ok_leaf {p:Nd} (h:okP 1000000000 (.leaf p)) (h3:p.op=3):0≤p.n∧p.n<1000000000:=by
 obtain ⟨_,h2⟩:=h
 unfold chk1 at h2
 have ha:¬arity p.op<0:=by rw [h3];decide
 rw [if_neg ha] at h2
 have:¬badN 1000000000 p:=fun g=>by rw [if_pos ⟨h3,g⟩] at h2;exact absurd h2 (by decide)
 unfold badN at this
 omega
theorem pc74:∀p:Pr,okP 1000000000 p→(flat p).length≤4000000→PC Tryz.prog 74 [encX p] (.str (tx p))
 | .leaf x,hp,_=>by
  by_cases h1:x.op=1
  ·refine PC.walk tok mixed cfg0 Tryz.func74 rfl Tryz.call74 (by simp [bel_clX]) (by first | rfl | simp [bel_clX]) ?_;refine vms1 Tryz.ntmps74 ?_
   simp (maxSteps:=2000000) -implicitDefEqProofs +contextual (disch:=first | assumption | omega | decide +kernel) only [push_cast,↓capI,seval,Nat.reduceLeDiff,Nat.reduceEqDiff,reduceCtorEq,↓reduceIte,tgX,clX,h1]
   refine endK.ret ?_ (by first | rfl | simp [bel_clX]);simp [evRes,getT,retV,Tryz.f74,tx,h1]
  by_cases h2:x.op=2
  ·refine PC.walk tok mixed cfg0 Tryz.func74 rfl Tryz.call74 (by simp [bel_clX]) (by first | rfl | simp [bel_clX]) ?_;refine vms1 Tryz.ntmps74 ?_
   simp (maxSteps:=2000000) -implicitDefEqProofs +contextual (disch:=first | assumption | omega | decide +kernel) only [push_cast,↓capI,seval,Nat.reduceLeDiff,Nat.reduceEqDiff,reduceCtorEq,↓reduceIte,tgX,clX,h1,h2]
   refine endK.ret ?_ (by first | rfl | simp [bel_clX]);simp [evRes,getT,retV,Tryz.f74,tx,h1,h2]
  have h3:x.op=3:=by have:=hp.1;omega
  obtain ⟨b1,b2⟩:=ok_leaf hp h3
  have hf:=fmtP x.n.toNat (by omega)
  rw [Int.toNat_of_nonneg b1] at hf
  refine PC.walk tok mixed cfg0 Tryz.func74 rfl Tryz.call74 (by simp [bel_clX]) (by first | rfl | simp [bel_clX]) ?_;refine vms1 Tryz.ntmps74 ?_
  simp (maxSteps:=2000000) -implicitDefEqProofs +contextual (disch:=first | assumption | omega | decide +kernel) only [push_cast,↓capI,seval,Nat.reduceLeDiff,Nat.reduceEqDiff,reduceCtorEq,↓reduceIte,tgX,clX,h1,h2,nN,h3]
  refine callO.pc hf ?_
  refine vms0 ?_
  refine endK.ret ?_ (by first | rfl | simp [bel_clX]);simp [evRes,getT,retV,Tryz.f74,tx,h1,h2]
 | .un x p,hp,hl=>by
  rw [flat,List.length_cons] at hl
  have i1:=pc118 p 3 (by omega) (pc74 p hp.2 (by omega))
  have ht:=tx_len p
  have hn:=inn_len (prec p) 3 (tx p)
  rw [encX] at i1
  refine PC.walk tok mixed cfg0 Tryz.func74 rfl Tryz.call74 (by simp [bel_clX]) (by first | rfl | simp [bel_clX]) ?_;refine vms1 Tryz.ntmps74 ?_
  simp (maxSteps:=2000000) -implicitDefEqProofs +contextual (disch:=first | assumption | omega | decide +kernel) only [push_cast,↓capI,seval,Nat.reduceLeDiff,Nat.reduceEqDiff,reduceCtorEq,↓reduceIte,tgX,clX]
  refine callO.pc i1 ?_
  refine vms0 ?_
  (try refine ⟨by (try simp only [List.length_append,List.length_cons,List.length_nil]);omega,fun _=>?_⟩)
  refine endK.ret ?_ (by first | rfl | simp [bel_clX]);simp [evRes,getT,retV,Tryz.f74,tx]
 | .bin x p q,hp,hl=>by
  rw [flat,List.length_cons,List.length_append] at hl
  have a1:=pc74 p hp.2.1 (by omega)
  have a2:=pc74 q hp.2.2 (by omega)
  have t1:=tx_len p
  have t2:=tx_len q
  have n1:=inn_len (prec p) 2 (tx p)
  have n2:=inn_len (prec p) 1 (tx p)
  have n3:=inn_len (prec q) 2 (tx q)
  have n4:=inn_len (prec q) 3 (tx q)
  by_cases h5:x.op=5
  ·have i1:=pc118 p 1 (by omega) a1
   have i2:=pc118 q 2 (by omega) a2
   rw [encX] at i1 i2
   refine PC.walk tok mixed cfg0 Tryz.func74 rfl Tryz.call74 (by simp [bel_clX]) (by first | rfl | simp [bel_clX]) ?_;refine vms1 Tryz.ntmps74 ?_
   simp (maxSteps:=2000000) -implicitDefEqProofs +contextual (disch:=first | assumption | omega | decide +kernel) only [push_cast,↓capI,seval,Nat.reduceLeDiff,Nat.reduceEqDiff,reduceCtorEq,↓reduceIte,tgX,clX,h5]
   refine callG.pc1 i1 ?_
   refine vms0 ?_
   (try refine ⟨by (try simp only [List.length_append,List.length_cons,List.length_nil]);omega,fun _=>?_⟩)
   refine callG.pc1 i2 ?_
   refine vms0 ?_
   (try refine ⟨by (try simp only [List.length_append,List.length_cons,List.length_nil]);omega,fun _=>?_⟩)
   refine endK.ret ?_ (by first | rfl | simp [bel_clX]);simp [evRes,getT,retV,Tryz.f74,tx,h5]
  ·have i1:=pc118 p 2 (by omega) a1
   have i2:=pc118 q 3 (by omega) a2
   rw [encX] at i1 i2
   refine PC.walk tok mixed cfg0 Tryz.func74 rfl Tryz.call74 (by simp [bel_clX]) (by first | rfl | simp [bel_clX]) ?_;refine vms1 Tryz.ntmps74 ?_
   simp (maxSteps:=2000000) -implicitDefEqProofs +contextual (disch:=first | assumption | omega | decide +kernel) only [push_cast,↓capI,seval,Nat.reduceLeDiff,Nat.reduceEqDiff,reduceCtorEq,↓reduceIte,tgX,clX,h5]
   refine callG.pc1 i1 ?_
   refine vms0 ?_
   (try refine ⟨by (try simp only [List.length_append,List.length_cons,List.length_nil]);omega,fun _=>?_⟩)
   refine callG.pc1 i2 ?_
   refine vms0 ?_
   (try refine ⟨by (try simp only [List.length_append,List.length_cons,List.length_nil]);omega,fun _=>?_⟩)
   refine endK.ret ?_ (by first | rfl | simp [bel_clX]);simp [evRes,getT,retV,Tryz.f74,tx,h5]
def fmtL (l:List Nd) (s:List UInt8) (e:Int):Prop:=e=checkP 1000000000 l∧((checkP 1000000000 l=0∧∃p,okP 1000000000 p∧l=flat p∧l.length≤24∧s=tx p)∨(checkP 1000000000 l≠0∧s=[]))
theorem pc36 (l:List Nd) (hl:l.length≤4000000) (s:List UInt8) (e:Int) (h:fmtL l s e):PC Tryz.prog 36 [slN l] (.tup [.str s,.int .i64 e]):=by
 obtain ⟨he,⟨hc,p,hp,hf,h24,hs⟩ | ⟨hc,hs⟩⟩:=h
 ·subst hf hs
  have i1:=pc74 p hp hl
  rw [encX] at i1
  refine PC.walk tok mixed cfg0 Tryz.func36 rfl Tryz.call36 (by simp [bel_clX]) (by first | rfl | simp [bel_clX]) ?_;refine vms1 Tryz.ntmps36 ?_
  refine callO.pc (wf_ok hp h24) ?_
  refine vms0 ?_
  refine callO.pc i1 ?_
  refine vms0 ?_
  refine endK.ret ?_ (by first | rfl | simp [bel_clX]);simp [evRes,getT,retV,Tryz.f36,he,hc]
 ·refine PC.walk tok mixed cfg0 Tryz.func36 rfl Tryz.call36 (by simp [bel_clX]) (by first | rfl | simp [bel_clX]) ?_;refine vms1 Tryz.ntmps36 ?_
  refine callO.pc (wf_no hl hc) ?_
  refine vms1 hc ?_
  refine endK.ret ?_ (by first | rfl | simp [bel_clX]);simp [evRes,getT,retV,Tryz.f36,he,hs]
end
section
def cfgS:Cfg:={ lv:=[],ef:=[13],ord:=[],em:=[],fl:=[6] }
def cfgP:Cfg:={ lv:=[],ef:=[17,20],ord:=[],em:=[],fl:=[6,8,11] }
def nice:Pr→Prop
 | .leaf x=>nN x=x.n
 | .un x p=>x=op0 6∧nice p
 | .bin x p q=>x.n=0∧nice p∧nice q
def nodF:Pr→Nat
 | .leaf _=>260
 | .un _ _=>258
 | .bin _ _ _=>259
def NodC (p:Pr):Prop:=∀(k:Nat) (l:List Nd),l.length+(flat p).length≤4000000 →
 GCall Tryz.prog (nodF p) [.agg (clX p),.buf 0 k 0 l.length 2] [.cells k (l.flatMap encN)] (.buf 0 (k+(flat p).length) 0 (l.length+(flat p).length) 2) [.cells (k+(flat p).length) ((l++flat p).flatMap encN)]
attribute [local push_cast] fmN fm0 take_N toN1 slN_nil encN slN cfg0 cfgS cfgP gfp_lenN gfd_lenN lfl_lenN V.rn rns qn setPs rnOs Ob.rn List.set_cons_zero List.size_toArray encX rn_clX List.flatMap_append
theorem nod_leaf (x:Nd) (h:nice (.leaf x)):NodC (.leaf x):=by
 intro k l hl
 rw [nice] at h
 simp only [flat,List.length_singleton] at hl ⊢
 refine GC.walk tok mixed cfg0 Tryz.func260 rfl Tryz.call260 ?_;refine vms1 Tryz.ntmps260 ?_
 simp (maxSteps:=2000000) -implicitDefEqProofs +contextual (disch:=first | assumption | omega | decide +kernel) only [push_cast,↓capI,seval,Nat.reduceLeDiff,Nat.reduceEqDiff,reduceCtorEq,↓reduceIte,clX,h]
 refine endG.ret ([_]) (by first | rfl | simp [fmN,fm0,bel_clX,fzs_ok,getO,setO,fzs,fz,fzH,Nat.beq,fmN,fm0,take_N,toN1,slN_nil,encN,slN,cfg0,cfgS,cfgP,get_flat_part lenN,get_flat_drop lenN,len_flat lenN,V.rn,rns,qn,setPs,rnOs,Ob.rn,List.set_cons_zero,List.size_toArray,encX,rn_clX,List.flatMap_append,belAll_append]) (by simp) (by simp [fmN,fm0,bel_clX,fzs_ok,imp,lenOK_iff,List.take_of_length_le,evRes,getT,getO,setO,fzs,fz,fzH,Nat.beq,retV,Res.then,ldT,ldR,mkV,getV,fmN,fm0,take_N,toN1,slN_nil,encN,slN,cfg0,cfgS,cfgP,get_flat_part lenN,get_flat_drop lenN,len_flat lenN,V.rn,rns,qn,setPs,rnOs,Ob.rn,List.set_cons_zero,List.size_toArray,encX,rn_clX,List.flatMap_append,Tryz.f260,belAll_append]) (by first | rfl | simp [fmN,fm0,bel_clX,belAll_append]) (by first | rfl | simp [fmN,fm0,bel_clX,belAll_append])
theorem mt192:MethAt Tryz.prog 192 "patchbay/pathexpr.nodes" 260:=methAt (by kernel_rfl)
theorem mt187:MethAt Tryz.prog 187 "patchbay/pathexpr.nodes" 258:=methAt (by kernel_rfl)
theorem mt190:MethAt Tryz.prog 190 "patchbay/pathexpr.nodes" 259:=methAt (by kernel_rfl)
theorem mtX (p:Pr):MethAt Tryz.prog (tgX p) "patchbay/pathexpr.nodes" (nodF p):=by
 cases p
 ·exact mt192
 ·exact mt187
 ·exact mt190
theorem rn_Ns {q:Nat→Nat} {l:List Nd}:rns q (l.flatMap encN)=l.flatMap encN:=rns_ok (bel_Ns l)
theorem rns_app {q:Nat→Nat}:∀ {a b:List V},rns q (a++b)=rns q a++rns q b
 | [],_=>rfl
 | x::a,b=>by rw [List.cons_append,rns,rns,List.cons_append,rns_app]
theorem fz_Ns {id ver:Nat} {c:List V} {l:List Nd}:fzs id ver c (l.flatMap encN)=l.flatMap encN:=fzs_lt _ (bel_Ns l)
theorem fz_clX {id ver:Nat} {c:List V} {p:Pr}:fzs id ver c (clX p)=clX p:=fzs_lt _ (bel_clX p)
theorem nod_un (x:Nd) (p:Pr) (h:nice (.un x p)) (ih:NodC p):NodC (.un x p):=by
 intro k l hl
 obtain ⟨rfl,hp⟩:=h
 simp only [flat,List.length_cons] at hl ⊢
 have i1:=ih (k+1) (l++[op0 6]) (by rw [List.length_append,List.length_singleton];omega)
 simp only [List.length_append,List.length_singleton] at i1
 refine GC.cutN tok mixed cfgS 0 Tryz.func258 rfl Tryz.call258 ?_
 simp (maxSteps:=2000000) -implicitDefEqProofs +contextual (disch:=first | assumption | omega | decide +kernel) only [push_cast,↓capI,seval,Nat.reduceLeDiff,Nat.reduceEqDiff,reduceCtorEq,↓reduceIte,Tryz.ntmps258,clX,cutAt_z,cutAt_s]
 refine cutK.gn (Gn.freeze (id:=1) rfl) (cutK.go (cfg:=cfgS) tok mixed ?_)
 simp (maxSteps:=2000000) -implicitDefEqProofs +contextual (disch:=first | assumption | omega | decide +kernel) only [push_cast,↓capI,seval,Nat.reduceLeDiff,Nat.reduceEqDiff,reduceCtorEq,↓reduceIte,fzs,fz,fzH,fz_Ns,fz_clX,setO,getO,Nat.beq,List.take_of_length_le,List.drop_zero,fzs_ok,clX]
 refine callI.of (mtX p) (callO.part0 [0] i1 (by decide) rfl (by simp [V.rn,rns,qn,rn_clX]) ⟨by simp [getO,rnOs,Ob.rn,rns_app,rn_Ns,fmN,fm0,encN,op0,List.flatMap_append,rns,V.rn],by simp,trivial⟩ ?_)
 simp (maxSteps:=2000000) -implicitDefEqProofs +contextual (disch:=first | assumption | omega | decide +kernel) only [push_cast,↓capI,seval,Nat.reduceLeDiff,Nat.reduceEqDiff,reduceCtorEq,↓reduceIte,rns_app,rn_Ns]
 refine endG.ret ([.dead]) (by first | rfl | simp [fmN,fm0,bel_clX,fzs_ok,getO,setO,fzs,fz,fzH,Nat.beq,fmN,fm0,take_N,toN1,slN_nil,encN,slN,cfg0,cfgS,cfgP,get_flat_part lenN,get_flat_drop lenN,len_flat lenN,V.rn,rns,qn,setPs,rnOs,Ob.rn,List.set_cons_zero,List.size_toArray,encX,rn_clX,List.flatMap_append,belAll_append,op0,encN,fmN,fm0,rn_Ns,rns_app,Nat.add_assoc,Nat.add_comm 1]) (by simp) (by simp [fmN,fm0,bel_clX,fzs_ok,imp,lenOK_iff,List.take_of_length_le,evRes,getT,getO,setO,fzs,fz,fzH,Nat.beq,retV,Res.then,ldT,ldR,mkV,getV,fmN,fm0,take_N,toN1,slN_nil,encN,slN,cfg0,cfgS,cfgP,get_flat_part lenN,get_flat_drop lenN,len_flat lenN,V.rn,rns,qn,setPs,rnOs,Ob.rn,List.set_cons_zero,List.size_toArray,encX,rn_clX,List.flatMap_append,Tryz.f258,belAll_append,op0,encN,fmN,fm0,rn_Ns,rns_app,Nat.add_assoc,Nat.add_comm 1]) (by first | rfl | simp [fmN,fm0,bel_clX,belAll_append,op0,encN,fmN,fm0,rn_Ns,rns_app,Nat.add_assoc,Nat.add_comm 1]) (by first | rfl | simp [fmN,fm0,bel_clX,belAll_append,op0,encN,fmN,fm0,rn_Ns,rns_app,Nat.add_assoc,Nat.add_comm 1])
theorem nod_bin (x:Nd) (p q:Pr) (h:nice (.bin x p q)) (ih:NodC p) (jh:NodC q):NodC (.bin x p q):=by
 intro k l hl
 obtain ⟨hx,hp,hq⟩:=h
 simp only [flat,List.length_cons,List.length_append] at hl ⊢
 have i1:=ih (k+1) (l++[x]) (by rw [List.length_append,List.length_singleton];omega)
 have i2:=jh (k+1+(flat p).length) (l++[x]++flat p) (by rw [List.length_append,List.length_append,List.length_singleton];omega)
 simp only [List.length_append,List.length_singleton] at i1 i2
 refine GC.cutN tok mixed cfgP 0 Tryz.func259 rfl Tryz.call259 ?_
 simp (maxSteps:=2000000) -implicitDefEqProofs +contextual (disch:=first | assumption | omega | decide +kernel) only [push_cast,↓capI,seval,Nat.reduceLeDiff,Nat.reduceEqDiff,reduceCtorEq,↓reduceIte,Tryz.ntmps259,clX,cutAt_z,cutAt_s]
 refine cutK.gn (Gn.freeze (id:=1) rfl) (cutK.go (cfg:=cfgP) tok mixed ?_)
 simp (maxSteps:=2000000) -implicitDefEqProofs +contextual (disch:=first | assumption | omega | decide +kernel) only [push_cast,↓capI,seval,Nat.reduceLeDiff,Nat.reduceEqDiff,reduceCtorEq,↓reduceIte,fzs,fz,fzH,fz_Ns,fz_clX,setO,getO,Nat.beq,List.take_of_length_le,List.drop_zero,fzs_ok,clX]
 refine callI.of (mtX p) (callO.part0 [0] i1 (by decide) rfl (by simp [V.rn,rns,qn,rn_clX]) ⟨by simp [getO,rnOs,Ob.rn,rns_app,rn_Ns,fmN,fm0,encN,op0,List.flatMap_append,rns,V.rn,hx],by simp,trivial⟩ ?_)
 simp (maxSteps:=2000000) -implicitDefEqProofs +contextual (disch:=first | assumption | omega | decide +kernel) only [push_cast,↓capI,seval,Nat.reduceLeDiff,Nat.reduceEqDiff,reduceCtorEq,↓reduceIte,rns_app,rn_Ns,hx]
 refine callI.of (mtX q) (callO.part0 [0] i2 (by decide) rfl (by simp [V.rn,rns,qn,rn_clX]) ⟨by simp [getO,rnOs,Ob.rn,rns_app,rn_Ns,fmN,fm0,encN,op0,List.flatMap_append,rns,V.rn,hx],by simp,trivial⟩ ?_)
 simp (maxSteps:=2000000) -implicitDefEqProofs +contextual (disch:=first | assumption | omega | decide +kernel) only [push_cast,↓capI,seval,Nat.reduceLeDiff,Nat.reduceEqDiff,reduceCtorEq,↓reduceIte,rns_app,rn_Ns,hx]
 refine endG.ret ([.dead]) (by first | rfl | simp [fmN,fm0,bel_clX,fzs_ok,getO,setO,fzs,fz,fzH,Nat.beq,fmN,fm0,take_N,toN1,slN_nil,encN,slN,cfg0,cfgS,cfgP,get_flat_part lenN,get_flat_drop lenN,len_flat lenN,V.rn,rns,qn,setPs,rnOs,Ob.rn,List.set_cons_zero,List.size_toArray,encX,rn_clX,List.flatMap_append,belAll_append,op0,encN,fmN,fm0,rn_Ns,rns_app,hx,Nat.add_assoc,Nat.add_comm 1]) (by simp) (by simp [fmN,fm0,bel_clX,fzs_ok,imp,lenOK_iff,List.take_of_length_le,evRes,getT,getO,setO,fzs,fz,fzH,Nat.beq,retV,Res.then,ldT,ldR,mkV,getV,fmN,fm0,take_N,toN1,slN_nil,encN,slN,cfg0,cfgS,cfgP,get_flat_part lenN,get_flat_drop lenN,len_flat lenN,V.rn,rns,qn,setPs,rnOs,Ob.rn,List.set_cons_zero,List.size_toArray,encX,rn_clX,List.flatMap_append,Tryz.f259,belAll_append,op0,encN,fmN,fm0,rn_Ns,rns_app,hx,Nat.add_assoc,Nat.add_comm 1]) (by first | rfl | simp [fmN,fm0,bel_clX,belAll_append,op0,encN,fmN,fm0,rn_Ns,rns_app,hx,Nat.add_assoc,Nat.add_comm 1]) (by first | rfl | simp [fmN,fm0,bel_clX,belAll_append,op0,encN,fmN,fm0,rn_Ns,rns_app,hx,Nat.add_assoc,Nat.add_comm 1])
theorem nod_all:∀p,nice p→NodC p
 | .leaf x,h=>nod_leaf x h
 | .un x p,h=>nod_un x p h (nod_all p h.2)
 | .bin x p q,h=>nod_bin x p q h (nod_all p h.2.1) (nod_all q h.2.2)
def slM (l:List Nd):V:=if l=[] then .sl true [] 0 else slN l
theorem slM_nil:slM []=.sl true [] 0:=rfl
@[simp] theorem bel_slM {n:Nat} (l:List Nd):(slM l).bel n=true:=by
 unfold slM
 split
 ·rfl
 ·exact bel_slN l
theorem slM_cons {l:List Nd} (h:l≠[]):slM l=slN l:=by rw [slM,if_neg h]
theorem flat_ne (p:Pr):flat p≠[]:=by
 have:=flat_pos p
 intro e
 rw [e] at this
 cases this
def parQ (s:List UInt8):PR→List Nd × Int
 | some (p,[])=>if 24<(flat p).length then ([],12) else if tx p=s then (flat p,0) else ([],23)
 | _=>([],5)
def parP (s:List UInt8):List Nd × Int:=if 16384<s.length then ([],4) else parQ s (pOr (s.length+1) s)
def encMI (r:List Nd × Int):V:=.tup [slM r.1,.int .i64 r.2]
@[simp] theorem bel_MI {n:Nat} {r:List Nd × Int}:(encMI r).bel n=true:=by simp [encMI,bel_tup,belAll_cons,belAll_nil,bel_slM,bel_int]
theorem lst_nice {nx:List UInt8→PR} (h:∀s p r,nx s=some (p,r)→nice p) {o:Int} {c:UInt8}:∀k x s p r,nice x→lst nx o c k x s=some (p,r)→nice p
 | 0,x,s,p,r,_,e=>by cases e
 | k+1,x,s,p,r,hx,e=>by
  rw [lst] at e
  split at e
  ·cases hn:nx (s.drop 1) with
   | none=>rw [hn] at e;cases e
   | some q =>
    obtain ⟨y,t⟩:=q
    rw [hn] at e
    exact lst_nice h k _ _ _ _ (show nice (.bin (op0 o) x y) from ⟨rfl,hx,h _ _ _ hn⟩) e
  ·cases e
   exact hx
theorem lstP_nice {nx:List UInt8→PR} (h:∀s p r,nx s=some (p,r)→nice p) {o:Int} {c:UInt8}:∀s p r,lstP nx o c s=some (p,r)→nice p:=by
 intro s p r e
 rw [lstP] at e
 cases hn:nx s with
 | none=>rw [hn] at e;cases e
 | some q =>
  obtain ⟨y,t⟩:=q
  rw [hn] at e
  exact lst_nice h _ _ _ _ _ (h _ _ _ hn) e
theorem strs_nice:∀k p s,nice p→nice (strs k p s).1
 | 0,p,s,h=>h
 | k+1,p,s,h=>by
  rw [strs]
  split
  ·exact strs_nice k _ _ (show nice (.un (op0 6) p) from ⟨rfl,h⟩)
  ·exact h
theorem pStr_nice {nx:List UInt8→PR} (h:∀s p r,nx s=some (p,r)→nice p):∀s p r,pStr nx s=some (p,r)→nice p:=by
 intro s p r e
 rw [pStr] at e
 cases hn:nx s with
 | none=>rw [hn] at e;cases e
 | some q =>
  obtain ⟨y,t⟩:=q
  rw [hn] at e
  have h2:=strs_nice (t.length+1) y t (h _ _ _ hn)
  simp only [Option.some.injEq] at e
  rw [e] at h2
  exact h2
theorem pAtm_nice:∀k s p r,pAtm k s=some (p,r)→nice p
 | 0,s,p,r,e=>by cases e
 | k+1,s,p,r,e=>by
  rw [pAtm] at e
  split at e
  ·cases e;rfl
  split at e
  ·cases e;rfl
  split at e
  ·cases hn:lstP (lstP (pStr (pAtm k)) 4 44) 5 124 (s.drop 1) with
   | none=>rw [hn] at e;cases e
   | some q =>
    obtain ⟨y,t⟩:=q
    rw [hn] at e
    simp only at e
    split at e
    ·cases e
     exact lstP_nice (lstP_nice (pStr_nice (pAtm_nice k))) _ _ _ hn
    ·cases e
  ·rw [pNumb] at e
   split at e
   ·cases e;rfl
   ·cases e
theorem pOr_nice (k:Nat):∀s p r,pOr k s=some (p,r)→nice p:=lstP_nice (lstP_nice (pStr_nice (pAtm_nice k)))
theorem nodes0 (p:Pr) (h:nice p) (hl:(flat p).length≤4000000):GCall Tryz.prog (nodF p) [.agg (clX p),.sl true [] 0] [] (.buf 0 (flat p).length 0 (flat p).length 2) [.cells (flat p).length ((flat p).flatMap encN)]:=by
 have:=nod_all p h 0 [] (by simpa using hl)
 simp only [List.length_nil,Nat.zero_add,List.nil_append,List.flatMap_nil] at this
 exact GCall.own (a:=[.agg (clX p)]) (b:=[]) this
end
section
theorem nodesJ (p:Pr) (h:nice p) (hl:(flat p).length≤4000000):PCJ Tryz.prog (nodF p) [.agg (clX p),.sl true [] 0] (.buf 0 (flat p).length 0 (flat p).length 2) [.cells (flat p).length ((flat p).flatMap encN)] :=
 GCall.frame (nodes0 p h hl) (by simp [fmN,fm0,bel_clX])
theorem sh_Ns {k:Nat} {l:List Nd}:shs k (l.flatMap encN)=l.flatMap encN:=shs_ok (bel_Ns l)
attribute [local push_cast] fmN fm0 take_N toN1 slN_nil encN slN cfg0 cfgS cfgP gfp_lenN gfd_lenN lfl_lenN V.rn rns qn setPs rnOs Ob.rn List.set_cons_zero List.size_toArray encX rn_clX List.flatMap_append
theorem pc49 (s:List UInt8):PC Tryz.prog 49 [.str s] (encMI (parP s)):=by
 by_cases h:16384<s.length
 ·have e:parP s=([],4):=by rw [parP,if_pos h]
  rw [e]
  refine PC.walk tok mixed cfg0 Tryz.func49 rfl Tryz.call49 (by simp [fmN,fm0,bel_clX]) (by first | rfl | simp [fmN,fm0,bel_clX]) ?_;refine vms1 Tryz.ntmps49 ?_
  refine endK.ret ?_ (by first | rfl | simp [fmN,fm0,bel_clX]);simp [evRes,getT,retV,Tryz.f49,encMI,slM_nil]
 have e:parP s=parQ s (pOr (s.length+1) s):=by rw [parP,if_neg h]
 rw [e]
 obtain ⟨p,r,g,hl,hr⟩:=pg36 s (by omega)
 rw [encX] at g
 have heat:=pOr_eats (s.length+1) s
 cases hx:pOr (s.length+1) s with
 | none =>
  rw [hx] at g
  refine PC.walk tok mixed cfg0 Tryz.func49 rfl Tryz.call49 (by simp [fmN,fm0,bel_clX]) (by first | rfl | simp [fmN,fm0,bel_clX]) ?_;refine vms1 Tryz.ntmps49 ?_
  refine callO.part0 [0] g (by decide) rfl rfl ⟨by rfl,by simp,trivial⟩ ?_
  refine vms0 ?_
  refine endK.ret ?_ (by first | rfl | simp [fmN,fm0,bel_clX]);simp [evRes,getT,retV,Tryz.f49,parQ,encMI,slM_nil]
 | some q =>
  obtain ⟨p1,t⟩:=q
  rw [hx] at g
  obtain ⟨e1,e2⟩:=hr p1 t hx
  subst e1 e2
  obtain ⟨hlen,hok⟩:=heat p _ hx
  have hni:=pOr_nice _ _ _ _ hx
  cases r with
  | cons c u =>
   have hne:(c::u=[])=False:=eq_false (List.cons_ne_nil _ _)
   refine PC.walk tok mixed cfg0 Tryz.func49 rfl Tryz.call49 (by simp [fmN,fm0,bel_clX]) (by first | rfl | simp [fmN,fm0,bel_clX]) ?_;refine vms1 Tryz.ntmps49 ?_
   refine callO.part0 [0] g (by decide) rfl rfl ⟨by rfl,by simp,trivial⟩ ?_
   refine vms1 hne ?_
   refine endK.ret ?_ (by first | rfl | simp [fmN,fm0,bel_clX]);simp [evRes,getT,retV,Tryz.f49,parQ,encMI,slM_nil]
  | nil =>
   have g2:=nodesJ p hni (by omega)
   by_cases h24:24<(flat p).length
   ·refine PC.walk tok mixed cfg0 Tryz.func49 rfl Tryz.call49 (by simp [fmN,fm0,bel_clX]) (by first | rfl | simp [fmN,fm0,bel_clX]) ?_;refine vms1 Tryz.ntmps49 ?_
    refine callO.part0 [0] g (by decide) rfl rfl ⟨by rfl,by simp,trivial⟩ ?_
    refine vms1 h24 ?_
    refine callI.of (mtX p) (callO.pcj g2 ?_)
    simp (maxSteps:=2000000) -implicitDefEqProofs +contextual (disch:=first | assumption | omega | decide +kernel) only [push_cast,↓capI,seval,Nat.reduceLeDiff,Nat.reduceEqDiff,reduceCtorEq,↓reduceIte,h24,V.sh,shOs,Ob.sh,sh_Ns]
    refine endK.ret ?_ (by first | rfl | simp [fmN,fm0,bel_clX]);simp [evRes,getT,retV,Tryz.f49,parQ,encMI,slM_nil,h24]
   ·have i1:=pc74 p hok (by omega)
    rw [encX] at i1
    have hsz:(flat p).length*2=((flat p).flatMap encN).length:=by rw [len_flat lenN]
    have htk:((flat p).flatMap encN).take ((flat p).length*2)=(flat p).flatMap encN:=take_N
    by_cases ht:tx p=s
    ·refine PC.walk tok mixed cfg0 Tryz.func49 rfl Tryz.call49 (by simp [fmN,fm0,bel_clX]) (by first | rfl | simp [fmN,fm0,bel_clX]) ?_;refine vms1 Tryz.ntmps49 ?_
     refine callO.part0 [0] g (by decide) rfl rfl ⟨by rfl,by simp,trivial⟩ ?_
     refine vms1 h24 ?_
     refine callI.of (mtX p) (callO.pcj g2 ?_)
     simp (maxSteps:=2000000) -implicitDefEqProofs +contextual (disch:=first | assumption | omega | decide +kernel) only [push_cast,↓capI,seval,Nat.reduceLeDiff,Nat.reduceEqDiff,reduceCtorEq,↓reduceIte,h24,V.sh,shOs,Ob.sh,sh_Ns]
     refine callO.pc i1 ?_
     refine vms1 ht ?_
     refine endK.gn (Gn.freeze (id:=1) rfl) ?_;refine endK.ret ?_ (by first | rfl | simp [fmN,fm0,bel_clX]);simp [fmN,fm0,bel_clX,fzs_ok,imp,lenOK_iff,List.take_of_length_le,evRes,getT,getO,setO,fzs,fz,fzH,Nat.beq,retV,Res.then,ldT,ldR,mkV,getV,fmN,fm0,take_N,toN1,slN_nil,encN,slN,cfg0,cfgS,cfgP,get_flat_part lenN,get_flat_drop lenN,len_flat lenN,V.rn,rns,qn,setPs,rnOs,Ob.rn,List.set_cons_zero,List.size_toArray,encX,rn_clX,List.flatMap_append,Tryz.f49,parQ,encMI,slM_cons (flat_ne p),h24,ht,slN,htk]
    ·refine PC.walk tok mixed cfg0 Tryz.func49 rfl Tryz.call49 (by simp [fmN,fm0,bel_clX]) (by first | rfl | simp [fmN,fm0,bel_clX]) ?_;refine vms1 Tryz.ntmps49 ?_
     refine callO.part0 [0] g (by decide) rfl rfl ⟨by rfl,by simp,trivial⟩ ?_
     refine vms1 h24 ?_
     refine callI.of (mtX p) (callO.pcj g2 ?_)
     simp (maxSteps:=2000000) -implicitDefEqProofs +contextual (disch:=first | assumption | omega | decide +kernel) only [push_cast,↓capI,seval,Nat.reduceLeDiff,Nat.reduceEqDiff,reduceCtorEq,↓reduceIte,h24,V.sh,shOs,Ob.sh,sh_Ns]
     refine callO.pc i1 ?_
     refine vms1 ht ?_
     refine endK.ret ?_ (by first | rfl | simp [fmN,fm0,bel_clX]);simp [evRes,getT,retV,Tryz.f49,parQ,encMI,slM_nil,h24,ht]
end
section
def decR (s:List UInt8):Nat × Bool:=if s.length<1∨9<s.length then (0,false) else match valL s 0 with
 | some v=>(v,true)
 | none=>(0,false)
def encDR (r:Nat × Bool):V:=.tup [.int .u64 r.1,.bool r.2]
@[simp] theorem bel_encDR {n:Nat} {r:Nat × Bool}:(encDR r).bel n=true:=rfl
@[simp] theorem bel_encIB {n:Nat} {r:Int × Bool}:(encIB r).bel n=true:=rfl
attribute [local push_cast] cfg0 take_rest ibeq_dec
theorem pc64a (n:Nat) (hn:n<10):PC Tryz.prog 79 [.int .u64 n] (.str [UInt8.ofNat (48+n)]):=by
 have hn2:(n:Int)<10:=by omega
 refine PC.walk tok mixed cfg0 Tryz.func79 rfl Tryz.call79 (by simp) (by first | rfl | simp) ?_;refine vms1 Tryz.ntmps79 ?_
 have t1:((48:Int)+(n:Int)).toNat=48+n:=by omega
 refine endK.retA ?_;simp [evRes,getT,retV,Tryz.f79,hn,t1]
theorem pc64g:∀(k n:Nat),n<10^k→1≤k→k≤12→PC Tryz.prog 79 [.int .u64 n] (.str (dgs k n))
 | 0,_,_,h,_=>absurd h (by decide)
 | k+1,n,hn,_,hk=>by
  rw [dgs]
  by_cases h:n<10
  ·rw [if_pos h]
   exact pc64a n h
  rw [if_neg h]
  have hk1:1≤k:=by
   apply Decidable.byContradiction
   intro h0
   have:k=0:=by omega
   subst this
   simp at hn
   omega
  have hp:10^(k+1)≤10^12:=Nat.pow_le_pow_right (by decide) hk
  have hn12:n<1000000000000:=Nat.lt_of_lt_of_le hn hp
  have ih:=pc64g k (n / 10) (by rw [Nat.pow_succ] at hn;omega) hk1 (by omega)
  have hl:=dgs_len k (n / 10)
  have hn2:¬(n:Int)<10:=by omega
  have e1:IntKind.u64.wrap ((n:Int).tdiv 10)=((n / 10:Nat):Int):=by
   rw [Int.tdiv_eq_ediv_of_nonneg (by omega)]
   exact IntWalk.u64_in _ ⟨by omega,by omega⟩
  have e2:(n:Int).tmod 10=((n % 10:Nat):Int):=by rw [Int.tmod_eq_emod_of_nonneg (by omega)];omega
  refine PC.walk tok mixed cfg0 Tryz.func79 rfl Tryz.call79 (by simp) (by first | rfl | simp) ?_;refine vms1 Tryz.ntmps79 ?_
  rw [e1]
  refine callO.pc ih ?_
  simp (maxSteps:=2000000) -implicitDefEqProofs +contextual (disch:=first | assumption | omega | decide +kernel) only [push_cast,↓capI,seval,Nat.reduceLeDiff,Nat.reduceEqDiff,reduceCtorEq,↓reduceIte,e2]
  refine callO.pc (pc64a (n % 10) (by omega)) ?_
  refine vms0 ?_
  (try refine ⟨by (try simp only [List.length_append,List.length_cons,List.length_nil]);omega,fun _=>?_⟩)
  refine endK.retA ?_;simp [evRes,getT,retV,Tryz.f79]
theorem pc50g (n:Nat) (hn:n<1000000000):PC Tryz.prog 45 [.int .i64 n] (.str (dgs 9 n)):=by
 have h0:(0:Int)≤(n:Int):=by omega
 refine PC.walk tok mixed cfg0 Tryz.func45 rfl Tryz.call45 (by simp) (by first | rfl | simp) ?_;refine vms1 Tryz.ntmps45 ?_
 refine callO.pc (pc64g 9 n hn (by decide) (by decide)) ?_
 refine vms0 ?_
 refine endK.retA ?_;simp [evRes,getT,retV,Tryz.f45]
theorem pc135 (s:List UInt8) (hs:s.length≤4000000000):PC Tryz.prog 135 [.str s,.int .i64 9] (encDR (decR s)):=by
 by_cases h:s.length<1∨9<s.length
 ·have e:decR s=(0,false):=by rw [decR,if_pos h]
  rw [e]
  rcases h with h | h
  ·refine PC.walk tok mixed cfg0 Tryz.func135 rfl Tryz.call135 (by simp) (by first | rfl | simp) ?_;refine vms1 Tryz.ntmps135 ?_
   (try refine vms1 h ?_)
   refine endK.retA ?_;simp [evRes,getT,retV,Tryz.f135,encDR]
  ·have h1:¬s.length<1:=by omega
   refine PC.walk tok mixed cfg0 Tryz.func135 rfl Tryz.call135 (by simp) (by first | rfl | simp) ?_;refine vms1 Tryz.ntmps135 ?_
   (try refine vms2 h h1 ?_)
   refine endK.retA ?_;simp [evRes,getT,retV,Tryz.f135,encDR]
 have e:decR s=match valL s 0 with | some v=>(v,true) | none=>(0,false):=by rw [decR,if_neg h]
 rw [e]
 have h1:¬s.length<1:=by omega
 have h9:¬9<s.length:=by omega
 refine PC.walk tok mixed cfg0 Tryz.func135 rfl Tryz.call135 (by simp) (by first | rfl | simp) ?_;refine vms1 Tryz.ntmps135 ?_
 (try refine vms2 h1 h9 ?_)
 refine T.lp tok mixed cfg0 (fun ((i,v):Nat × Nat)=>kp 1 (dd 5 (sv (.int .u64 (v:Int)) (sv (.int .i64 i) (dd 34 (nl)))))) (fun H0 ((i,v):Nat × Nat)=>H0) (fun ((i,v):Nat × Nat)=>i≤s.length∧v<10^i∧valL (s.drop i) v=valL s 0) (fun ((i,v):Nat × Nat)=>s.length-i) ((0,0)) ?_ ?_ ?_
 ·exact ⟨Nat.zero_le _,by simp,rfl⟩
 ·exact Gn.canon (J:=[]) (by first | rfl | (simp [List.append_nil];done) | (simp [List.append_nil];rfl)) (by simp [wk,putT,kp,dd,sv,nl]) (by simp [List.length_append]) (by simp [kp,dd,sv,nl]) (by simp)
 rintro ⟨i,v⟩ ⟨hi,hv,hr⟩
 have hv9:v<1000000000:=Nat.lt_of_lt_of_le hv (Nat.pow_le_pow_right (by omega) (by omega:i≤9))
 by_cases hlt:i<s.length
 case neg =>
  rw [List.drop_of_length_le (by omega),valL] at hr
  rw [←hr]
  refine vms0 ?_
  refine endK.retA ?_;simp [evRes,getT,retV,Tryz.f135,encDR]
 rw [List.drop_eq_getElem_cons hlt,valL] at hr
 have hgd:s.getD i 0=s[i]:=by rw [List.getD_eq_getElem?_getD,List.getElem?_eq_getElem hlt];rfl
 have hb:=s[i].toNat_lt
 cases hd:isDig s[i]
 case false =>
  rw [hd,if_neg (by simp)] at hr
  rw [←hr]
  simp only [isDig,Bool.and_eq_false_iff,decide_eq_false_iff_not] at hd
  by_cases h48:s[i].toNat<48
  ·refine vms2 hgd h48 ?_
   refine endK.retA ?_;simp [evRes,getT,retV,Tryz.f135,encDR]
  ·have h57:57<s[i].toNat:=by omega
   refine vms3 hgd h48 h57 ?_
   refine endK.retA ?_;simp [evRes,getT,retV,Tryz.f135,encDR]
 rw [hd,if_pos rfl] at hr
 simp only [isDig,Bool.and_eq_true,decide_eq_true_eq] at hd
 have h48:¬s[i].toNat<48:=by omega
 have h57:¬57<s[i].toNat:=by omega
 have hc:((s[i].toNat:Int)-48)=((s[i].toNat-48:Nat):Int):=by omega
 have hp:v*10+(s[i].toNat-48)<10^(i+1):=by
  rw [Nat.pow_succ]
  omega
 have hc9:s[i].toNat-48≤9:=by omega
 have hm:(10:Int)*(v:Int)=((v*10:Nat):Int):=by omega
 refine vms3 hgd h48 h57 ?_
 generalize s[i].toNat-48=c at hr hc hp hc9
 rw [hc]
 have hq:(10:Int)*(v:Int)+(c:Int)=(v:Int)*10+(c:Int):=by omega
 refine ⟨(i+1,v*10+c),⟨by simp only;omega,hp,hr⟩,by (try simp only);omega,?_⟩;exact Gn.canon (by first | rfl | (simp [List.append_nil,hq];rfl)) (by simp [wk,hq]) (by simp [List.length_append]) (by simp) (by simp)
end
section
theorem prec_top {sw:Int} {p:Pr} (hp:okP sw p):(3≤prec p↔¬((top p).op=4∨(top p).op=5))∧(2≤prec p↔¬(top p).op=5)∧1≤prec p:=by
 cases p with
 | leaf x =>
  obtain ⟨h,_⟩:=hp
  simp only [prec,top]
  omega
 | un x p =>
  obtain ⟨h,_⟩:=hp
  simp only [prec,top]
  omega
 | bin x p q =>
  obtain ⟨h,_⟩:=hp
  simp only [prec,top]
  by_cases h5:x.op=5
  ·rw [if_pos h5]
   omega
  ·rw [if_neg h5]
   omega
attribute [local push_cast] fmN fm0 take_N toN1 slN_nil encN slN cfg0 gfp_lenN gfd_lenN lfl_lenN
theorem pc123 (l:List Nd) (a:Nat) (p:Pr) (r:List Nd) (y z:Int) (h:l.drop a=flat p++r) (hm:l.length≤4000000) (hpc:PC Tryz.prog 78 [slN l,.int .i64 a] (.str (tx p))) :
  PC Tryz.prog 123 [slN l,.int .i64 a,.int .i64 y,.int .i64 z] (.str (if (top p).op=y∨(top p).op=z then [40]++tx p++[41] else tx p)):=by
 obtain ⟨t,ht⟩:=flat_top p
 rw [ht,List.cons_append] at h
 obtain ⟨hlt,hX,_⟩:=drop_cons h
 have t1:=tx_len p
 have hn:=congrArg List.length h
 rw [List.length_drop,←List.cons_append,←ht,List.length_append] at hn
 by_cases hy:(top p).op=y
 ·rw [if_pos (.inl hy)]
  refine PC.walk tok mixed cfg0 Tryz.func123 rfl Tryz.call123 (by simp [fmN,fm0]) (by first | rfl | simp [fmN,fm0]) ?_;refine vms1 Tryz.ntmps123 ?_
  refine vms2 hX hy ?_
  refine callO.pc hpc ?_
  refine vms0 ?_
  (try refine ⟨by (try simp only [List.length_append,List.length_cons,List.length_nil]);omega,fun _=>?_⟩)
  (try refine vms0 ?_)
  (try refine ⟨by (try simp only [List.length_append,List.length_cons,List.length_nil]);omega,fun _=>?_⟩)
  refine endK.ret ?_ (by first | rfl | simp [fmN,fm0]);simp [evRes,getT,retV,Tryz.f123]
 by_cases hz:(top p).op=z
 ·rw [if_pos (.inr hz)]
  refine PC.walk tok mixed cfg0 Tryz.func123 rfl Tryz.call123 (by simp [fmN,fm0]) (by first | rfl | simp [fmN,fm0]) ?_;refine vms1 Tryz.ntmps123 ?_
  refine vms3 hX hy hz ?_
  refine callO.pc hpc ?_
  refine vms0 ?_
  (try refine ⟨by (try simp only [List.length_append,List.length_cons,List.length_nil]);omega,fun _=>?_⟩)
  (try refine vms0 ?_)
  (try refine ⟨by (try simp only [List.length_append,List.length_cons,List.length_nil]);omega,fun _=>?_⟩)
  refine endK.ret ?_ (by first | rfl | simp [fmN,fm0]);simp [evRes,getT,retV,Tryz.f123]
 ·rw [if_neg (fun g=>g.elim hy hz)]
  refine PC.walk tok mixed cfg0 Tryz.func123 rfl Tryz.call123 (by simp [fmN,fm0]) (by first | rfl | simp [fmN,fm0]) ?_;refine vms1 Tryz.ntmps123 ?_
  refine vms3 hX hy hz ?_
  refine callO.pc hpc ?_
  refine vms0 ?_
  refine endK.ret ?_ (by first | rfl | simp [fmN,fm0]);simp [evRes,getT,retV,Tryz.f123]
theorem in3 {sw:Int} {p:Pr} (hp:okP sw p):(if (top p).op=4∨(top p).op=5 then [40]++tx p++[41] else tx p)=inn (prec p) 3 (tx p):=by
 have:=(prec_top hp).1
 unfold inn
 by_cases h:(top p).op=4∨(top p).op=5
 ·rw [if_pos h,if_pos (by omega)]
 ·rw [if_neg h,if_neg (by omega)]
theorem in2 {sw:Int} {p:Pr} (hp:okP sw p):(if (top p).op=5∨(top p).op=5 then [40]++tx p++[41] else tx p)=inn (prec p) 2 (tx p):=by
 have:=(prec_top hp).2.1
 unfold inn
 by_cases h:(top p).op=5
 ·rw [if_pos (.inl h),if_pos (by omega)]
 ·rw [if_neg (fun g=>g.elim h h),if_neg (by omega)]
theorem in1 {sw:Int} {p:Pr} (hp:okP sw p):inn (prec p) 1 (tx p)=tx p:=by
 have:=(prec_top hp).2.2
 rw [inn,if_neg (by omega)]
theorem pc78 (l:List Nd) (hm:l.length≤4000000):∀(p:Pr) (a:Nat) (r:List Nd),okP 1000000000 p→l.drop a=flat p++r→PC Tryz.prog 78 [slN l,.int .i64 a] (.str (tx p))
 | .leaf x,a,r,hp,hl=>by
  have hok:=ok_leaf hp
  obtain ⟨h0,hc⟩:=hp
  obtain ⟨hlt,hX,h2⟩:=drop_cons (x:=x) (r:=r) hl
  rcases h0 with h | h | h
  ·refine PC.walk tok mixed cfg0 Tryz.func78 rfl Tryz.call78 (by simp [fmN,fm0]) (by first | rfl | simp [fmN,fm0]) ?_;refine vms1 Tryz.ntmps78 ?_
   refine vms2 hX h ?_
   refine endK.ret ?_ (by first | rfl | simp [fmN,fm0]);simp [evRes,getT,retV,Tryz.f78,tx,h]
  ·refine PC.walk tok mixed cfg0 Tryz.func78 rfl Tryz.call78 (by simp [fmN,fm0]) (by first | rfl | simp [fmN,fm0]) ?_;refine vms1 Tryz.ntmps78 ?_
   refine vms2 hX h ?_
   refine endK.ret ?_ (by first | rfl | simp [fmN,fm0]);simp [evRes,getT,retV,Tryz.f78,tx,h]
  ·obtain ⟨b1,b2⟩:=hok h
   have hf:=pc50g x.n.toNat (by omega)
   rw [Int.toNat_of_nonneg b1] at hf
   refine PC.walk tok mixed cfg0 Tryz.func78 rfl Tryz.call78 (by simp [fmN,fm0]) (by first | rfl | simp [fmN,fm0]) ?_;refine vms1 Tryz.ntmps78 ?_
   refine vms2 hX h ?_
   refine callO.pc hf ?_
   refine vms0 ?_
   refine endK.ret ?_ (by first | rfl | simp [fmN,fm0]);simp [evRes,getT,retV,Tryz.f78,tx,h]
 | .un x p,a,r,hp,hl=>by
  obtain ⟨h4,hp⟩:=hp
  obtain ⟨hlt,hX,h2⟩:=drop_cons (x:=x) (r:=flat p++r) (by rw [hl,flat,List.cons_append])
  have i1:=pc123 l (a+1) p r 4 5 h2 hm (pc78 l hm p (a+1) r hp h2)
  rw [show ((a+1:Nat):Int)=a+1 from rfl,in3 hp] at i1
  have hn:=drop_len hlt h2
  have ht:=tx_len p
  have hn:=inn_len (prec p) 3 (tx p)
  refine PC.walk tok mixed cfg0 Tryz.func78 rfl Tryz.call78 (by simp [fmN,fm0]) (by first | rfl | simp [fmN,fm0]) ?_;refine vms1 Tryz.ntmps78 ?_
  refine vms2 hX h4 ?_
  refine callO.pc i1 ?_
  refine vms0 ?_
  (try refine ⟨by (try simp only [List.length_append,List.length_cons,List.length_nil]);omega,fun _=>?_⟩)
  refine endK.ret ?_ (by first | rfl | simp [fmN,fm0]);simp [evRes,getT,retV,Tryz.f78,tx]
 | .bin x p q,a,r,hp,hl=>by
  obtain ⟨h4,hp,hq⟩:=hp
  obtain ⟨hlt,hX,h2⟩:=drop_cons (x:=x) (r:=flat p++(flat q++r)) (by rw [hl,flat,List.cons_append,List.append_assoc])
  have j1:=pc78 l hm p (a+1) _ hp h2
  have j2:=pc78 l hm q (a+1+(flat p).length) r hq (drop_app h2)
  have i3:=end40 p l (a+1) _ hp h2 hlt hm
  have hn:=drop_len hlt h2
  have hn2:=drop_len (by omega) (drop_app h2)
  have hnn:(flat p).length≤4000000:=by omega
  have t1:=tx_len p
  have t2:=tx_len q
  have n1:=inn_len (prec p) 2 (tx p)
  have n2:=inn_len (prec p) 1 (tx p)
  have n3:=inn_len (prec q) 2 (tx q)
  have n4:=inn_len (prec q) 3 (tx q)
  rcases h4 with h | h
  ·have i1:=pc123 l (a+1) p _ 5 5 h2 hm j1
   have i2:=pc123 l (a+1+(flat p).length) q _ 4 5 (drop_app h2) hm j2
   rw [in2 hp] at i1
   rw [in3 hq] at i2
   rw [show ((a+1+(flat p).length:Nat):Int)=(a:Int)+1+((flat p).length:Nat) by omega] at i2
   rw [show ((a+1:Nat):Int)=a+1 from rfl] at i1 i3
   refine PC.walk tok mixed cfg0 Tryz.func78 rfl Tryz.call78 (by simp [fmN,fm0]) (by first | rfl | simp [fmN,fm0]) ?_;refine vms1 Tryz.ntmps78 ?_
   refine vms2 hX h ?_
   refine callO.pc i1 ?_
   refine vms0 ?_
   (try refine ⟨by (try simp only [List.length_append,List.length_cons,List.length_nil]);omega,fun _=>?_⟩)
   refine callO.pc i3 ?_
   refine vms0 ?_
   refine callO.pc i2 ?_
   refine vms0 ?_
   (try refine ⟨by (try simp only [List.length_append,List.length_cons,List.length_nil]);omega,fun _=>?_⟩)
   refine endK.ret ?_ (by first | rfl | simp [fmN,fm0]);simp [evRes,getT,retV,Tryz.f78,tx,h]
  ·have i2:=pc123 l (a+1+(flat p).length) q _ 5 5 (drop_app h2) hm j2
   rw [in2 hq] at i2
   rw [show ((a+1+(flat p).length:Nat):Int)=(a:Int)+1+((flat p).length:Nat) by omega] at i2
   rw [show ((a+1:Nat):Int)=a+1 from rfl] at j1 i3
   refine PC.walk tok mixed cfg0 Tryz.func78 rfl Tryz.call78 (by simp [fmN,fm0]) (by first | rfl | simp [fmN,fm0]) ?_;refine vms1 Tryz.ntmps78 ?_
   refine vms2 hX h ?_
   refine callO.pc j1 ?_
   refine vms0 ?_
   (try refine ⟨by (try simp only [List.length_append,List.length_cons,List.length_nil]);omega,fun _=>?_⟩)
   refine callO.pc i3 ?_
   refine vms0 ?_
   refine callO.pc i2 ?_
   refine vms0 ?_
   (try refine ⟨by (try simp only [List.length_append,List.length_cons,List.length_nil]);omega,fun _=>?_⟩)
   refine endK.ret ?_ (by first | rfl | simp [fmN,fm0]);simp [evRes,getT,retV,Tryz.f78,tx,h,in1 hp]
end
section
theorem valL_app:∀(a b:List UInt8) (v:Nat),valL (a++b) v=(valL a v).bind (valL b)
 | [],b,v=>rfl
 | c::a,b,v=>by
  rw [List.cons_append,valL,valL]
  by_cases h:isDig c=true
  ·rw [if_pos h,if_pos h,valL_app a b]
  ·rw [if_neg h,if_neg h];rfl
theorem valL_all:∀ {d:List UInt8} (v:Nat),(∀c,c ∈ d→isDig c=true)→∃r,valL d v=some r∧v≤r
 | [],v,_=>⟨v,rfl,Nat.le_refl _⟩
 | c::d,v,h=>by
  rw [valL,if_pos (h c (List.mem_cons_self ..))]
  obtain ⟨r,h1,h2⟩:=valL_all (v*10+(c.toNat-48)) (fun c hc=>h c (List.mem_cons_of_mem _ hc))
  exact ⟨r,h1,by omega⟩
theorem dig_range {c:UInt8} (h:isDig c=true):48≤c.toNat∧c.toNat≤57:=by
 simpa only [isDig,Bool.and_eq_true,decide_eq_true_eq] using h
theorem dgs_val:∀(k:Nat) (d:List UInt8) (v:Nat),d≠[]→d.length≤k→(∀c,c ∈ d→isDig c=true)→canonD d=true→valL d 0=some v→dgs k v=d
 | 0,d,v,h,hl,_,_,_=>absurd (List.length_eq_zero_iff.1 (Nat.le_zero.1 hl)) h
 | k+1,d,v,h,hl,hd,hc,hv=>by
  obtain ⟨e,c,rfl⟩:∃e c,d=e++[c]:=⟨d.dropLast,d.getLast h,(List.dropLast_concat_getLast h).symm⟩
  have hcd:=dig_range (hd c (by simp))
  rw [List.length_append,List.length_singleton] at hl
  obtain ⟨u,hu,_⟩:=valL_all (d:=e) 0 (fun x hx=>hd x (by simp [hx]))
  have e1:v=u*10+(c.toNat-48):=by
   rw [valL_app,hu] at hv
   simp only [Option.bind_some] at hv
   rw [valL,if_pos (hd c (by simp)),valL] at hv
   exact (Option.some.inj hv).symm
  cases e with
  | nil =>
   rw [valL] at hu
   have hu0:=Option.some.inj hu
   have hv10:v<10:=by omega
   rw [dgs,if_pos hv10,List.nil_append]
   congr 1
   apply UInt8.toNat_inj.1
   rw [UInt8.toNat_ofNat']
   omega
  | cons x e =>
   have hx:=dig_range (hd x (by simp))
   have hx48:x.toNat≠48:=by
    simp only [canonD,List.cons_append,List.length_cons,List.length_append,List.length_singleton,Bool.or_eq_true,decide_eq_true_eq,Bool.and_eq_true,List.getD_cons_zero,bne_iff_ne] at hc
    rcases hc with hc | hc
    ·omega
    ·have:=hc.2
     omega
   obtain ⟨w,hw,hge⟩:=valL_all (d:=e) (0*10+(x.toNat-48)) (fun y hy=>hd y (by simp [hy]))
   have hu1:1≤u:=by
    rw [valL,if_pos (hd x (by simp)),hw] at hu
    have:=Option.some.inj hu
    omega
   have hcan:canonD (x::e)=true:=by
    simp only [canonD,Bool.or_eq_true,decide_eq_true_eq,Bool.and_eq_true,List.getD_cons_zero,bne_iff_ne]
    exact .inr ⟨List.cons_ne_nil _ _,by omega⟩
   have ih:=dgs_val k (x::e) u (List.cons_ne_nil _ _) (by omega) (fun y hy=>hd y (by rw [List.mem_append];exact .inl hy)) hcan hu
   rw [dgs,if_neg (by omega),show v / 10=u by omega,ih]
   congr 2
   apply UInt8.toNat_inj.1
   rw [UInt8.toNat_ofNat']
   omega
theorem dgs_head:∀k v,v<10^k→1≤k→dgs k v≠[]∧((dgs k v).length=1∨((dgs k v).getD 0 0).toNat≠48)∧(1≤v→((dgs k v).getD 0 0).toNat≠48)
 | 0,_,_,h=>absurd h (by decide)
 | k+1,v,hv,_=>by
  rw [dgs]
  by_cases h:v<10
  ·rw [if_pos h]
   refine ⟨List.cons_ne_nil _ _,.inl rfl,fun h1=>?_⟩
   rw [List.getD_cons_zero,UInt8.toNat_ofNat']
   omega
  ·rw [if_neg h]
   have hk1:1≤k:=by
    apply Decidable.byContradiction
    intro h0
    have:k=0:=by omega
    subst this
    simp at hv
    omega
   obtain ⟨i1,_,i3⟩:=dgs_head k (v / 10) (by rw [Nat.pow_succ] at hv;omega) hk1
   have i3:=i3 (by omega)
   cases hq:dgs k (v / 10) with
   | nil=>exact absurd hq i1
   | cons y l =>
    rw [hq,List.getD_cons_zero] at i3
    exact ⟨List.cons_ne_nil _ _,.inr i3,fun _=>i3⟩
theorem dgs_canon (v:Nat) (hv:v<1000000000):canonD (dgs 9 v)=true:=by
 obtain ⟨h1,h2,_⟩:=dgs_head 9 v hv (by decide)
 simp only [canonD,Bool.or_eq_true,decide_eq_true_eq,Bool.and_eq_true,bne_iff_ne]
 rcases h2 with h | h
 ·exact .inl h
 ·exact .inr ⟨h1,by omega⟩
attribute [local push_cast] cfg0 take_rest ibeq_dec encDR
theorem pc86 (d:List UInt8) (hs:d.length≤4000000000) (hd:∀c,c ∈ d→isDig c=true):PC Tryz.prog 86 [.str d] (encIB (parseI d)):=by
 have hnm:=no_minus hd
 have h109:=pc135 d hs
 obtain ⟨v,hv,_⟩:=valL_all (d:=d) 0 hd
 have ep:parseI d=if 9<d.length∨canonD d=false then (0,false) else ((v:Int),true):=by
  rw [parseI,if_neg (by rw [hnm];simp),hv]
 have ed:decR d=if d.length<1∨9<d.length then (0,false) else (v,true):=by
  rw [decR,hv]
 have h45:∀h:0<d.length,¬((d.getD 0 0).toNat:Int)=45:=by
  intro h
  cases d with
  | nil=>cases h
  | cons x d =>
   have:=dig_range (hd x (List.mem_cons_self ..))
   rw [List.getD_cons_zero]
   omega
 rw [ep]
 by_cases hl:d.length<1∨9<d.length
 ·have e2:(9<d.length∨canonD d=false):=by
   rcases hl with h | h
   ·right
    have:d=[]:=List.length_eq_zero_iff.1 (by omega)
    rw [this]
    rfl
   ·exact .inl h
  rw [if_pos e2]
  rw [ed,if_pos hl] at h109
  by_cases h0:0<d.length
  ·have h45:=h45 h0
   refine PC.walk tok mixed cfg0 Tryz.func86 rfl Tryz.call86 (by simp) (by first | rfl | simp) ?_;simp (maxSteps:=2000000) -implicitDefEqProofs +contextual (disch:=first | assumption | omega | decide +kernel) only [push_cast,↓capI,seval,Nat.reduceLeDiff,Nat.reduceEqDiff,reduceCtorEq,↓reduceIte,Tryz.ntmps86]
   (try simp (maxSteps:=2000000) -implicitDefEqProofs +contextual (disch:=first | assumption | omega | decide +kernel) only [push_cast,↓capI,seval,Nat.reduceLeDiff,Nat.reduceEqDiff,reduceCtorEq,↓reduceIte,h0,h45])
   refine callO.pc h109 ?_
   simp (maxSteps:=2000000) -implicitDefEqProofs +contextual (disch:=first | assumption | omega | decide +kernel) only [push_cast,↓capI,seval,Nat.reduceLeDiff,Nat.reduceEqDiff,reduceCtorEq,↓reduceIte]
   refine endK.retA ?_;simp [evRes,getT,retV,Tryz.f86,encIB]
  ·refine PC.walk tok mixed cfg0 Tryz.func86 rfl Tryz.call86 (by simp) (by first | rfl | simp) ?_;simp (maxSteps:=2000000) -implicitDefEqProofs +contextual (disch:=first | assumption | omega | decide +kernel) only [push_cast,↓capI,seval,Nat.reduceLeDiff,Nat.reduceEqDiff,reduceCtorEq,↓reduceIte,Tryz.ntmps86]
   (try simp (maxSteps:=2000000) -implicitDefEqProofs +contextual (disch:=first | assumption | omega | decide +kernel) only [push_cast,↓capI,seval,Nat.reduceLeDiff,Nat.reduceEqDiff,reduceCtorEq,↓reduceIte,h0])
   refine callO.pc h109 ?_
   simp (maxSteps:=2000000) -implicitDefEqProofs +contextual (disch:=first | assumption | omega | decide +kernel) only [push_cast,↓capI,seval,Nat.reduceLeDiff,Nat.reduceEqDiff,reduceCtorEq,↓reduceIte]
   refine endK.retA ?_;simp [evRes,getT,retV,Tryz.f86,encIB]
 rw [ed,if_neg hl] at h109
 have h0:0<d.length:=by omega
 have h45:=h45 h0
 have hv9:v<1000000000:=by
  have:=valL_lt hv
  have hp:10^d.length≤10^9:=Nat.pow_le_pow_right (by omega) (by omega)
  omega
 have h50:=pc50g v hv9
 have hne:d≠[]:=fun e=>by rw [e] at h0;cases h0
 cases hc:canonD d
 ·rw [if_pos (.inr rfl)]
  have hn:¬dgs 9 v=d:=by
   intro e
   rw [←e,dgs_canon v hv9] at hc
   cases hc
  refine PC.walk tok mixed cfg0 Tryz.func86 rfl Tryz.call86 (by simp) (by first | rfl | simp) ?_;simp (maxSteps:=2000000) -implicitDefEqProofs +contextual (disch:=first | assumption | omega | decide +kernel) only [push_cast,↓capI,seval,Nat.reduceLeDiff,Nat.reduceEqDiff,reduceCtorEq,↓reduceIte,Tryz.ntmps86]
  (try simp (maxSteps:=2000000) -implicitDefEqProofs +contextual (disch:=first | assumption | omega | decide +kernel) only [push_cast,↓capI,seval,Nat.reduceLeDiff,Nat.reduceEqDiff,reduceCtorEq,↓reduceIte,h0,h45])
  refine callO.pc h109 ?_
  simp (maxSteps:=2000000) -implicitDefEqProofs +contextual (disch:=first | assumption | omega | decide +kernel) only [push_cast,↓capI,seval,Nat.reduceLeDiff,Nat.reduceEqDiff,reduceCtorEq,↓reduceIte]
  refine callO.pc h50 ?_
  simp (maxSteps:=2000000) -implicitDefEqProofs +contextual (disch:=first | assumption | omega | decide +kernel) only [push_cast,↓capI,seval,Nat.reduceLeDiff,Nat.reduceEqDiff,reduceCtorEq,↓reduceIte,hn]
  refine endK.retA ?_;simp [evRes,getT,retV,Tryz.f86,encIB]
 ·rw [if_neg (fun g=>g.elim (fun h=>by omega) (fun h=>by cases h))]
  have he:dgs 9 v=d:=dgs_val 9 d v hne (by omega) hd hc hv
  refine PC.walk tok mixed cfg0 Tryz.func86 rfl Tryz.call86 (by simp) (by first | rfl | simp) ?_;simp (maxSteps:=2000000) -implicitDefEqProofs +contextual (disch:=first | assumption | omega | decide +kernel) only [push_cast,↓capI,seval,Nat.reduceLeDiff,Nat.reduceEqDiff,reduceCtorEq,↓reduceIte,Tryz.ntmps86]
  (try simp (maxSteps:=2000000) -implicitDefEqProofs +contextual (disch:=first | assumption | omega | decide +kernel) only [push_cast,↓capI,seval,Nat.reduceLeDiff,Nat.reduceEqDiff,reduceCtorEq,↓reduceIte,h0,h45])
  refine callO.pc h109 ?_
  simp (maxSteps:=2000000) -implicitDefEqProofs +contextual (disch:=first | assumption | omega | decide +kernel) only [push_cast,↓capI,seval,Nat.reduceLeDiff,Nat.reduceEqDiff,reduceCtorEq,↓reduceIte]
  refine callO.pc h50 ?_
  simp (maxSteps:=2000000) -implicitDefEqProofs +contextual (disch:=first | assumption | omega | decide +kernel) only [push_cast,↓capI,seval,Nat.reduceLeDiff,Nat.reduceEqDiff,reduceCtorEq,↓reduceIte,he]
  refine endK.retA ?_;simp [evRes,getT,retV,Tryz.f86,encIB]
end
section
end
end Go.Proofs.YtlbmbbaefncleaaGreatDoor.Px

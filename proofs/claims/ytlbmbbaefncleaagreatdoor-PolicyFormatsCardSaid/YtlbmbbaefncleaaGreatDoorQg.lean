/-
  Joined by a program from the texts PxFmt3 PxFmt4 PxTxt PxPar PxPars PxRnum PxTxt2 PxRnum2 PxFrm.
-/
import Derived.Test.YtlbmbbaefncleaaGreatDoorQf
import Derived.Test.YtlbmbbaefncleaaGreatDoorNi
import Derived.Test.YtlbmbbaefncleaaGreatDoorQe
set_option maxRecDepth 100000
set_option maxHeartbeats 4000000
set_option linter.all false
namespace Go.Proofs.YtlbmbbaefncleaaGreatDoor.Px
open Go.Vm
section
def dc (m:Nat):V:=.int .u8 ((48+m:Nat):Int)
@[simp] theorem bel_dc {n m:Nat}:(dc m).bel n=true:=rfl
theorem u32_two {m:Nat} (h:m<100):IntKind.u32.wrap ((m:Int)*2)=(m:Int)*2:=u32_id (by omega)
theorem u32_one {m:Nat} (h:m<100):IntKind.u32.wrap ((m:Int)*2+1)=(m:Int)*2+1:=u32_id (by omega)
theorem nat_two {m:Nat}:((m:Int)*2).toNat=m*2:=by omega
theorem nat_one {m:Nat}:((m:Int)*2+1).toNat=m*2+1:=by omega
theorem u32_48 {m:Nat} (h:m<100):IntKind.u32.wrap (48+(m:Int))=48+(m:Int):=u32_id (by omega)
theorem u8_48 {m:Nat} (h:m<100):IntKind.u8.wrap (48+(m:Int))=48+(m:Int):=u8_id (by omega)
attribute [local push_cast] cfg0 take_rest ibeq_dec V.rn rns qn setPs rnOs Ob.rn gl0 glV List.map V.st List.set_cons_zero List.size_toArray
theorem g80_3 (a A n:Nat) (hA:A<100) (ha:a<10) (hn:n=a*100+A):GCall Tryz.prog 183 [.buf 0 0 1 3 1,.int .u64 n] [.cells 0 z24] (.tup []) [.cells 0 ([.int .u8 0,dc a,dc (A / 10),dc (A % 10)]++List.replicate 20 (.int .u8 0))]:=by
 have hn9:n<1000000000:=by omega
 have hx:True:=trivial
 have r1:IntKind.u32.wrap ((n:Nat):Int)=((n:Nat):Int):=by exact u32_id (by omega)
 have r2:((n:Nat):Int).tmod 100=((A:Nat):Int):=by rw [Int.tmod_eq_emod_of_nonneg (by omega)];omega
 have r3:((n:Nat):Int).tdiv 100=((a:Nat):Int):=by rw [Int.tdiv_eq_ediv_of_nonneg (by omega)];omega
 have wA:IntKind.u32.wrap ((A:Nat):Int)=((A:Nat):Int):=by exact u32_id (by omega)
 have wa:IntKind.u32.wrap ((a:Nat):Int)=((a:Nat):Int):=by exact u32_id (by omega)
 unfold z24
 simp only [List.replicate]
 refine GC.walk tok mixed cfg0 Tryz.func183 rfl Tryz.call183 ?_;refine vms1 Tryz.ntmps183 ?_
 refine T.lp tok mixed cfg0 (fun (j:Nat)=>kp 1 (sv (.int .u64 n) (dd 2 (sv (.int .i64 3) (dd 162 (nl)))))) (fun H0 (j:Nat)=>[.cells 0 z24]) (fun (j:Nat)=>j=0) (fun (j:Nat)=>0) (0) ?_ ?_ ?_
 ·rfl
 ·unfold z24
  simp only [List.replicate]
  exact Gn.canon (J:=[]) (by first | rfl | (simp [List.append_nil];done) | (simp [List.append_nil];rfl)) (by simp [wk,putT,kp,dd,sv,nl]) (by simp [List.length_append]) (by simp [kp,dd,sv,nl]) (by simp)
 rintro j rfl
 unfold z24
 simp only [List.replicate]
 simp (maxSteps:=2000000) -implicitDefEqProofs +contextual (disch:=first | assumption | omega | decide +kernel) only [push_cast,↓capI,seval,Nat.reduceLeDiff,Nat.reduceEqDiff,reduceCtorEq,↓reduceIte,r1,r2,r3,wA,wa,u32_two,u32_one,nat_two,nat_one,u32_48,u8_48,bigA,bigB,bigL]
 refine endG.normal ([]) (by first | rfl | simp [fzs_ok,getO,setO,fzs,fz,fzH,Nat.beq,tt_3,tt_4,tt_5,tt_9,tt_128,tt_200,tt_203,tt_205,tt_231,tt_327,tt_251,tt_2,tt_71,tt_246,tt_299,cfg0,take_rest,ibeq_dec,V.rn,rns,qn,setPs,rnOs,Ob.rn,gl0,glV,List.map,V.st,List.set_cons_zero,List.size_toArray,dc,List.replicate,hx]) (by simp) (by simp [fzs_ok,imp,lenOK_iff,List.take_of_length_le,evRes,getT,getO,setO,fzs,fz,fzH,Nat.beq,retV,Res.then,ldT,ldR,mkV,getV,tt_3,tt_4,tt_5,tt_9,tt_128,tt_200,tt_203,tt_205,tt_231,tt_327,tt_251,tt_2,tt_71,tt_246,tt_299,cfg0,take_rest,ibeq_dec,V.rn,rns,qn,setPs,rnOs,Ob.rn,gl0,glV,List.map,V.st,List.set_cons_zero,List.size_toArray,Tryz.f183,dc,List.replicate,hx]) (by first | rfl | simp [dc,List.replicate,hx]) (by first | rfl | simp [dc,List.replicate,hx])
theorem g80_4 (B A n:Nat) (hA:A<100) (hB:B<100) (hn:n=B*100+A):GCall Tryz.prog 183 [.buf 0 0 1 4 1,.int .u64 n] [.cells 0 z24] (.tup []) [.cells 0 ([.int .u8 0,dc (B / 10),dc (B % 10),dc (A / 10),dc (A % 10)]++List.replicate 19 (.int .u8 0))]:=by
 have hn9:n<1000000000:=by omega
 obtain ⟨y,hy⟩:∃y,y=B*100+A:=⟨_,rfl⟩
 obtain ⟨x,hx⟩:∃x,x=0:=⟨_,rfl⟩
 have r1:IntKind.u32.wrap ((n:Nat):Int)=((n:Nat):Int):=by exact u32_id (by omega)
 have r2:((n:Nat):Int).tmod 10000=((y:Nat):Int):=by rw [Int.tmod_eq_emod_of_nonneg (by omega)];omega
 have r3:((n:Nat):Int).tdiv 10000=((x:Nat):Int):=by rw [Int.tdiv_eq_ediv_of_nonneg (by omega)];omega
 have r4:((y:Nat):Int).tdiv 100=((B:Nat):Int):=by rw [Int.tdiv_eq_ediv_of_nonneg (by omega)];omega
 have r5:((y:Nat):Int).tmod 100=((A:Nat):Int):=by rw [Int.tmod_eq_emod_of_nonneg (by omega)];omega
 have r6:IntKind.u32.wrap ((x:Nat):Int)=((x:Nat):Int):=by exact u32_id (by omega)
 have r7:IntKind.u32.wrap ((y:Nat):Int)=((y:Nat):Int):=by exact u32_id (by omega)
 have wA:IntKind.u32.wrap ((A:Nat):Int)=((A:Nat):Int):=by exact u32_id (by omega)
 have wB:IntKind.u32.wrap ((B:Nat):Int)=((B:Nat):Int):=by exact u32_id (by omega)
 unfold z24
 simp only [List.replicate]
 refine GC.walk tok mixed cfg0 Tryz.func183 rfl Tryz.call183 ?_;refine vms1 Tryz.ntmps183 ?_
 refine T.lp tok mixed cfg0 (fun (j:Nat)=>kp 1 (sv (.int .u64 n) (dd 2 (sv (.int .i64 4) (dd 162 (nl)))))) (fun H0 (j:Nat)=>[.cells 0 z24]) (fun (j:Nat)=>j=0) (fun (j:Nat)=>0) (0) ?_ ?_ ?_
 ·rfl
 ·unfold z24
  simp only [List.replicate]
  exact Gn.canon (J:=[]) (by first | rfl | (simp [List.append_nil];done) | (simp [List.append_nil];rfl)) (by simp [wk,putT,kp,dd,sv,nl]) (by simp [List.length_append]) (by simp [kp,dd,sv,nl]) (by simp)
 rintro j rfl
 unfold z24
 simp only [List.replicate]
 simp (maxSteps:=2000000) -implicitDefEqProofs +contextual (disch:=first | assumption | omega | decide +kernel) only [push_cast,↓capI,seval,Nat.reduceLeDiff,Nat.reduceEqDiff,reduceCtorEq,↓reduceIte,r1,r2,r3,r4,r5,r6,r7,wA,wB,u32_two,u32_one,nat_two,nat_one,u32_48,u8_48,bigA,bigB,bigL]
 refine endG.normal ([]) (by first | rfl | simp [fzs_ok,getO,setO,fzs,fz,fzH,Nat.beq,tt_3,tt_4,tt_5,tt_9,tt_128,tt_200,tt_203,tt_205,tt_231,tt_327,tt_251,tt_2,tt_71,tt_246,tt_299,cfg0,take_rest,ibeq_dec,V.rn,rns,qn,setPs,rnOs,Ob.rn,gl0,glV,List.map,V.st,List.set_cons_zero,List.size_toArray,dc,List.replicate,hx]) (by simp) (by simp [fzs_ok,imp,lenOK_iff,List.take_of_length_le,evRes,getT,getO,setO,fzs,fz,fzH,Nat.beq,retV,Res.then,ldT,ldR,mkV,getV,tt_3,tt_4,tt_5,tt_9,tt_128,tt_200,tt_203,tt_205,tt_231,tt_327,tt_251,tt_2,tt_71,tt_246,tt_299,cfg0,take_rest,ibeq_dec,V.rn,rns,qn,setPs,rnOs,Ob.rn,gl0,glV,List.map,V.st,List.set_cons_zero,List.size_toArray,Tryz.f183,dc,List.replicate,hx]) (by first | rfl | simp [dc,List.replicate,hx]) (by first | rfl | simp [dc,List.replicate,hx])
theorem g80_5 (a B A n:Nat) (hA:A<100) (hB:B<100) (ha:a<10) (hn:n=a*10000+B*100+A):GCall Tryz.prog 183 [.buf 0 0 1 5 1,.int .u64 n] [.cells 0 z24] (.tup []) [.cells 0 ([.int .u8 0,dc a,dc (B / 10),dc (B % 10),dc (A / 10),dc (A % 10)]++List.replicate 18 (.int .u8 0))]:=by
 have hn9:n<1000000000:=by omega
 obtain ⟨y,hy⟩:∃y,y=B*100+A:=⟨_,rfl⟩
 obtain ⟨x,hx⟩:∃x,x=a:=⟨_,rfl⟩
 have r1:IntKind.u32.wrap ((n:Nat):Int)=((n:Nat):Int):=by exact u32_id (by omega)
 have r2:((n:Nat):Int).tmod 10000=((y:Nat):Int):=by rw [Int.tmod_eq_emod_of_nonneg (by omega)];omega
 have r3:((n:Nat):Int).tdiv 10000=((x:Nat):Int):=by rw [Int.tdiv_eq_ediv_of_nonneg (by omega)];omega
 have r4:((y:Nat):Int).tdiv 100=((B:Nat):Int):=by rw [Int.tdiv_eq_ediv_of_nonneg (by omega)];omega
 have r5:((y:Nat):Int).tmod 100=((A:Nat):Int):=by rw [Int.tmod_eq_emod_of_nonneg (by omega)];omega
 have r6:IntKind.u32.wrap ((x:Nat):Int)=((x:Nat):Int):=by exact u32_id (by omega)
 have r7:IntKind.u32.wrap ((y:Nat):Int)=((y:Nat):Int):=by exact u32_id (by omega)
 have wA:IntKind.u32.wrap ((A:Nat):Int)=((A:Nat):Int):=by exact u32_id (by omega)
 have wB:IntKind.u32.wrap ((B:Nat):Int)=((B:Nat):Int):=by exact u32_id (by omega)
 have wa:IntKind.u32.wrap ((a:Nat):Int)=((a:Nat):Int):=by exact u32_id (by omega)
 unfold z24
 simp only [List.replicate]
 refine GC.walk tok mixed cfg0 Tryz.func183 rfl Tryz.call183 ?_;refine vms1 Tryz.ntmps183 ?_
 refine T.lp tok mixed cfg0 (fun (j:Nat)=>kp 1 (sv (.int .u64 n) (dd 2 (sv (.int .i64 5) (dd 162 (nl)))))) (fun H0 (j:Nat)=>[.cells 0 z24]) (fun (j:Nat)=>j=0) (fun (j:Nat)=>0) (0) ?_ ?_ ?_
 ·rfl
 ·unfold z24
  simp only [List.replicate]
  exact Gn.canon (J:=[]) (by first | rfl | (simp [List.append_nil];done) | (simp [List.append_nil];rfl)) (by simp [wk,putT,kp,dd,sv,nl]) (by simp [List.length_append]) (by simp [kp,dd,sv,nl]) (by simp)
 rintro j rfl
 unfold z24
 simp only [List.replicate]
 simp (maxSteps:=2000000) -implicitDefEqProofs +contextual (disch:=first | assumption | omega | decide +kernel) only [push_cast,↓capI,seval,Nat.reduceLeDiff,Nat.reduceEqDiff,reduceCtorEq,↓reduceIte,r1,r2,r3,r4,r5,r6,r7,wA,wB,wa,u32_two,u32_one,nat_two,nat_one,u32_48,u8_48,bigA,bigB,bigL]
 refine endG.normal ([]) (by first | rfl | simp [fzs_ok,getO,setO,fzs,fz,fzH,Nat.beq,tt_3,tt_4,tt_5,tt_9,tt_128,tt_200,tt_203,tt_205,tt_231,tt_327,tt_251,tt_2,tt_71,tt_246,tt_299,cfg0,take_rest,ibeq_dec,V.rn,rns,qn,setPs,rnOs,Ob.rn,gl0,glV,List.map,V.st,List.set_cons_zero,List.size_toArray,dc,List.replicate,hx]) (by simp) (by simp [fzs_ok,imp,lenOK_iff,List.take_of_length_le,evRes,getT,getO,setO,fzs,fz,fzH,Nat.beq,retV,Res.then,ldT,ldR,mkV,getV,tt_3,tt_4,tt_5,tt_9,tt_128,tt_200,tt_203,tt_205,tt_231,tt_327,tt_251,tt_2,tt_71,tt_246,tt_299,cfg0,take_rest,ibeq_dec,V.rn,rns,qn,setPs,rnOs,Ob.rn,gl0,glV,List.map,V.st,List.set_cons_zero,List.size_toArray,Tryz.f183,dc,List.replicate,hx]) (by first | rfl | simp [dc,List.replicate,hx]) (by first | rfl | simp [dc,List.replicate,hx])
theorem g80_6 (C B A n:Nat) (hA:A<100) (hB:B<100) (hC:C<100) (hn:n=C*10000+B*100+A):GCall Tryz.prog 183 [.buf 0 0 1 6 1,.int .u64 n] [.cells 0 z24] (.tup []) [.cells 0 ([.int .u8 0,dc (C / 10),dc (C % 10),dc (B / 10),dc (B % 10),dc (A / 10),dc (A % 10)]++List.replicate 17 (.int .u8 0))]:=by
 have hn9:n<1000000000:=by omega
 obtain ⟨y,hy⟩:∃y,y=B*100+A:=⟨_,rfl⟩
 obtain ⟨x,hx⟩:∃x,x=C:=⟨_,rfl⟩
 have r1:IntKind.u32.wrap ((n:Nat):Int)=((n:Nat):Int):=by exact u32_id (by omega)
 have r2:((n:Nat):Int).tmod 10000=((y:Nat):Int):=by rw [Int.tmod_eq_emod_of_nonneg (by omega)];omega
 have r3:((n:Nat):Int).tdiv 10000=((x:Nat):Int):=by rw [Int.tdiv_eq_ediv_of_nonneg (by omega)];omega
 have r4:((y:Nat):Int).tdiv 100=((B:Nat):Int):=by rw [Int.tdiv_eq_ediv_of_nonneg (by omega)];omega
 have r5:((y:Nat):Int).tmod 100=((A:Nat):Int):=by rw [Int.tmod_eq_emod_of_nonneg (by omega)];omega
 have r6:IntKind.u32.wrap ((x:Nat):Int)=((x:Nat):Int):=by exact u32_id (by omega)
 have r7:IntKind.u32.wrap ((y:Nat):Int)=((y:Nat):Int):=by exact u32_id (by omega)
 have wA:IntKind.u32.wrap ((A:Nat):Int)=((A:Nat):Int):=by exact u32_id (by omega)
 have wB:IntKind.u32.wrap ((B:Nat):Int)=((B:Nat):Int):=by exact u32_id (by omega)
 have r8:((x:Nat):Int).tmod 100=((C:Nat):Int):=by rw [Int.tmod_eq_emod_of_nonneg (by omega)];omega
 have r9:((x:Nat):Int).tdiv 100=((0:Nat):Int):=by rw [Int.tdiv_eq_ediv_of_nonneg (by omega)];omega
 have wC:IntKind.u32.wrap ((C:Nat):Int)=((C:Nat):Int):=by exact u32_id (by omega)
 unfold z24
 simp only [List.replicate]
 refine GC.walk tok mixed cfg0 Tryz.func183 rfl Tryz.call183 ?_;refine vms1 Tryz.ntmps183 ?_
 refine T.lp tok mixed cfg0 (fun (j:Nat)=>kp 1 (sv (.int .u64 n) (dd 2 (sv (.int .i64 6) (dd 162 (nl)))))) (fun H0 (j:Nat)=>[.cells 0 z24]) (fun (j:Nat)=>j=0) (fun (j:Nat)=>0) (0) ?_ ?_ ?_
 ·rfl
 ·unfold z24
  simp only [List.replicate]
  exact Gn.canon (J:=[]) (by first | rfl | (simp [List.append_nil];done) | (simp [List.append_nil];rfl)) (by simp [wk,putT,kp,dd,sv,nl]) (by simp [List.length_append]) (by simp [kp,dd,sv,nl]) (by simp)
 rintro j rfl
 unfold z24
 simp only [List.replicate]
 simp (maxSteps:=2000000) -implicitDefEqProofs +contextual (disch:=first | assumption | omega | decide +kernel) only [push_cast,↓capI,seval,Nat.reduceLeDiff,Nat.reduceEqDiff,reduceCtorEq,↓reduceIte,r1,r2,r3,r4,r5,r6,r7,wA,wB,r8,r9,wC,u32_two,u32_one,nat_two,nat_one,u32_48,u8_48,bigA,bigB,bigL]
 refine endG.normal ([]) (by first | rfl | simp [fzs_ok,getO,setO,fzs,fz,fzH,Nat.beq,tt_3,tt_4,tt_5,tt_9,tt_128,tt_200,tt_203,tt_205,tt_231,tt_327,tt_251,tt_2,tt_71,tt_246,tt_299,cfg0,take_rest,ibeq_dec,V.rn,rns,qn,setPs,rnOs,Ob.rn,gl0,glV,List.map,V.st,List.set_cons_zero,List.size_toArray,dc,List.replicate,hx]) (by simp) (by simp [fzs_ok,imp,lenOK_iff,List.take_of_length_le,evRes,getT,getO,setO,fzs,fz,fzH,Nat.beq,retV,Res.then,ldT,ldR,mkV,getV,tt_3,tt_4,tt_5,tt_9,tt_128,tt_200,tt_203,tt_205,tt_231,tt_327,tt_251,tt_2,tt_71,tt_246,tt_299,cfg0,take_rest,ibeq_dec,V.rn,rns,qn,setPs,rnOs,Ob.rn,gl0,glV,List.map,V.st,List.set_cons_zero,List.size_toArray,Tryz.f183,dc,List.replicate,hx]) (by first | rfl | simp [dc,List.replicate,hx]) (by first | rfl | simp [dc,List.replicate,hx])
theorem g80_7 (a C B A n:Nat) (hA:A<100) (hB:B<100) (hC:C<100) (ha:a<10) (hn:n=a*1000000+C*10000+B*100+A):GCall Tryz.prog 183 [.buf 0 0 1 7 1,.int .u64 n] [.cells 0 z24] (.tup []) [.cells 0 ([.int .u8 0,dc a,dc (C / 10),dc (C % 10),dc (B / 10),dc (B % 10),dc (A / 10),dc (A % 10)]++List.replicate 16 (.int .u8 0))]:=by
 have hn9:n<1000000000:=by omega
 obtain ⟨y,hy⟩:∃y,y=B*100+A:=⟨_,rfl⟩
 obtain ⟨x,hx⟩:∃x,x=a*100+C:=⟨_,rfl⟩
 have r1:IntKind.u32.wrap ((n:Nat):Int)=((n:Nat):Int):=by exact u32_id (by omega)
 have r2:((n:Nat):Int).tmod 10000=((y:Nat):Int):=by rw [Int.tmod_eq_emod_of_nonneg (by omega)];omega
 have r3:((n:Nat):Int).tdiv 10000=((x:Nat):Int):=by rw [Int.tdiv_eq_ediv_of_nonneg (by omega)];omega
 have r4:((y:Nat):Int).tdiv 100=((B:Nat):Int):=by rw [Int.tdiv_eq_ediv_of_nonneg (by omega)];omega
 have r5:((y:Nat):Int).tmod 100=((A:Nat):Int):=by rw [Int.tmod_eq_emod_of_nonneg (by omega)];omega
 have r6:IntKind.u32.wrap ((x:Nat):Int)=((x:Nat):Int):=by exact u32_id (by omega)
 have r7:IntKind.u32.wrap ((y:Nat):Int)=((y:Nat):Int):=by exact u32_id (by omega)
 have wA:IntKind.u32.wrap ((A:Nat):Int)=((A:Nat):Int):=by exact u32_id (by omega)
 have wB:IntKind.u32.wrap ((B:Nat):Int)=((B:Nat):Int):=by exact u32_id (by omega)
 have r8:((x:Nat):Int).tmod 100=((C:Nat):Int):=by rw [Int.tmod_eq_emod_of_nonneg (by omega)];omega
 have r9:((x:Nat):Int).tdiv 100=((a:Nat):Int):=by rw [Int.tdiv_eq_ediv_of_nonneg (by omega)];omega
 have wC:IntKind.u32.wrap ((C:Nat):Int)=((C:Nat):Int):=by exact u32_id (by omega)
 have wa:IntKind.u32.wrap ((a:Nat):Int)=((a:Nat):Int):=by exact u32_id (by omega)
 unfold z24
 simp only [List.replicate]
 refine GC.walk tok mixed cfg0 Tryz.func183 rfl Tryz.call183 ?_;refine vms1 Tryz.ntmps183 ?_
 refine T.lp tok mixed cfg0 (fun (j:Nat)=>kp 1 (sv (.int .u64 n) (dd 2 (sv (.int .i64 7) (dd 162 (nl)))))) (fun H0 (j:Nat)=>[.cells 0 z24]) (fun (j:Nat)=>j=0) (fun (j:Nat)=>0) (0) ?_ ?_ ?_
 ·rfl
 ·unfold z24
  simp only [List.replicate]
  exact Gn.canon (J:=[]) (by first | rfl | (simp [List.append_nil];done) | (simp [List.append_nil];rfl)) (by simp [wk,putT,kp,dd,sv,nl]) (by simp [List.length_append]) (by simp [kp,dd,sv,nl]) (by simp)
 rintro j rfl
 unfold z24
 simp only [List.replicate]
 simp (maxSteps:=2000000) -implicitDefEqProofs +contextual (disch:=first | assumption | omega | decide +kernel) only [push_cast,↓capI,seval,Nat.reduceLeDiff,Nat.reduceEqDiff,reduceCtorEq,↓reduceIte,r1,r2,r3,r4,r5,r6,r7,wA,wB,r8,r9,wC,wa,u32_two,u32_one,nat_two,nat_one,u32_48,u8_48,bigA,bigB,bigL]
 refine endG.normal ([]) (by first | rfl | simp [fzs_ok,getO,setO,fzs,fz,fzH,Nat.beq,tt_3,tt_4,tt_5,tt_9,tt_128,tt_200,tt_203,tt_205,tt_231,tt_327,tt_251,tt_2,tt_71,tt_246,tt_299,cfg0,take_rest,ibeq_dec,V.rn,rns,qn,setPs,rnOs,Ob.rn,gl0,glV,List.map,V.st,List.set_cons_zero,List.size_toArray,dc,List.replicate,hx]) (by simp) (by simp [fzs_ok,imp,lenOK_iff,List.take_of_length_le,evRes,getT,getO,setO,fzs,fz,fzH,Nat.beq,retV,Res.then,ldT,ldR,mkV,getV,tt_3,tt_4,tt_5,tt_9,tt_128,tt_200,tt_203,tt_205,tt_231,tt_327,tt_251,tt_2,tt_71,tt_246,tt_299,cfg0,take_rest,ibeq_dec,V.rn,rns,qn,setPs,rnOs,Ob.rn,gl0,glV,List.map,V.st,List.set_cons_zero,List.size_toArray,Tryz.f183,dc,List.replicate,hx]) (by first | rfl | simp [dc,List.replicate,hx]) (by first | rfl | simp [dc,List.replicate,hx])
theorem g80_8 (D C B A n:Nat) (hA:A<100) (hB:B<100) (hC:C<100) (hD:D<100) (hn:n=D*1000000+C*10000+B*100+A):GCall Tryz.prog 183 [.buf 0 0 1 8 1,.int .u64 n] [.cells 0 z24] (.tup []) [.cells 0 ([.int .u8 0,dc (D / 10),dc (D % 10),dc (C / 10),dc (C % 10),dc (B / 10),dc (B % 10),dc (A / 10),dc (A % 10)]++List.replicate 15 (.int .u8 0))]:=by
 have hn9:n<1000000000:=by omega
 obtain ⟨q,hq⟩:∃q,q=n % 100000000:=⟨_,rfl⟩
 have hq2:q=D*1000000+C*10000+B*100+A:=by omega
 obtain ⟨x,hx⟩:∃x,x=D*100+C:=⟨_,rfl⟩
 obtain ⟨y,hy⟩:∃y,y=B*100+A:=⟨_,rfl⟩
 have r1:((n:Nat):Int).tmod 100000000=((q:Nat):Int):=by rw [Int.tmod_eq_emod_of_nonneg (by omega)];omega
 have r2:((n:Nat):Int).tdiv 100000000=((0:Nat):Int):=by rw [Int.tdiv_eq_ediv_of_nonneg (by omega)];omega
 have r3:IntKind.u32.wrap ((q:Nat):Int)=((q:Nat):Int):=by exact u32_id (by omega)
 have r4:((q:Nat):Int).tdiv 10000=((x:Nat):Int):=by rw [Int.tdiv_eq_ediv_of_nonneg (by omega)];omega
 have r5:((q:Nat):Int).tmod 10000=((y:Nat):Int):=by rw [Int.tmod_eq_emod_of_nonneg (by omega)];omega
 have r6:((y:Nat):Int).tdiv 100=((B:Nat):Int):=by rw [Int.tdiv_eq_ediv_of_nonneg (by omega)];omega
 have r7:((y:Nat):Int).tmod 100=((A:Nat):Int):=by rw [Int.tmod_eq_emod_of_nonneg (by omega)];omega
 have r8:((x:Nat):Int).tdiv 100=((D:Nat):Int):=by rw [Int.tdiv_eq_ediv_of_nonneg (by omega)];omega
 have r9:((x:Nat):Int).tmod 100=((C:Nat):Int):=by rw [Int.tmod_eq_emod_of_nonneg (by omega)];omega
 have r10:IntKind.u32.wrap ((x:Nat):Int)=((x:Nat):Int):=by exact u32_id (by omega)
 have r11:IntKind.u32.wrap ((y:Nat):Int)=((y:Nat):Int):=by exact u32_id (by omega)
 have wA:IntKind.u32.wrap ((A:Nat):Int)=((A:Nat):Int):=by exact u32_id (by omega)
 have wB:IntKind.u32.wrap ((B:Nat):Int)=((B:Nat):Int):=by exact u32_id (by omega)
 have wC:IntKind.u32.wrap ((C:Nat):Int)=((C:Nat):Int):=by exact u32_id (by omega)
 have wD:IntKind.u32.wrap ((D:Nat):Int)=((D:Nat):Int):=by exact u32_id (by omega)
 unfold z24
 simp only [List.replicate]
 refine GC.walk tok mixed cfg0 Tryz.func183 rfl Tryz.call183 ?_;refine vms1 Tryz.ntmps183 ?_
 refine T.lp tok mixed cfg0 (fun (j:Nat)=>kp 1 (sv (.int .u64 (if j=1 then ((0:Nat):Int) else ((n:Nat):Int))) (dd 2 (sv (.int .i64 (if j=1 then 0 else 8)) (dd 162 (nl)))))) (fun H0 (j:Nat)=>[.cells 0 (if j=1 then [.int .u8 0,dc (D / 10),dc (D % 10),dc (C / 10),dc (C % 10),dc (B / 10),dc (B % 10),dc (A / 10),dc (A % 10)]++List.replicate 15 (.int .u8 0) else z24)]) (fun (j:Nat)=>j≤1) (fun (j:Nat)=>1-j) (0) ?_ ?_ ?_
 ·exact Nat.zero_le _
 ·unfold z24
  simp only [List.replicate,Nat.zero_ne_one,if_false]
  exact Gn.canon (J:=[]) (by first | rfl | (simp [List.append_nil];done) | (simp [List.append_nil];rfl)) (by simp [wk,putT,kp,dd,sv,nl]) (by simp [List.length_append]) (by simp [kp,dd,sv,nl]) (by simp)
 intro j hj
 rcases (by omega:j=0∨j=1) with rfl | rfl
 ·unfold z24
  simp only [List.replicate,Nat.zero_ne_one,if_false]
  simp (maxSteps:=2000000) -implicitDefEqProofs +contextual (disch:=first | assumption | omega | decide +kernel) only [push_cast,↓capI,seval,Nat.reduceLeDiff,Nat.reduceEqDiff,reduceCtorEq,↓reduceIte,r1,r2,r3,r4,r5,r6,r7,r8,r9,r10,r11,wA,wB,wC,wD,u32_two,u32_one,nat_two,nat_one,u32_48,u8_48,bigA,bigB,bigL]
  refine ⟨1,by omega,by (try simp only);omega,?_⟩;exact Gn.canon (by first | rfl | (simp [List.append_nil,dc,List.replicate,hx];rfl)) (by simp [wk,dc,List.replicate,hx]) (by simp [List.length_append]) (by simp) (by simp)
 ·simp only [List.replicate,if_true,List.cons_append,List.nil_append]
  simp (maxSteps:=2000000) -implicitDefEqProofs +contextual (disch:=first | assumption | omega | decide +kernel) only [push_cast,↓capI,seval,Nat.reduceLeDiff,Nat.reduceEqDiff,reduceCtorEq,↓reduceIte,r1,r2,r3,r4,r5,r6,r7,r8,r9,r10,r11,wA,wB,wC,wD,u32_two,u32_one,nat_two,nat_one,u32_48,u8_48,bigA,bigB,bigL]
  refine endG.normal ([]) (by first | rfl | simp [fzs_ok,getO,setO,fzs,fz,fzH,Nat.beq,tt_3,tt_4,tt_5,tt_9,tt_128,tt_200,tt_203,tt_205,tt_231,tt_327,tt_251,tt_2,tt_71,tt_246,tt_299,cfg0,take_rest,ibeq_dec,V.rn,rns,qn,setPs,rnOs,Ob.rn,gl0,glV,List.map,V.st,List.set_cons_zero,List.size_toArray,dc,List.replicate,hx]) (by simp) (by simp [fzs_ok,imp,lenOK_iff,List.take_of_length_le,evRes,getT,getO,setO,fzs,fz,fzH,Nat.beq,retV,Res.then,ldT,ldR,mkV,getV,tt_3,tt_4,tt_5,tt_9,tt_128,tt_200,tt_203,tt_205,tt_231,tt_327,tt_251,tt_2,tt_71,tt_246,tt_299,cfg0,take_rest,ibeq_dec,V.rn,rns,qn,setPs,rnOs,Ob.rn,gl0,glV,List.map,V.st,List.set_cons_zero,List.size_toArray,Tryz.f183,dc,List.replicate,hx]) (by first | rfl | simp [dc,List.replicate,hx]) (by first | rfl | simp [dc,List.replicate,hx])
theorem g80_9 (a D C B A n:Nat) (hA:A<100) (hB:B<100) (hC:C<100) (hD:D<100) (ha:a<10) (hn:n=a*100000000+D*1000000+C*10000+B*100+A):GCall Tryz.prog 183 [.buf 0 0 1 9 1,.int .u64 n] [.cells 0 z24] (.tup []) [.cells 0 ([.int .u8 0,dc a,dc (D / 10),dc (D % 10),dc (C / 10),dc (C % 10),dc (B / 10),dc (B % 10),dc (A / 10),dc (A % 10)]++List.replicate 14 (.int .u8 0))]:=by
 have hn9:n<1000000000:=by omega
 obtain ⟨q,hq⟩:∃q,q=n % 100000000:=⟨_,rfl⟩
 have hq2:q=D*1000000+C*10000+B*100+A:=by omega
 obtain ⟨x,hx⟩:∃x,x=D*100+C:=⟨_,rfl⟩
 obtain ⟨y,hy⟩:∃y,y=B*100+A:=⟨_,rfl⟩
 have r1:((n:Nat):Int).tmod 100000000=((q:Nat):Int):=by rw [Int.tmod_eq_emod_of_nonneg (by omega)];omega
 have r2:((n:Nat):Int).tdiv 100000000=((a:Nat):Int):=by rw [Int.tdiv_eq_ediv_of_nonneg (by omega)];omega
 have r3:IntKind.u32.wrap ((q:Nat):Int)=((q:Nat):Int):=by exact u32_id (by omega)
 have r4:((q:Nat):Int).tdiv 10000=((x:Nat):Int):=by rw [Int.tdiv_eq_ediv_of_nonneg (by omega)];omega
 have r5:((q:Nat):Int).tmod 10000=((y:Nat):Int):=by rw [Int.tmod_eq_emod_of_nonneg (by omega)];omega
 have r6:((y:Nat):Int).tdiv 100=((B:Nat):Int):=by rw [Int.tdiv_eq_ediv_of_nonneg (by omega)];omega
 have r7:((y:Nat):Int).tmod 100=((A:Nat):Int):=by rw [Int.tmod_eq_emod_of_nonneg (by omega)];omega
 have r8:((x:Nat):Int).tdiv 100=((D:Nat):Int):=by rw [Int.tdiv_eq_ediv_of_nonneg (by omega)];omega
 have r9:((x:Nat):Int).tmod 100=((C:Nat):Int):=by rw [Int.tmod_eq_emod_of_nonneg (by omega)];omega
 have r10:IntKind.u32.wrap ((x:Nat):Int)=((x:Nat):Int):=by exact u32_id (by omega)
 have r11:IntKind.u32.wrap ((y:Nat):Int)=((y:Nat):Int):=by exact u32_id (by omega)
 have wA:IntKind.u32.wrap ((A:Nat):Int)=((A:Nat):Int):=by exact u32_id (by omega)
 have wB:IntKind.u32.wrap ((B:Nat):Int)=((B:Nat):Int):=by exact u32_id (by omega)
 have wC:IntKind.u32.wrap ((C:Nat):Int)=((C:Nat):Int):=by exact u32_id (by omega)
 have wD:IntKind.u32.wrap ((D:Nat):Int)=((D:Nat):Int):=by exact u32_id (by omega)
 have wa:IntKind.u32.wrap ((a:Nat):Int)=((a:Nat):Int):=by exact u32_id (by omega)
 have wa6:IntKind.u64.wrap ((a:Nat):Int)=((a:Nat):Int):=by exact IntWalk.u64_in _ ⟨by omega,by omega⟩
 unfold z24
 simp only [List.replicate]
 refine GC.walk tok mixed cfg0 Tryz.func183 rfl Tryz.call183 ?_;refine vms1 Tryz.ntmps183 ?_
 refine T.lp tok mixed cfg0 (fun (j:Nat)=>kp 1 (sv (.int .u64 (if j=1 then ((a:Nat):Int) else ((n:Nat):Int))) (dd 2 (sv (.int .i64 (if j=1 then 1 else 9)) (dd 162 (nl)))))) (fun H0 (j:Nat)=>[.cells 0 (if j=1 then [.int .u8 0,.int .u8 0,dc (D / 10),dc (D % 10),dc (C / 10),dc (C % 10),dc (B / 10),dc (B % 10),dc (A / 10),dc (A % 10)]++List.replicate 14 (.int .u8 0) else z24)]) (fun (j:Nat)=>j≤1) (fun (j:Nat)=>1-j) (0) ?_ ?_ ?_
 ·exact Nat.zero_le _
 ·unfold z24
  simp only [List.replicate,Nat.zero_ne_one,if_false]
  exact Gn.canon (J:=[]) (by first | rfl | (simp [List.append_nil];done) | (simp [List.append_nil];rfl)) (by simp [wk,putT,kp,dd,sv,nl]) (by simp [List.length_append]) (by simp [kp,dd,sv,nl]) (by simp)
 intro j hj
 rcases (by omega:j=0∨j=1) with rfl | rfl
 ·unfold z24
  simp only [List.replicate,Nat.zero_ne_one,if_false]
  simp (maxSteps:=2000000) -implicitDefEqProofs +contextual (disch:=first | assumption | omega | decide +kernel) only [push_cast,↓capI,seval,Nat.reduceLeDiff,Nat.reduceEqDiff,reduceCtorEq,↓reduceIte,r1,r2,r3,r4,r5,r6,r7,r8,r9,r10,r11,wA,wB,wC,wD,wa,wa6,u32_two,u32_one,nat_two,nat_one,u32_48,u8_48,bigA,bigB,bigL]
  refine ⟨1,by omega,by (try simp only);omega,?_⟩;exact Gn.canon (by first | rfl | (simp [List.append_nil,dc,List.replicate,hx];rfl)) (by simp [wk,dc,List.replicate,hx]) (by simp [List.length_append]) (by simp) (by simp)
 ·simp only [List.replicate,if_true,List.cons_append,List.nil_append]
  simp (maxSteps:=2000000) -implicitDefEqProofs +contextual (disch:=first | assumption | omega | decide +kernel) only [push_cast,↓capI,seval,Nat.reduceLeDiff,Nat.reduceEqDiff,reduceCtorEq,↓reduceIte,r1,r2,r3,r4,r5,r6,r7,r8,r9,r10,r11,wA,wB,wC,wD,wa,wa6,u32_two,u32_one,nat_two,nat_one,u32_48,u8_48,bigA,bigB,bigL]
  refine endG.normal ([]) (by first | rfl | simp [fzs_ok,getO,setO,fzs,fz,fzH,Nat.beq,tt_3,tt_4,tt_5,tt_9,tt_128,tt_200,tt_203,tt_205,tt_231,tt_327,tt_251,tt_2,tt_71,tt_246,tt_299,cfg0,take_rest,ibeq_dec,V.rn,rns,qn,setPs,rnOs,Ob.rn,gl0,glV,List.map,V.st,List.set_cons_zero,List.size_toArray,dc,List.replicate,hx]) (by simp) (by simp [fzs_ok,imp,lenOK_iff,List.take_of_length_le,evRes,getT,getO,setO,fzs,fz,fzH,Nat.beq,retV,Res.then,ldT,ldR,mkV,getV,tt_3,tt_4,tt_5,tt_9,tt_128,tt_200,tt_203,tt_205,tt_231,tt_327,tt_251,tt_2,tt_71,tt_246,tt_299,cfg0,take_rest,ibeq_dec,V.rn,rns,qn,setPs,rnOs,Ob.rn,gl0,glV,List.map,V.st,List.set_cons_zero,List.size_toArray,Tryz.f183,dc,List.replicate,hx]) (by first | rfl | simp [dc,List.replicate,hx]) (by first | rfl | simp [dc,List.replicate,hx])
end
section
theorem dgs_one {k n:Nat} (h:n<10):dgs (k+1) n=[UInt8.ofNat (48+n)]:=by rw [dgs,if_pos h]
theorem dgs_step {k n:Nat} (h:10≤n):dgs (k+1) n=dgs k (n / 10)++[UInt8.ofNat (48+n % 10)]:=by rw [dgs,if_neg (by omega)]
theorem t48a {m:Nat}:((48:Int)+(m:Int) / 10).toNat=48+m / 10:=by omega
theorem t48b {m:Nat}:((48:Int)+(m:Int) % 10).toNat=48+m % 10:=by omega
theorem t48c {m:Nat}:((48:Int)+(m:Int)).toNat=48+m:=by omega
attribute [local push_cast] cfg0 take_rest ibeq_dec V.rn rns qn setPs rnOs Ob.rn gl0 glV List.map V.st List.set_cons_zero List.size_toArray
theorem f65_3 (n:Nat) (h1:10^2≤n) (h2:n<10^3):PC Tryz.prog 155 [.int .i64 n,.int .i64 10] (.str (dgs 9 n)):=by
 have hd:=numDigits n 3 (by decide) h1 h2
 simp only [Nat.reducePow] at h1 h2
 obtain ⟨A,hA⟩:∃x,x=n / 1 % 100:=⟨_,rfl⟩
 obtain ⟨a,ha⟩:∃x,x=n / 100:=⟨_,rfl⟩
 have hs:dgs 9 n=[UInt8.ofNat (48+a),UInt8.ofNat (48+(A / 10)),UInt8.ofNat (48+(A % 10))]:=by
  rw [dgs_step (by omega),dgs_step (by omega),dgs_one (by omega)]
  have e0:n % 10=A % 10:=by omega
  have e1:n / 10 % 10=A / 10:=by omega
  have e2:n / 10 / 10=a:=by omega
  rw [e2,e1,e0]
  rfl
 have hg:=g80_3 a A n (by omega) (by omega) (by omega)
 have hi:¬(n:Int)<0:=by omega
 have hc:¬(n:Int)<100:=by omega
 clear hA ha
 rw [hs]
 clear hs
 refine PC.walk tok mixed cfg0 Tryz.func155 rfl Tryz.call155 (by simp) (by first | rfl | simp) ?_;refine vms1 Tryz.ntmps155 ?_
 (try refine vms1 hc ?_)
 refine callO.pc hd ?_
 refine vms1 hi ?_
 refine callO.part0 [0] hg (by decide) rfl rfl ⟨by rfl,by simp,trivial⟩ ?_
 unfold dc
 simp only [List.replicate,List.append_eq,List.cons_append,List.nil_append]
 refine vms1 hi ?_
 refine endK.retA ?_;simp [evRes,getT,retV,Tryz.f155,t48a,t48b,t48c]
theorem f65_4 (n:Nat) (h1:10^3≤n) (h2:n<10^4):PC Tryz.prog 155 [.int .i64 n,.int .i64 10] (.str (dgs 9 n)):=by
 have hd:=numDigits n 4 (by decide) h1 h2
 simp only [Nat.reducePow] at h1 h2
 obtain ⟨A,hA⟩:∃x,x=n / 1 % 100:=⟨_,rfl⟩
 obtain ⟨B,hB⟩:∃x,x=n / 100 % 100:=⟨_,rfl⟩
 have hs:dgs 9 n=[UInt8.ofNat (48+(B / 10)),UInt8.ofNat (48+(B % 10)),UInt8.ofNat (48+(A / 10)),UInt8.ofNat (48+(A % 10))]:=by
  rw [dgs_step (by omega),dgs_step (by omega),dgs_step (by omega),dgs_one (by omega)]
  have e0:n % 10=A % 10:=by omega
  have e1:n / 10 % 10=A / 10:=by omega
  have e2:n / 10 / 10 % 10=B % 10:=by omega
  have e3:n / 10 / 10 / 10=B / 10:=by omega
  rw [e3,e2,e1,e0]
  rfl
 have hg:=g80_4 B A n (by omega) (by omega) (by omega)
 have hi:¬(n:Int)<0:=by omega
 have hc:¬(n:Int)<100:=by omega
 clear hA hB
 rw [hs]
 clear hs
 refine PC.walk tok mixed cfg0 Tryz.func155 rfl Tryz.call155 (by simp) (by first | rfl | simp) ?_;refine vms1 Tryz.ntmps155 ?_
 (try refine vms1 hc ?_)
 refine callO.pc hd ?_
 refine vms1 hi ?_
 refine callO.part0 [0] hg (by decide) rfl rfl ⟨by rfl,by simp,trivial⟩ ?_
 unfold dc
 simp only [List.replicate,List.append_eq,List.cons_append,List.nil_append]
 refine vms1 hi ?_
 refine endK.retA ?_;simp [evRes,getT,retV,Tryz.f155,t48a,t48b,t48c]
theorem f65_5 (n:Nat) (h1:10^4≤n) (h2:n<10^5):PC Tryz.prog 155 [.int .i64 n,.int .i64 10] (.str (dgs 9 n)):=by
 have hd:=numDigits n 5 (by decide) h1 h2
 simp only [Nat.reducePow] at h1 h2
 obtain ⟨A,hA⟩:∃x,x=n / 1 % 100:=⟨_,rfl⟩
 obtain ⟨B,hB⟩:∃x,x=n / 100 % 100:=⟨_,rfl⟩
 obtain ⟨a,ha⟩:∃x,x=n / 10000:=⟨_,rfl⟩
 have hs:dgs 9 n=[UInt8.ofNat (48+a),UInt8.ofNat (48+(B / 10)),UInt8.ofNat (48+(B % 10)),UInt8.ofNat (48+(A / 10)),UInt8.ofNat (48+(A % 10))]:=by
  rw [dgs_step (by omega),dgs_step (by omega),dgs_step (by omega),dgs_step (by omega),dgs_one (by omega)]
  have e0:n % 10=A % 10:=by omega
  have e1:n / 10 % 10=A / 10:=by omega
  have e2:n / 10 / 10 % 10=B % 10:=by omega
  have e3:n / 10 / 10 / 10 % 10=B / 10:=by omega
  have e4:n / 10 / 10 / 10 / 10=a:=by omega
  rw [e4,e3,e2,e1,e0]
  rfl
 have hg:=g80_5 a B A n (by omega) (by omega) (by omega) (by omega)
 have hi:¬(n:Int)<0:=by omega
 have hc:¬(n:Int)<100:=by omega
 clear hA hB ha
 rw [hs]
 clear hs
 refine PC.walk tok mixed cfg0 Tryz.func155 rfl Tryz.call155 (by simp) (by first | rfl | simp) ?_;refine vms1 Tryz.ntmps155 ?_
 (try refine vms1 hc ?_)
 refine callO.pc hd ?_
 refine vms1 hi ?_
 refine callO.part0 [0] hg (by decide) rfl rfl ⟨by rfl,by simp,trivial⟩ ?_
 unfold dc
 simp only [List.replicate,List.append_eq,List.cons_append,List.nil_append]
 refine vms1 hi ?_
 refine endK.retA ?_;simp [evRes,getT,retV,Tryz.f155,t48a,t48b,t48c]
theorem f65_6 (n:Nat) (h1:10^5≤n) (h2:n<10^6):PC Tryz.prog 155 [.int .i64 n,.int .i64 10] (.str (dgs 9 n)):=by
 have hd:=numDigits n 6 (by decide) h1 h2
 simp only [Nat.reducePow] at h1 h2
 obtain ⟨A,hA⟩:∃x,x=n / 1 % 100:=⟨_,rfl⟩
 obtain ⟨B,hB⟩:∃x,x=n / 100 % 100:=⟨_,rfl⟩
 obtain ⟨C,hC⟩:∃x,x=n / 10000 % 100:=⟨_,rfl⟩
 have hs:dgs 9 n=[UInt8.ofNat (48+(C / 10)),UInt8.ofNat (48+(C % 10)),UInt8.ofNat (48+(B / 10)),UInt8.ofNat (48+(B % 10)),UInt8.ofNat (48+(A / 10)),UInt8.ofNat (48+(A % 10))]:=by
  rw [dgs_step (by omega),dgs_step (by omega),dgs_step (by omega),dgs_step (by omega),dgs_step (by omega),dgs_one (by omega)]
  have e0:n % 10=A % 10:=by omega
  have e1:n / 10 % 10=A / 10:=by omega
  have e2:n / 10 / 10 % 10=B % 10:=by omega
  have e3:n / 10 / 10 / 10 % 10=B / 10:=by omega
  have e4:n / 10 / 10 / 10 / 10 % 10=C % 10:=by omega
  have e5:n / 10 / 10 / 10 / 10 / 10=C / 10:=by omega
  rw [e5,e4,e3,e2,e1,e0]
  rfl
 have hg:=g80_6 C B A n (by omega) (by omega) (by omega) (by omega)
 have hi:¬(n:Int)<0:=by omega
 have hc:¬(n:Int)<100:=by omega
 clear hA hB hC
 rw [hs]
 clear hs
 refine PC.walk tok mixed cfg0 Tryz.func155 rfl Tryz.call155 (by simp) (by first | rfl | simp) ?_;refine vms1 Tryz.ntmps155 ?_
 (try refine vms1 hc ?_)
 refine callO.pc hd ?_
 refine vms1 hi ?_
 refine callO.part0 [0] hg (by decide) rfl rfl ⟨by rfl,by simp,trivial⟩ ?_
 unfold dc
 simp only [List.replicate,List.append_eq,List.cons_append,List.nil_append]
 refine vms1 hi ?_
 refine endK.retA ?_;simp [evRes,getT,retV,Tryz.f155,t48a,t48b,t48c]
theorem f65_7 (n:Nat) (h1:10^6≤n) (h2:n<10^7):PC Tryz.prog 155 [.int .i64 n,.int .i64 10] (.str (dgs 9 n)):=by
 have hd:=numDigits n 7 (by decide) h1 h2
 simp only [Nat.reducePow] at h1 h2
 obtain ⟨A,hA⟩:∃x,x=n / 1 % 100:=⟨_,rfl⟩
 obtain ⟨B,hB⟩:∃x,x=n / 100 % 100:=⟨_,rfl⟩
 obtain ⟨C,hC⟩:∃x,x=n / 10000 % 100:=⟨_,rfl⟩
 obtain ⟨a,ha⟩:∃x,x=n / 1000000:=⟨_,rfl⟩
 have hs:dgs 9 n=[UInt8.ofNat (48+a),UInt8.ofNat (48+(C / 10)),UInt8.ofNat (48+(C % 10)),UInt8.ofNat (48+(B / 10)),UInt8.ofNat (48+(B % 10)),UInt8.ofNat (48+(A / 10)),UInt8.ofNat (48+(A % 10))]:=by
  rw [dgs_step (by omega),dgs_step (by omega),dgs_step (by omega),dgs_step (by omega),dgs_step (by omega),dgs_step (by omega),dgs_one (by omega)]
  have e0:n % 10=A % 10:=by omega
  have e1:n / 10 % 10=A / 10:=by omega
  have e2:n / 10 / 10 % 10=B % 10:=by omega
  have e3:n / 10 / 10 / 10 % 10=B / 10:=by omega
  have e4:n / 10 / 10 / 10 / 10 % 10=C % 10:=by omega
  have e5:n / 10 / 10 / 10 / 10 / 10 % 10=C / 10:=by omega
  have e6:n / 10 / 10 / 10 / 10 / 10 / 10=a:=by omega
  rw [e6,e5,e4,e3,e2,e1,e0]
  rfl
 have hg:=g80_7 a C B A n (by omega) (by omega) (by omega) (by omega) (by omega)
 have hi:¬(n:Int)<0:=by omega
 have hc:¬(n:Int)<100:=by omega
 clear hA hB hC ha
 rw [hs]
 clear hs
 refine PC.walk tok mixed cfg0 Tryz.func155 rfl Tryz.call155 (by simp) (by first | rfl | simp) ?_;refine vms1 Tryz.ntmps155 ?_
 (try refine vms1 hc ?_)
 refine callO.pc hd ?_
 refine vms1 hi ?_
 refine callO.part0 [0] hg (by decide) rfl rfl ⟨by rfl,by simp,trivial⟩ ?_
 unfold dc
 simp only [List.replicate,List.append_eq,List.cons_append,List.nil_append]
 refine vms1 hi ?_
 refine endK.retA ?_;simp [evRes,getT,retV,Tryz.f155,t48a,t48b,t48c]
theorem f65_8 (n:Nat) (h1:10^7≤n) (h2:n<10^8):PC Tryz.prog 155 [.int .i64 n,.int .i64 10] (.str (dgs 9 n)):=by
 have hd:=numDigits n 8 (by decide) h1 h2
 simp only [Nat.reducePow] at h1 h2
 obtain ⟨A,hA⟩:∃x,x=n / 1 % 100:=⟨_,rfl⟩
 obtain ⟨B,hB⟩:∃x,x=n / 100 % 100:=⟨_,rfl⟩
 obtain ⟨C,hC⟩:∃x,x=n / 10000 % 100:=⟨_,rfl⟩
 obtain ⟨D,hD⟩:∃x,x=n / 1000000 % 100:=⟨_,rfl⟩
 have hs:dgs 9 n=[UInt8.ofNat (48+(D / 10)),UInt8.ofNat (48+(D % 10)),UInt8.ofNat (48+(C / 10)),UInt8.ofNat (48+(C % 10)),UInt8.ofNat (48+(B / 10)),UInt8.ofNat (48+(B % 10)),UInt8.ofNat (48+(A / 10)),UInt8.ofNat (48+(A % 10))]:=by
  rw [dgs_step (by omega),dgs_step (by omega),dgs_step (by omega),dgs_step (by omega),dgs_step (by omega),dgs_step (by omega),dgs_step (by omega),dgs_one (by omega)]
  have e0:n % 10=A % 10:=by omega
  have e1:n / 10 % 10=A / 10:=by omega
  have e2:n / 10 / 10 % 10=B % 10:=by omega
  have e3:n / 10 / 10 / 10 % 10=B / 10:=by omega
  have e4:n / 10 / 10 / 10 / 10 % 10=C % 10:=by omega
  have e5:n / 10 / 10 / 10 / 10 / 10 % 10=C / 10:=by omega
  have e6:n / 10 / 10 / 10 / 10 / 10 / 10 % 10=D % 10:=by omega
  have e7:n / 10 / 10 / 10 / 10 / 10 / 10 / 10=D / 10:=by omega
  rw [e7,e6,e5,e4,e3,e2,e1,e0]
  rfl
 have hg:=g80_8 D C B A n (by omega) (by omega) (by omega) (by omega) (by omega)
 have hi:¬(n:Int)<0:=by omega
 have hc:¬(n:Int)<100:=by omega
 clear hA hB hC hD
 rw [hs]
 clear hs
 refine PC.walk tok mixed cfg0 Tryz.func155 rfl Tryz.call155 (by simp) (by first | rfl | simp) ?_;refine vms1 Tryz.ntmps155 ?_
 (try refine vms1 hc ?_)
 refine callO.pc hd ?_
 refine vms1 hi ?_
 refine callO.part0 [0] hg (by decide) rfl rfl ⟨by rfl,by simp,trivial⟩ ?_
 unfold dc
 simp only [List.replicate,List.append_eq,List.cons_append,List.nil_append]
 refine vms1 hi ?_
 refine endK.retA ?_;simp [evRes,getT,retV,Tryz.f155,t48a,t48b,t48c]
theorem f65_9 (n:Nat) (h1:10^8≤n) (h2:n<10^9):PC Tryz.prog 155 [.int .i64 n,.int .i64 10] (.str (dgs 9 n)):=by
 have hd:=numDigits n 9 (by decide) h1 h2
 simp only [Nat.reducePow] at h1 h2
 obtain ⟨A,hA⟩:∃x,x=n / 1 % 100:=⟨_,rfl⟩
 obtain ⟨B,hB⟩:∃x,x=n / 100 % 100:=⟨_,rfl⟩
 obtain ⟨C,hC⟩:∃x,x=n / 10000 % 100:=⟨_,rfl⟩
 obtain ⟨D,hD⟩:∃x,x=n / 1000000 % 100:=⟨_,rfl⟩
 obtain ⟨a,ha⟩:∃x,x=n / 100000000:=⟨_,rfl⟩
 have hs:dgs 9 n=[UInt8.ofNat (48+a),UInt8.ofNat (48+(D / 10)),UInt8.ofNat (48+(D % 10)),UInt8.ofNat (48+(C / 10)),UInt8.ofNat (48+(C % 10)),UInt8.ofNat (48+(B / 10)),UInt8.ofNat (48+(B % 10)),UInt8.ofNat (48+(A / 10)),UInt8.ofNat (48+(A % 10))]:=by
  rw [dgs_step (by omega),dgs_step (by omega),dgs_step (by omega),dgs_step (by omega),dgs_step (by omega),dgs_step (by omega),dgs_step (by omega),dgs_step (by omega),dgs_one (by omega)]
  have e0:n % 10=A % 10:=by omega
  have e1:n / 10 % 10=A / 10:=by omega
  have e2:n / 10 / 10 % 10=B % 10:=by omega
  have e3:n / 10 / 10 / 10 % 10=B / 10:=by omega
  have e4:n / 10 / 10 / 10 / 10 % 10=C % 10:=by omega
  have e5:n / 10 / 10 / 10 / 10 / 10 % 10=C / 10:=by omega
  have e6:n / 10 / 10 / 10 / 10 / 10 / 10 % 10=D % 10:=by omega
  have e7:n / 10 / 10 / 10 / 10 / 10 / 10 / 10 % 10=D / 10:=by omega
  have e8:n / 10 / 10 / 10 / 10 / 10 / 10 / 10 / 10=a:=by omega
  rw [e8,e7,e6,e5,e4,e3,e2,e1,e0]
  rfl
 have hg:=g80_9 a D C B A n (by omega) (by omega) (by omega) (by omega) (by omega) (by omega)
 have hi:¬(n:Int)<0:=by omega
 have hc:¬(n:Int)<100:=by omega
 clear hA hB hC hD ha
 rw [hs]
 clear hs
 refine PC.walk tok mixed cfg0 Tryz.func155 rfl Tryz.call155 (by simp) (by first | rfl | simp) ?_;refine vms1 Tryz.ntmps155 ?_
 (try refine vms1 hc ?_)
 refine callO.pc hd ?_
 refine vms1 hi ?_
 refine callO.part0 [0] hg (by decide) rfl rfl ⟨by rfl,by simp,trivial⟩ ?_
 unfold dc
 simp only [List.replicate,List.append_eq,List.cons_append,List.nil_append]
 refine vms1 hi ?_
 refine endK.retA ?_;simp [evRes,getT,retV,Tryz.f155,t48a,t48b,t48c]
theorem f65s (n:Nat) (h:n<100):PC Tryz.prog 155 [.int .i64 n,.int .i64 10] (.str (dgs 9 n)):=by
 have h8:=pc155 n (by omega)
 have e:dec8 n=dgs 9 n:=by
  rw [dec8]
  by_cases h10:n<10
  ·rw [if_pos h10,dgs_one h10]
  ·rw [if_neg h10,if_pos h,dgs_step (by omega),dgs_one (by omega)]
   rfl
 rw [e] at h8
 exact h8
theorem f65 (n:Nat) (h:n<1000000000):PC Tryz.prog 155 [.int .i64 n,.int .i64 10] (.str (dgs 9 n)):=by
 by_cases h2:n<100
 ·exact f65s n h2
 by_cases h3:n<1000
 ·exact f65_3 n (by simp only [Nat.reducePow];omega) (by simp only [Nat.reducePow];omega)
 by_cases h4:n<10000
 ·exact f65_4 n (by simp only [Nat.reducePow];omega) (by simp only [Nat.reducePow];omega)
 by_cases h5:n<100000
 ·exact f65_5 n (by simp only [Nat.reducePow];omega) (by simp only [Nat.reducePow];omega)
 by_cases h6:n<1000000
 ·exact f65_6 n (by simp only [Nat.reducePow];omega) (by simp only [Nat.reducePow];omega)
 by_cases h7:n<10000000
 ·exact f65_7 n (by simp only [Nat.reducePow];omega) (by simp only [Nat.reducePow];omega)
 by_cases h8:n<100000000
 ·exact f65_8 n (by simp only [Nat.reducePow];omega) (by simp only [Nat.reducePow];omega)
 exact f65_9 n (by simp only [Nat.reducePow];omega) (by simp only [Nat.reducePow];omega)
theorem fI1 (n:Nat) (hn:n<1000000000):PC Tryz.prog 119 [.int .i64 n] (.str (dgs 9 n)):=by
 refine PC.walk tok mixed cfg0 Tryz.func119 rfl Tryz.call119 (by simp) (by first | rfl | simp) ?_;refine vms1 Tryz.ntmps119 ?_
 refine callO.pc (f65 n hn) ?_
 refine vms0 ?_
 refine endK.retA ?_;simp [evRes,getT,retV,Tryz.f119]
theorem fI2 (n:Nat) (hn:n<1000000000):PC Tryz.prog 75 [.int .i64 n] (.str (dgs 9 n)):=by
 refine PC.walk tok mixed cfg0 Tryz.func75 rfl Tryz.call75 (by simp) (by first | rfl | simp) ?_;refine vms1 Tryz.ntmps75 ?_
 refine callO.pc (fI1 n hn) ?_
 refine vms0 ?_
 refine endK.retA ?_;simp [evRes,getT,retV,Tryz.f75]
theorem fmtP (n:Nat) (hn:n<1000000000):PC Tryz.prog 37 [.int .i64 n] (.str (dgs 9 n)):=by
 refine PC.walk tok mixed cfg0 Tryz.func37 rfl Tryz.call37 (by simp) (by first | rfl | simp) ?_;refine vms1 Tryz.ntmps37 ?_
 refine callO.pc (fI2 n hn) ?_
 refine vms0 ?_
 refine endK.retA ?_;simp [evRes,getT,retV,Tryz.f37]
end
section
def inn (k need:Int) (s:List UInt8):List UInt8:=if k<need then [40]++s++[41] else s
theorem inn_len (k need:Int) (s:List UInt8):(inn k need s).length≤s.length+2:=by
 unfold inn
 split
 ·simp
 ·omega
def prec:Pr→Int
 | .leaf _=>3
 | .un _ _=>3
 | .bin x _ _=>if x.op=5 then 1 else 2
def tx:Pr→List UInt8
 | .leaf x=>if x.op=1 then [40,41] else if x.op=2 then [46] else dgs 9 x.n.toNat
 | .un _ p=>inn (prec p) 3 (tx p)++[42]
 | .bin x p q=>if x.op=5 then inn (prec p) 1 (tx p)++[124]++inn (prec q) 2 (tx q) else inn (prec p) 2 (tx p)++[44]++inn (prec q) 3 (tx q)
theorem leaf_len (x:Nd):(tx (.leaf x)).length≤9:=by
 have:=dgs_len 9 x.n.toNat
 rw [tx]
 split
 ·decide
 split
 ·decide
 ·exact this
theorem tx_len:∀p:Pr,(tx p).length≤9*(flat p).length
 | .leaf x=>by
  have:=leaf_len x
  rw [flat,List.length_singleton]
  omega
 | .un x p=>by
  have h1:=tx_len p
  have h2:=inn_len (prec p) 3 (tx p)
  rw [tx,flat]
  (try simp only [List.length_append,List.length_cons,List.length_nil]);omega
 | .bin x p q=>by
  have h1:=tx_len p
  have h2:=tx_len q
  have h3:=inn_len (prec p) 2 (tx p)
  have h4:=inn_len (prec p) 1 (tx p)
  have h5:=inn_len (prec q) 2 (tx q)
  have h6:=inn_len (prec q) 3 (tx q)
  rw [tx,flat]
  split
  ·(try simp only [List.length_append,List.length_cons,List.length_nil]);omega
  ·(try simp only [List.length_append,List.length_cons,List.length_nil]);omega
attribute [local push_cast] fmN fm0 take_N toN1 slN_nil encN slN cfg0 gfp_lenN gfd_lenN lfl_lenN encX ibeq_dec
theorem pc154:∀p:Pr,PC Tryz.prog 154 [encX p] (.int .i64 (prec p))
 | .leaf x=>by
  refine PC.walk tok mixed cfg0 Tryz.func154 rfl Tryz.call154 (by simp [bel_clX]) (by first | rfl | simp [bel_clX]) ?_;refine vms1 Tryz.ntmps154 ?_
  simp (maxSteps:=2000000) -implicitDefEqProofs +contextual (disch:=first | assumption | omega | decide +kernel) only [push_cast,↓capI,seval,Nat.reduceLeDiff,Nat.reduceEqDiff,reduceCtorEq,↓reduceIte,tgX,clX]
  refine endK.ret ?_ (by first | rfl | simp [bel_clX]);simp [evRes,getT,retV,Tryz.f154,prec]
 | .un x p=>by
  refine PC.walk tok mixed cfg0 Tryz.func154 rfl Tryz.call154 (by simp [bel_clX]) (by first | rfl | simp [bel_clX]) ?_;refine vms1 Tryz.ntmps154 ?_
  simp (maxSteps:=2000000) -implicitDefEqProofs +contextual (disch:=first | assumption | omega | decide +kernel) only [push_cast,↓capI,seval,Nat.reduceLeDiff,Nat.reduceEqDiff,reduceCtorEq,↓reduceIte,tgX,clX]
  refine endK.ret ?_ (by first | rfl | simp [bel_clX]);simp [evRes,getT,retV,Tryz.f154,prec]
 | .bin x p q=>by
  by_cases h:x.op=5
  ·refine PC.walk tok mixed cfg0 Tryz.func154 rfl Tryz.call154 (by simp [bel_clX]) (by first | rfl | simp [bel_clX]) ?_;refine vms1 Tryz.ntmps154 ?_
   simp (maxSteps:=2000000) -implicitDefEqProofs +contextual (disch:=first | assumption | omega | decide +kernel) only [push_cast,↓capI,seval,Nat.reduceLeDiff,Nat.reduceEqDiff,reduceCtorEq,↓reduceIte,tgX,clX,h]
   refine endK.ret ?_ (by first | rfl | simp [bel_clX]);simp [evRes,getT,retV,Tryz.f154,prec,h]
  ·refine PC.walk tok mixed cfg0 Tryz.func154 rfl Tryz.call154 (by simp [bel_clX]) (by first | rfl | simp [bel_clX]) ?_;refine vms1 Tryz.ntmps154 ?_
   simp (maxSteps:=2000000) -implicitDefEqProofs +contextual (disch:=first | assumption | omega | decide +kernel) only [push_cast,↓capI,seval,Nat.reduceLeDiff,Nat.reduceEqDiff,reduceCtorEq,↓reduceIte,tgX,clX,h]
   refine endK.ret ?_ (by first | rfl | simp [bel_clX]);simp [evRes,getT,retV,Tryz.f154,prec,h]
theorem pc118 (p:Pr) (need:Int) (hl:(flat p).length≤4000000) (h:PC Tryz.prog 74 [encX p] (.str (tx p))):PC Tryz.prog 118 [encX p,.int .i64 need] (.str (inn (prec p) need (tx p))):=by
 have hs:=tx_len p
 have h55:=pc154 p
 rw [encX] at h h55
 by_cases hk:prec p<need
 ·refine PC.walk tok mixed cfg0 Tryz.func118 rfl Tryz.call118 (by simp [bel_clX]) (by first | rfl | simp [bel_clX]) ?_;refine vms1 Tryz.ntmps118 ?_
  refine callO.pc h ?_
  refine vms0 ?_
  refine callO.pc h55 ?_
  refine vms1 hk ?_
  (try refine ⟨by (try simp only [List.length_append,List.length_cons,List.length_nil]);omega,fun _=>?_⟩)
  (try refine vms0 ?_)
  (try refine ⟨by (try simp only [List.length_append,List.length_cons,List.length_nil]);omega,fun _=>?_⟩)
  refine endK.ret ?_ (by first | rfl | simp [bel_clX]);simp [evRes,getT,retV,Tryz.f118,inn,hk]
 ·refine PC.walk tok mixed cfg0 Tryz.func118 rfl Tryz.call118 (by simp [bel_clX]) (by first | rfl | simp [bel_clX]) ?_;refine vms1 Tryz.ntmps118 ?_
  refine callO.pc h ?_
  refine vms0 ?_
  refine callO.pc h55 ?_
  refine vms1 hk ?_
  refine endK.ret ?_ (by first | rfl | simp [bel_clX]);simp [evRes,getT,retV,Tryz.f118,inn,hk]
theorem ok_leaf {p:Nd} (h:okP 1000000000 (.leaf p)) (h3:p.op=3):0≤p.n∧p.n<1000000000:=by
 obtain ⟨_,h2⟩:=h
 unfold chk1 at h2
 have ha:¬arity p.op<0:=by rw [h3];decide
 rw [if_neg ha] at h2
 have:¬badN 1000000000 p:=fun g=>by rw [if_pos ⟨h3,g⟩] at h2;exact absurd h2 (by decide)
 unfold badN at this
 omega
theorem pc74:∀p:Pr,okP 1000000000 p→(flat p).length≤4000000→PC Tryz.prog 74 [encX p] (.str (tx p))
 | .leaf x,hp,_=>by
  by_cases h1:x.op=1
  ·refine PC.walk tok mixed cfg0 Tryz.func74 rfl Tryz.call74 (by simp [bel_clX]) (by first | rfl | simp [bel_clX]) ?_;refine vms1 Tryz.ntmps74 ?_
   simp (maxSteps:=2000000) -implicitDefEqProofs +contextual (disch:=first | assumption | omega | decide +kernel) only [push_cast,↓capI,seval,Nat.reduceLeDiff,Nat.reduceEqDiff,reduceCtorEq,↓reduceIte,tgX,clX,h1]
   refine endK.ret ?_ (by first | rfl | simp [bel_clX]);simp [evRes,getT,retV,Tryz.f74,tx,h1]
  by_cases h2:x.op=2
  ·refine PC.walk tok mixed cfg0 Tryz.func74 rfl Tryz.call74 (by simp [bel_clX]) (by first | rfl | simp [bel_clX]) ?_;refine vms1 Tryz.ntmps74 ?_
   simp (maxSteps:=2000000) -implicitDefEqProofs +contextual (disch:=first | assumption | omega | decide +kernel) only [push_cast,↓capI,seval,Nat.reduceLeDiff,Nat.reduceEqDiff,reduceCtorEq,↓reduceIte,tgX,clX,h1,h2]
   refine endK.ret ?_ (by first | rfl | simp [bel_clX]);simp [evRes,getT,retV,Tryz.f74,tx,h1,h2]
  have h3:x.op=3:=by have:=hp.1;omega
  obtain ⟨b1,b2⟩:=ok_leaf hp h3
  have hf:=fmtP x.n.toNat (by omega)
  rw [Int.toNat_of_nonneg b1] at hf
  refine PC.walk tok mixed cfg0 Tryz.func74 rfl Tryz.call74 (by simp [bel_clX]) (by first | rfl | simp [bel_clX]) ?_;refine vms1 Tryz.ntmps74 ?_
  simp (maxSteps:=2000000) -implicitDefEqProofs +contextual (disch:=first | assumption | omega | decide +kernel) only [push_cast,↓capI,seval,Nat.reduceLeDiff,Nat.reduceEqDiff,reduceCtorEq,↓reduceIte,tgX,clX,h1,h2,nN,h3]
  refine callO.pc hf ?_
  refine vms0 ?_
  refine endK.ret ?_ (by first | rfl | simp [bel_clX]);simp [evRes,getT,retV,Tryz.f74,tx,h1,h2]
 | .un x p,hp,hl=>by
  rw [flat,List.length_cons] at hl
  have i1:=pc118 p 3 (by omega) (pc74 p hp.2 (by omega))
  have ht:=tx_len p
  have hn:=inn_len (prec p) 3 (tx p)
  rw [encX] at i1
  refine PC.walk tok mixed cfg0 Tryz.func74 rfl Tryz.call74 (by simp [bel_clX]) (by first | rfl | simp [bel_clX]) ?_;refine vms1 Tryz.ntmps74 ?_
  simp (maxSteps:=2000000) -implicitDefEqProofs +contextual (disch:=first | assumption | omega | decide +kernel) only [push_cast,↓capI,seval,Nat.reduceLeDiff,Nat.reduceEqDiff,reduceCtorEq,↓reduceIte,tgX,clX]
  refine callO.pc i1 ?_
  refine vms0 ?_
  (try refine ⟨by (try simp only [List.length_append,List.length_cons,List.length_nil]);omega,fun _=>?_⟩)
  refine endK.ret ?_ (by first | rfl | simp [bel_clX]);simp [evRes,getT,retV,Tryz.f74,tx]
 | .bin x p q,hp,hl=>by
  rw [flat,List.length_cons,List.length_append] at hl
  have a1:=pc74 p hp.2.1 (by omega)
  have a2:=pc74 q hp.2.2 (by omega)
  have t1:=tx_len p
  have t2:=tx_len q
  have n1:=inn_len (prec p) 2 (tx p)
  have n2:=inn_len (prec p) 1 (tx p)
  have n3:=inn_len (prec q) 2 (tx q)
  have n4:=inn_len (prec q) 3 (tx q)
  by_cases h5:x.op=5
  ·have i1:=pc118 p 1 (by omega) a1
   have i2:=pc118 q 2 (by omega) a2
   rw [encX] at i1 i2
   refine PC.walk tok mixed cfg0 Tryz.func74 rfl Tryz.call74 (by simp [bel_clX]) (by first | rfl | simp [bel_clX]) ?_;refine vms1 Tryz.ntmps74 ?_
   simp (maxSteps:=2000000) -implicitDefEqProofs +contextual (disch:=first | assumption | omega | decide +kernel) only [push_cast,↓capI,seval,Nat.reduceLeDiff,Nat.reduceEqDiff,reduceCtorEq,↓reduceIte,tgX,clX,h5]
   refine callG.pc1 i1 ?_
   refine vms0 ?_
   (try refine ⟨by (try simp only [List.length_append,List.length_cons,List.length_nil]);omega,fun _=>?_⟩)
   refine callG.pc1 i2 ?_
   refine vms0 ?_
   (try refine ⟨by (try simp only [List.length_append,List.length_cons,List.length_nil]);omega,fun _=>?_⟩)
   refine endK.ret ?_ (by first | rfl | simp [bel_clX]);simp [evRes,getT,retV,Tryz.f74,tx,h5]
  ·have i1:=pc118 p 2 (by omega) a1
   have i2:=pc118 q 3 (by omega) a2
   rw [encX] at i1 i2
   refine PC.walk tok mixed cfg0 Tryz.func74 rfl Tryz.call74 (by simp [bel_clX]) (by first | rfl | simp [bel_clX]) ?_;refine vms1 Tryz.ntmps74 ?_
   simp (maxSteps:=2000000) -implicitDefEqProofs +contextual (disch:=first | assumption | omega | decide +kernel) only [push_cast,↓capI,seval,Nat.reduceLeDiff,Nat.reduceEqDiff,reduceCtorEq,↓reduceIte,tgX,clX,h5]
   refine callG.pc1 i1 ?_
   refine vms0 ?_
   (try refine ⟨by (try simp only [List.length_append,List.length_cons,List.length_nil]);omega,fun _=>?_⟩)
   refine callG.pc1 i2 ?_
   refine vms0 ?_
   (try refine ⟨by (try simp only [List.length_append,List.length_cons,List.length_nil]);omega,fun _=>?_⟩)
   refine endK.ret ?_ (by first | rfl | simp [bel_clX]);simp [evRes,getT,retV,Tryz.f74,tx,h5]
def fmtL (l:List Nd) (s:List UInt8) (e:Int):Prop:=e=checkP 1000000000 l∧((checkP 1000000000 l=0∧∃p,okP 1000000000 p∧l=flat p∧l.length≤24∧s=tx p)∨(checkP 1000000000 l≠0∧s=[]))
theorem fmtL_ex (l:List Nd):∃s e,fmtL l s e:=by
 by_cases h:checkP 1000000000 l=0
 ·obtain ⟨h24,p,hp,hf⟩:=checkP_tree h
  exact ⟨_,_,rfl,.inl ⟨h,p,hp,hf,h24,rfl⟩⟩
 ·exact ⟨_,_,rfl,.inr ⟨h,rfl⟩⟩
theorem pc36 (l:List Nd) (hl:l.length≤4000000) (s:List UInt8) (e:Int) (h:fmtL l s e):PC Tryz.prog 36 [slN l] (.tup [.str s,.int .i64 e]):=by
 obtain ⟨he,⟨hc,p,hp,hf,h24,hs⟩ | ⟨hc,hs⟩⟩:=h
 ·subst hf hs
  have i1:=pc74 p hp hl
  rw [encX] at i1
  refine PC.walk tok mixed cfg0 Tryz.func36 rfl Tryz.call36 (by simp [bel_clX]) (by first | rfl | simp [bel_clX]) ?_;refine vms1 Tryz.ntmps36 ?_
  refine callO.pc (wf_ok hp h24) ?_
  refine vms0 ?_
  refine callO.pc i1 ?_
  refine vms0 ?_
  refine endK.ret ?_ (by first | rfl | simp [bel_clX]);simp [evRes,getT,retV,Tryz.f36,he,hc]
 ·refine PC.walk tok mixed cfg0 Tryz.func36 rfl Tryz.call36 (by simp [bel_clX]) (by first | rfl | simp [bel_clX]) ?_;refine vms1 Tryz.ntmps36 ?_
  refine callO.pc (wf_no hl hc) ?_
  refine vms1 hc ?_
  refine endK.ret ?_ (by first | rfl | simp [bel_clX]);simp [evRes,getT,retV,Tryz.f36,he,hs]
end
section
def cfgS:Cfg:={ lv:=[],ef:=[13],ord:=[],em:=[],fl:=[6] }
def cfgP:Cfg:={ lv:=[],ef:=[17,20],ord:=[],em:=[],fl:=[6,8,11] }
def nice:Pr→Prop
 | .leaf x=>nN x=x.n
 | .un x p=>x=op0 6∧nice p
 | .bin x p q=>x.n=0∧nice p∧nice q
def nodF:Pr→Nat
 | .leaf _=>260
 | .un _ _=>258
 | .bin _ _ _=>259
def NodC (p:Pr):Prop:=∀(k:Nat) (l:List Nd),l.length+(flat p).length≤4000000 →
 GCall Tryz.prog (nodF p) [.agg (clX p),.buf 0 k 0 l.length 2] [.cells k (l.flatMap encN)] (.buf 0 (k+(flat p).length) 0 (l.length+(flat p).length) 2) [.cells (k+(flat p).length) ((l++flat p).flatMap encN)]
attribute [local push_cast] fmN fm0 take_N toN1 slN_nil encN slN cfg0 cfgS cfgP gfp_lenN gfd_lenN lfl_lenN V.rn rns qn setPs rnOs Ob.rn List.set_cons_zero List.size_toArray encX rn_clX List.flatMap_append
theorem nod_leaf (x:Nd) (h:nice (.leaf x)):NodC (.leaf x):=by
 intro k l hl
 rw [nice] at h
 simp only [flat,List.length_singleton] at hl ⊢
 refine GC.walk tok mixed cfg0 Tryz.func260 rfl Tryz.call260 ?_;refine vms1 Tryz.ntmps260 ?_
 simp (maxSteps:=2000000) -implicitDefEqProofs +contextual (disch:=first | assumption | omega | decide +kernel) only [push_cast,↓capI,seval,Nat.reduceLeDiff,Nat.reduceEqDiff,reduceCtorEq,↓reduceIte,clX,h]
 refine endG.ret ([_]) (by first | rfl | simp [fmN,fm0,bel_clX,fzs_ok,getO,setO,fzs,fz,fzH,Nat.beq,fmN,fm0,take_N,toN1,slN_nil,encN,slN,cfg0,cfgS,cfgP,get_flat_part lenN,get_flat_drop lenN,len_flat lenN,V.rn,rns,qn,setPs,rnOs,Ob.rn,List.set_cons_zero,List.size_toArray,encX,rn_clX,List.flatMap_append,belAll_append]) (by simp) (by simp [fmN,fm0,bel_clX,fzs_ok,imp,lenOK_iff,List.take_of_length_le,evRes,getT,getO,setO,fzs,fz,fzH,Nat.beq,retV,Res.then,ldT,ldR,mkV,getV,fmN,fm0,take_N,toN1,slN_nil,encN,slN,cfg0,cfgS,cfgP,get_flat_part lenN,get_flat_drop lenN,len_flat lenN,V.rn,rns,qn,setPs,rnOs,Ob.rn,List.set_cons_zero,List.size_toArray,encX,rn_clX,List.flatMap_append,Tryz.f260,belAll_append]) (by first | rfl | simp [fmN,fm0,bel_clX,belAll_append]) (by first | rfl | simp [fmN,fm0,bel_clX,belAll_append])
theorem mt192:MethAt Tryz.prog 192 "patchbay/pathexpr.nodes" 260:=methAt (by kernel_rfl)
theorem mt187:MethAt Tryz.prog 187 "patchbay/pathexpr.nodes" 258:=methAt (by kernel_rfl)
theorem mt190:MethAt Tryz.prog 190 "patchbay/pathexpr.nodes" 259:=methAt (by kernel_rfl)
theorem mtX (p:Pr):MethAt Tryz.prog (tgX p) "patchbay/pathexpr.nodes" (nodF p):=by
 cases p
 ·exact mt192
 ·exact mt187
 ·exact mt190
theorem rn_Ns {q:Nat→Nat} {l:List Nd}:rns q (l.flatMap encN)=l.flatMap encN:=rns_ok (bel_Ns l)
theorem rns_app {q:Nat→Nat}:∀ {a b:List V},rns q (a++b)=rns q a++rns q b
 | [],_=>rfl
 | x::a,b=>by rw [List.cons_append,rns,rns,List.cons_append,rns_app]
theorem fz_Ns {id ver:Nat} {c:List V} {l:List Nd}:fzs id ver c (l.flatMap encN)=l.flatMap encN:=fzs_lt _ (bel_Ns l)
theorem fz_clX {id ver:Nat} {c:List V} {p:Pr}:fzs id ver c (clX p)=clX p:=fzs_lt _ (bel_clX p)
theorem nod_un (x:Nd) (p:Pr) (h:nice (.un x p)) (ih:NodC p):NodC (.un x p):=by
 intro k l hl
 obtain ⟨rfl,hp⟩:=h
 simp only [flat,List.length_cons] at hl ⊢
 have i1:=ih (k+1) (l++[op0 6]) (by rw [List.length_append,List.length_singleton];omega)
 simp only [List.length_append,List.length_singleton] at i1
 refine GC.cutN tok mixed cfgS 0 Tryz.func258 rfl Tryz.call258 ?_
 simp (maxSteps:=2000000) -implicitDefEqProofs +contextual (disch:=first | assumption | omega | decide +kernel) only [push_cast,↓capI,seval,Nat.reduceLeDiff,Nat.reduceEqDiff,reduceCtorEq,↓reduceIte,Tryz.ntmps258,clX,cutAt_z,cutAt_s]
 refine cutK.gn (Gn.freeze (id:=1) rfl) (cutK.go (cfg:=cfgS) tok mixed ?_)
 simp (maxSteps:=2000000) -implicitDefEqProofs +contextual (disch:=first | assumption | omega | decide +kernel) only [push_cast,↓capI,seval,Nat.reduceLeDiff,Nat.reduceEqDiff,reduceCtorEq,↓reduceIte,fzs,fz,fzH,fz_Ns,fz_clX,setO,getO,Nat.beq,List.take_of_length_le,List.drop_zero,fzs_ok,clX]
 refine callI.of (mtX p) (callO.part0 [0] i1 (by decide) rfl (by simp [V.rn,rns,qn,rn_clX]) ⟨by simp [getO,rnOs,Ob.rn,rns_app,rn_Ns,fmN,fm0,encN,op0,List.flatMap_append,rns,V.rn],by simp,trivial⟩ ?_)
 simp (maxSteps:=2000000) -implicitDefEqProofs +contextual (disch:=first | assumption | omega | decide +kernel) only [push_cast,↓capI,seval,Nat.reduceLeDiff,Nat.reduceEqDiff,reduceCtorEq,↓reduceIte,rns_app,rn_Ns]
 refine endG.ret ([.dead]) (by first | rfl | simp [fmN,fm0,bel_clX,fzs_ok,getO,setO,fzs,fz,fzH,Nat.beq,fmN,fm0,take_N,toN1,slN_nil,encN,slN,cfg0,cfgS,cfgP,get_flat_part lenN,get_flat_drop lenN,len_flat lenN,V.rn,rns,qn,setPs,rnOs,Ob.rn,List.set_cons_zero,List.size_toArray,encX,rn_clX,List.flatMap_append,belAll_append,op0,encN,fmN,fm0,rn_Ns,rns_app,Nat.add_assoc,Nat.add_comm 1]) (by simp) (by simp [fmN,fm0,bel_clX,fzs_ok,imp,lenOK_iff,List.take_of_length_le,evRes,getT,getO,setO,fzs,fz,fzH,Nat.beq,retV,Res.then,ldT,ldR,mkV,getV,fmN,fm0,take_N,toN1,slN_nil,encN,slN,cfg0,cfgS,cfgP,get_flat_part lenN,get_flat_drop lenN,len_flat lenN,V.rn,rns,qn,setPs,rnOs,Ob.rn,List.set_cons_zero,List.size_toArray,encX,rn_clX,List.flatMap_append,Tryz.f258,belAll_append,op0,encN,fmN,fm0,rn_Ns,rns_app,Nat.add_assoc,Nat.add_comm 1]) (by first | rfl | simp [fmN,fm0,bel_clX,belAll_append,op0,encN,fmN,fm0,rn_Ns,rns_app,Nat.add_assoc,Nat.add_comm 1]) (by first | rfl | simp [fmN,fm0,bel_clX,belAll_append,op0,encN,fmN,fm0,rn_Ns,rns_app,Nat.add_assoc,Nat.add_comm 1])
theorem nod_bin (x:Nd) (p q:Pr) (h:nice (.bin x p q)) (ih:NodC p) (jh:NodC q):NodC (.bin x p q):=by
 intro k l hl
 obtain ⟨hx,hp,hq⟩:=h
 simp only [flat,List.length_cons,List.length_append] at hl ⊢
 have i1:=ih (k+1) (l++[x]) (by rw [List.length_append,List.length_singleton];omega)
 have i2:=jh (k+1+(flat p).length) (l++[x]++flat p) (by rw [List.length_append,List.length_append,List.length_singleton];omega)
 simp only [List.length_append,List.length_singleton] at i1 i2
 refine GC.cutN tok mixed cfgP 0 Tryz.func259 rfl Tryz.call259 ?_
 simp (maxSteps:=2000000) -implicitDefEqProofs +contextual (disch:=first | assumption | omega | decide +kernel) only [push_cast,↓capI,seval,Nat.reduceLeDiff,Nat.reduceEqDiff,reduceCtorEq,↓reduceIte,Tryz.ntmps259,clX,cutAt_z,cutAt_s]
 refine cutK.gn (Gn.freeze (id:=1) rfl) (cutK.go (cfg:=cfgP) tok mixed ?_)
 simp (maxSteps:=2000000) -implicitDefEqProofs +contextual (disch:=first | assumption | omega | decide +kernel) only [push_cast,↓capI,seval,Nat.reduceLeDiff,Nat.reduceEqDiff,reduceCtorEq,↓reduceIte,fzs,fz,fzH,fz_Ns,fz_clX,setO,getO,Nat.beq,List.take_of_length_le,List.drop_zero,fzs_ok,clX]
 refine callI.of (mtX p) (callO.part0 [0] i1 (by decide) rfl (by simp [V.rn,rns,qn,rn_clX]) ⟨by simp [getO,rnOs,Ob.rn,rns_app,rn_Ns,fmN,fm0,encN,op0,List.flatMap_append,rns,V.rn,hx],by simp,trivial⟩ ?_)
 simp (maxSteps:=2000000) -implicitDefEqProofs +contextual (disch:=first | assumption | omega | decide +kernel) only [push_cast,↓capI,seval,Nat.reduceLeDiff,Nat.reduceEqDiff,reduceCtorEq,↓reduceIte,rns_app,rn_Ns,hx]
 refine callI.of (mtX q) (callO.part0 [0] i2 (by decide) rfl (by simp [V.rn,rns,qn,rn_clX]) ⟨by simp [getO,rnOs,Ob.rn,rns_app,rn_Ns,fmN,fm0,encN,op0,List.flatMap_append,rns,V.rn,hx],by simp,trivial⟩ ?_)
 simp (maxSteps:=2000000) -implicitDefEqProofs +contextual (disch:=first | assumption | omega | decide +kernel) only [push_cast,↓capI,seval,Nat.reduceLeDiff,Nat.reduceEqDiff,reduceCtorEq,↓reduceIte,rns_app,rn_Ns,hx]
 refine endG.ret ([.dead]) (by first | rfl | simp [fmN,fm0,bel_clX,fzs_ok,getO,setO,fzs,fz,fzH,Nat.beq,fmN,fm0,take_N,toN1,slN_nil,encN,slN,cfg0,cfgS,cfgP,get_flat_part lenN,get_flat_drop lenN,len_flat lenN,V.rn,rns,qn,setPs,rnOs,Ob.rn,List.set_cons_zero,List.size_toArray,encX,rn_clX,List.flatMap_append,belAll_append,op0,encN,fmN,fm0,rn_Ns,rns_app,hx,Nat.add_assoc,Nat.add_comm 1]) (by simp) (by simp [fmN,fm0,bel_clX,fzs_ok,imp,lenOK_iff,List.take_of_length_le,evRes,getT,getO,setO,fzs,fz,fzH,Nat.beq,retV,Res.then,ldT,ldR,mkV,getV,fmN,fm0,take_N,toN1,slN_nil,encN,slN,cfg0,cfgS,cfgP,get_flat_part lenN,get_flat_drop lenN,len_flat lenN,V.rn,rns,qn,setPs,rnOs,Ob.rn,List.set_cons_zero,List.size_toArray,encX,rn_clX,List.flatMap_append,Tryz.f259,belAll_append,op0,encN,fmN,fm0,rn_Ns,rns_app,hx,Nat.add_assoc,Nat.add_comm 1]) (by first | rfl | simp [fmN,fm0,bel_clX,belAll_append,op0,encN,fmN,fm0,rn_Ns,rns_app,hx,Nat.add_assoc,Nat.add_comm 1]) (by first | rfl | simp [fmN,fm0,bel_clX,belAll_append,op0,encN,fmN,fm0,rn_Ns,rns_app,hx,Nat.add_assoc,Nat.add_comm 1])
theorem nod_all:∀p,nice p→NodC p
 | .leaf x,h=>nod_leaf x h
 | .un x p,h=>nod_un x p h (nod_all p h.2)
 | .bin x p q,h=>nod_bin x p q h (nod_all p h.2.1) (nod_all q h.2.2)
def slM (l:List Nd):V:=if l=[] then .sl true [] 0 else slN l
theorem slM_nil:slM []=.sl true [] 0:=rfl
@[simp] theorem bel_slM {n:Nat} (l:List Nd):(slM l).bel n=true:=by
 unfold slM
 split
 ·rfl
 ·exact bel_slN l
theorem slM_cons {l:List Nd} (h:l≠[]):slM l=slN l:=by rw [slM,if_neg h]
theorem flat_ne (p:Pr):flat p≠[]:=by
 have:=flat_pos p
 intro e
 rw [e] at this
 cases this
def parQ (s:List UInt8):PR→List Nd × Int
 | some (p,[])=>if 24<(flat p).length then ([],12) else if tx p=s then (flat p,0) else ([],23)
 | _=>([],5)
def parP (s:List UInt8):List Nd × Int:=if 16384<s.length then ([],4) else parQ s (pOr (s.length+1) s)
def encMI (r:List Nd × Int):V:=.tup [slM r.1,.int .i64 r.2]
@[simp] theorem bel_MI {n:Nat} {r:List Nd × Int}:(encMI r).bel n=true:=by simp [encMI,bel_tup,belAll_cons,belAll_nil,bel_slM,bel_int]
theorem lst_nice {nx:List UInt8→PR} (h:∀s p r,nx s=some (p,r)→nice p) {o:Int} {c:UInt8}:∀k x s p r,nice x→lst nx o c k x s=some (p,r)→nice p
 | 0,x,s,p,r,_,e=>by cases e
 | k+1,x,s,p,r,hx,e=>by
  rw [lst] at e
  split at e
  ·cases hn:nx (s.drop 1) with
   | none=>rw [hn] at e;cases e
   | some q =>
    obtain ⟨y,t⟩:=q
    rw [hn] at e
    exact lst_nice h k _ _ _ _ (show nice (.bin (op0 o) x y) from ⟨rfl,hx,h _ _ _ hn⟩) e
  ·cases e
   exact hx
theorem lstP_nice {nx:List UInt8→PR} (h:∀s p r,nx s=some (p,r)→nice p) {o:Int} {c:UInt8}:∀s p r,lstP nx o c s=some (p,r)→nice p:=by
 intro s p r e
 rw [lstP] at e
 cases hn:nx s with
 | none=>rw [hn] at e;cases e
 | some q =>
  obtain ⟨y,t⟩:=q
  rw [hn] at e
  exact lst_nice h _ _ _ _ _ (h _ _ _ hn) e
theorem strs_nice:∀k p s,nice p→nice (strs k p s).1
 | 0,p,s,h=>h
 | k+1,p,s,h=>by
  rw [strs]
  split
  ·exact strs_nice k _ _ (show nice (.un (op0 6) p) from ⟨rfl,h⟩)
  ·exact h
theorem pStr_nice {nx:List UInt8→PR} (h:∀s p r,nx s=some (p,r)→nice p):∀s p r,pStr nx s=some (p,r)→nice p:=by
 intro s p r e
 rw [pStr] at e
 cases hn:nx s with
 | none=>rw [hn] at e;cases e
 | some q =>
  obtain ⟨y,t⟩:=q
  rw [hn] at e
  have h2:=strs_nice (t.length+1) y t (h _ _ _ hn)
  simp only [Option.some.injEq] at e
  rw [e] at h2
  exact h2
theorem pAtm_nice:∀k s p r,pAtm k s=some (p,r)→nice p
 | 0,s,p,r,e=>by cases e
 | k+1,s,p,r,e=>by
  rw [pAtm] at e
  split at e
  ·cases e;rfl
  split at e
  ·cases e;rfl
  split at e
  ·cases hn:lstP (lstP (pStr (pAtm k)) 4 44) 5 124 (s.drop 1) with
   | none=>rw [hn] at e;cases e
   | some q =>
    obtain ⟨y,t⟩:=q
    rw [hn] at e
    simp only at e
    split at e
    ·cases e
     exact lstP_nice (lstP_nice (pStr_nice (pAtm_nice k))) _ _ _ hn
    ·cases e
  ·rw [pNumb] at e
   split at e
   ·cases e;rfl
   ·cases e
theorem pOr_nice (k:Nat):∀s p r,pOr k s=some (p,r)→nice p:=lstP_nice (lstP_nice (pStr_nice (pAtm_nice k)))
theorem nodes0 (p:Pr) (h:nice p) (hl:(flat p).length≤4000000):GCall Tryz.prog (nodF p) [.agg (clX p),.sl true [] 0] [] (.buf 0 (flat p).length 0 (flat p).length 2) [.cells (flat p).length ((flat p).flatMap encN)]:=by
 have:=nod_all p h 0 [] (by simpa using hl)
 simp only [List.length_nil,Nat.zero_add,List.nil_append,List.flatMap_nil] at this
 exact GCall.own (a:=[.agg (clX p)]) (b:=[]) this
end
section
theorem nodesJ (p:Pr) (h:nice p) (hl:(flat p).length≤4000000):PCJ Tryz.prog (nodF p) [.agg (clX p),.sl true [] 0] (.buf 0 (flat p).length 0 (flat p).length 2) [.cells (flat p).length ((flat p).flatMap encN)] :=
 GCall.frame (nodes0 p h hl) (by simp [fmN,fm0,bel_clX])
theorem sh_Ns {k:Nat} {l:List Nd}:shs k (l.flatMap encN)=l.flatMap encN:=shs_ok (bel_Ns l)
attribute [local push_cast] fmN fm0 take_N toN1 slN_nil encN slN cfg0 cfgS cfgP gfp_lenN gfd_lenN lfl_lenN V.rn rns qn setPs rnOs Ob.rn List.set_cons_zero List.size_toArray encX rn_clX List.flatMap_append
theorem pc49 (s:List UInt8):PC Tryz.prog 49 [.str s] (encMI (parP s)):=by
 by_cases h:16384<s.length
 ·have e:parP s=([],4):=by rw [parP,if_pos h]
  rw [e]
  refine PC.walk tok mixed cfg0 Tryz.func49 rfl Tryz.call49 (by simp [fmN,fm0,bel_clX]) (by first | rfl | simp [fmN,fm0,bel_clX]) ?_;refine vms1 Tryz.ntmps49 ?_
  refine endK.ret ?_ (by first | rfl | simp [fmN,fm0,bel_clX]);simp [evRes,getT,retV,Tryz.f49,encMI,slM_nil]
 have e:parP s=parQ s (pOr (s.length+1) s):=by rw [parP,if_neg h]
 rw [e]
 obtain ⟨p,r,g,hl,hr⟩:=pg36 s (by omega)
 rw [encX] at g
 have heat:=pOr_eats (s.length+1) s
 cases hx:pOr (s.length+1) s with
 | none =>
  rw [hx] at g
  refine PC.walk tok mixed cfg0 Tryz.func49 rfl Tryz.call49 (by simp [fmN,fm0,bel_clX]) (by first | rfl | simp [fmN,fm0,bel_clX]) ?_;refine vms1 Tryz.ntmps49 ?_
  refine callO.part0 [0] g (by decide) rfl rfl ⟨by rfl,by simp,trivial⟩ ?_
  refine vms0 ?_
  refine endK.ret ?_ (by first | rfl | simp [fmN,fm0,bel_clX]);simp [evRes,getT,retV,Tryz.f49,parQ,encMI,slM_nil]
 | some q =>
  obtain ⟨p1,t⟩:=q
  rw [hx] at g
  obtain ⟨e1,e2⟩:=hr p1 t hx
  subst e1 e2
  obtain ⟨hlen,hok⟩:=heat p _ hx
  have hni:=pOr_nice _ _ _ _ hx
  cases r with
  | cons c u =>
   have hne:(c::u=[])=False:=eq_false (List.cons_ne_nil _ _)
   refine PC.walk tok mixed cfg0 Tryz.func49 rfl Tryz.call49 (by simp [fmN,fm0,bel_clX]) (by first | rfl | simp [fmN,fm0,bel_clX]) ?_;refine vms1 Tryz.ntmps49 ?_
   refine callO.part0 [0] g (by decide) rfl rfl ⟨by rfl,by simp,trivial⟩ ?_
   refine vms1 hne ?_
   refine endK.ret ?_ (by first | rfl | simp [fmN,fm0,bel_clX]);simp [evRes,getT,retV,Tryz.f49,parQ,encMI,slM_nil]
  | nil =>
   have g2:=nodesJ p hni (by omega)
   by_cases h24:24<(flat p).length
   ·refine PC.walk tok mixed cfg0 Tryz.func49 rfl Tryz.call49 (by simp [fmN,fm0,bel_clX]) (by first | rfl | simp [fmN,fm0,bel_clX]) ?_;refine vms1 Tryz.ntmps49 ?_
    refine callO.part0 [0] g (by decide) rfl rfl ⟨by rfl,by simp,trivial⟩ ?_
    refine vms1 h24 ?_
    refine callI.of (mtX p) (callO.pcj g2 ?_)
    simp (maxSteps:=2000000) -implicitDefEqProofs +contextual (disch:=first | assumption | omega | decide +kernel) only [push_cast,↓capI,seval,Nat.reduceLeDiff,Nat.reduceEqDiff,reduceCtorEq,↓reduceIte,h24,V.sh,shOs,Ob.sh,sh_Ns]
    refine endK.ret ?_ (by first | rfl | simp [fmN,fm0,bel_clX]);simp [evRes,getT,retV,Tryz.f49,parQ,encMI,slM_nil,h24]
   ·have i1:=pc74 p hok (by omega)
    rw [encX] at i1
    have hsz:(flat p).length*2=((flat p).flatMap encN).length:=by rw [len_flat lenN]
    have htk:((flat p).flatMap encN).take ((flat p).length*2)=(flat p).flatMap encN:=take_N
    by_cases ht:tx p=s
    ·refine PC.walk tok mixed cfg0 Tryz.func49 rfl Tryz.call49 (by simp [fmN,fm0,bel_clX]) (by first | rfl | simp [fmN,fm0,bel_clX]) ?_;refine vms1 Tryz.ntmps49 ?_
     refine callO.part0 [0] g (by decide) rfl rfl ⟨by rfl,by simp,trivial⟩ ?_
     refine vms1 h24 ?_
     refine callI.of (mtX p) (callO.pcj g2 ?_)
     simp (maxSteps:=2000000) -implicitDefEqProofs +contextual (disch:=first | assumption | omega | decide +kernel) only [push_cast,↓capI,seval,Nat.reduceLeDiff,Nat.reduceEqDiff,reduceCtorEq,↓reduceIte,h24,V.sh,shOs,Ob.sh,sh_Ns]
     refine callO.pc i1 ?_
     refine vms1 ht ?_
     refine endK.gn (Gn.freeze (id:=1) rfl) ?_;refine endK.ret ?_ (by first | rfl | simp [fmN,fm0,bel_clX]);simp [fmN,fm0,bel_clX,fzs_ok,imp,lenOK_iff,List.take_of_length_le,evRes,getT,getO,setO,fzs,fz,fzH,Nat.beq,retV,Res.then,ldT,ldR,mkV,getV,fmN,fm0,take_N,toN1,slN_nil,encN,slN,cfg0,cfgS,cfgP,get_flat_part lenN,get_flat_drop lenN,len_flat lenN,V.rn,rns,qn,setPs,rnOs,Ob.rn,List.set_cons_zero,List.size_toArray,encX,rn_clX,List.flatMap_append,Tryz.f49,parQ,encMI,slM_cons (flat_ne p),h24,ht,slN,htk]
    ·refine PC.walk tok mixed cfg0 Tryz.func49 rfl Tryz.call49 (by simp [fmN,fm0,bel_clX]) (by first | rfl | simp [fmN,fm0,bel_clX]) ?_;refine vms1 Tryz.ntmps49 ?_
     refine callO.part0 [0] g (by decide) rfl rfl ⟨by rfl,by simp,trivial⟩ ?_
     refine vms1 h24 ?_
     refine callI.of (mtX p) (callO.pcj g2 ?_)
     simp (maxSteps:=2000000) -implicitDefEqProofs +contextual (disch:=first | assumption | omega | decide +kernel) only [push_cast,↓capI,seval,Nat.reduceLeDiff,Nat.reduceEqDiff,reduceCtorEq,↓reduceIte,h24,V.sh,shOs,Ob.sh,sh_Ns]
     refine callO.pc i1 ?_
     refine vms1 ht ?_
     refine endK.ret ?_ (by first | rfl | simp [fmN,fm0,bel_clX]);simp [evRes,getT,retV,Tryz.f49,parQ,encMI,slM_nil,h24,ht]
end
section
def encDR (r:Nat × Bool):V:=.tup [.int .u64 r.1,.bool r.2]
@[simp] theorem bel_encDR {n:Nat} {r:Nat × Bool}:(encDR r).bel n=true:=rfl
@[simp] theorem bel_encIB {n:Nat} {r:Int × Bool}:(encIB r).bel n=true:=rfl
attribute [local push_cast] cfg0 take_rest ibeq_dec
theorem pc64a (n:Nat) (hn:n<10):PC Tryz.prog 79 [.int .u64 n] (.str [UInt8.ofNat (48+n)]):=by
 have hn2:(n:Int)<10:=by omega
 refine PC.walk tok mixed cfg0 Tryz.func79 rfl Tryz.call79 (by simp) (by first | rfl | simp) ?_;refine vms1 Tryz.ntmps79 ?_
 have t1:((48:Int)+(n:Int)).toNat=48+n:=by omega
 refine endK.retA ?_;simp [evRes,getT,retV,Tryz.f79,hn,t1]
theorem pc64g:∀(k n:Nat),n<10^k→1≤k→k≤12→PC Tryz.prog 79 [.int .u64 n] (.str (dgs k n))
 | 0,_,_,h,_=>absurd h (by decide)
 | k+1,n,hn,_,hk=>by
  rw [dgs]
  by_cases h:n<10
  ·rw [if_pos h]
   exact pc64a n h
  rw [if_neg h]
  have hk1:1≤k:=by
   apply Decidable.byContradiction
   intro h0
   have:k=0:=by omega
   subst this
   simp at hn
   omega
  have hp:10^(k+1)≤10^12:=Nat.pow_le_pow_right (by decide) hk
  have hn12:n<1000000000000:=Nat.lt_of_lt_of_le hn hp
  have ih:=pc64g k (n / 10) (by rw [Nat.pow_succ] at hn;omega) hk1 (by omega)
  have hl:=dgs_len k (n / 10)
  have hn2:¬(n:Int)<10:=by omega
  have e1:IntKind.u64.wrap ((n:Int).tdiv 10)=((n / 10:Nat):Int):=by
   rw [Int.tdiv_eq_ediv_of_nonneg (by omega)]
   exact IntWalk.u64_in _ ⟨by omega,by omega⟩
  have e2:(n:Int).tmod 10=((n % 10:Nat):Int):=by rw [Int.tmod_eq_emod_of_nonneg (by omega)];omega
  refine PC.walk tok mixed cfg0 Tryz.func79 rfl Tryz.call79 (by simp) (by first | rfl | simp) ?_;refine vms1 Tryz.ntmps79 ?_
  rw [e1]
  refine callO.pc ih ?_
  simp (maxSteps:=2000000) -implicitDefEqProofs +contextual (disch:=first | assumption | omega | decide +kernel) only [push_cast,↓capI,seval,Nat.reduceLeDiff,Nat.reduceEqDiff,reduceCtorEq,↓reduceIte,e2]
  refine callO.pc (pc64a (n % 10) (by omega)) ?_
  refine vms0 ?_
  (try refine ⟨by (try simp only [List.length_append,List.length_cons,List.length_nil]);omega,fun _=>?_⟩)
  refine endK.retA ?_;simp [evRes,getT,retV,Tryz.f79]
theorem pc50g (n:Nat) (hn:n<1000000000):PC Tryz.prog 45 [.int .i64 n] (.str (dgs 9 n)):=by
 have h0:(0:Int)≤(n:Int):=by omega
 refine PC.walk tok mixed cfg0 Tryz.func45 rfl Tryz.call45 (by simp) (by first | rfl | simp) ?_;refine vms1 Tryz.ntmps45 ?_
 refine callO.pc (pc64g 9 n hn (by decide) (by decide)) ?_
 refine vms0 ?_
 refine endK.retA ?_;simp [evRes,getT,retV,Tryz.f45]
end
section
theorem prec_top {sw:Int} {p:Pr} (hp:okP sw p):(3≤prec p↔¬((top p).op=4∨(top p).op=5))∧(2≤prec p↔¬(top p).op=5)∧1≤prec p:=by
 cases p with
 | leaf x =>
  obtain ⟨h,_⟩:=hp
  simp only [prec,top]
  omega
 | un x p =>
  obtain ⟨h,_⟩:=hp
  simp only [prec,top]
  omega
 | bin x p q =>
  obtain ⟨h,_⟩:=hp
  simp only [prec,top]
  by_cases h5:x.op=5
  ·rw [if_pos h5]
   omega
  ·rw [if_neg h5]
   omega
attribute [local push_cast] fmN fm0 take_N toN1 slN_nil encN slN cfg0 gfp_lenN gfd_lenN lfl_lenN
theorem pc123 (l:List Nd) (a:Nat) (p:Pr) (r:List Nd) (y z:Int) (h:l.drop a=flat p++r) (hm:l.length≤4000000) (hpc:PC Tryz.prog 78 [slN l,.int .i64 a] (.str (tx p))) :
  PC Tryz.prog 123 [slN l,.int .i64 a,.int .i64 y,.int .i64 z] (.str (if (top p).op=y∨(top p).op=z then [40]++tx p++[41] else tx p)):=by
 obtain ⟨t,ht⟩:=flat_top p
 rw [ht,List.cons_append] at h
 obtain ⟨hlt,hX,_⟩:=drop_cons h
 have t1:=tx_len p
 have hn:=congrArg List.length h
 rw [List.length_drop,←List.cons_append,←ht,List.length_append] at hn
 by_cases hy:(top p).op=y
 ·rw [if_pos (.inl hy)]
  refine PC.walk tok mixed cfg0 Tryz.func123 rfl Tryz.call123 (by simp [fmN,fm0]) (by first | rfl | simp [fmN,fm0]) ?_;refine vms1 Tryz.ntmps123 ?_
  refine vms2 hX hy ?_
  refine callO.pc hpc ?_
  refine vms0 ?_
  (try refine ⟨by (try simp only [List.length_append,List.length_cons,List.length_nil]);omega,fun _=>?_⟩)
  (try refine vms0 ?_)
  (try refine ⟨by (try simp only [List.length_append,List.length_cons,List.length_nil]);omega,fun _=>?_⟩)
  refine endK.ret ?_ (by first | rfl | simp [fmN,fm0]);simp [evRes,getT,retV,Tryz.f123]
 by_cases hz:(top p).op=z
 ·rw [if_pos (.inr hz)]
  refine PC.walk tok mixed cfg0 Tryz.func123 rfl Tryz.call123 (by simp [fmN,fm0]) (by first | rfl | simp [fmN,fm0]) ?_;refine vms1 Tryz.ntmps123 ?_
  refine vms3 hX hy hz ?_
  refine callO.pc hpc ?_
  refine vms0 ?_
  (try refine ⟨by (try simp only [List.length_append,List.length_cons,List.length_nil]);omega,fun _=>?_⟩)
  (try refine vms0 ?_)
  (try refine ⟨by (try simp only [List.length_append,List.length_cons,List.length_nil]);omega,fun _=>?_⟩)
  refine endK.ret ?_ (by first | rfl | simp [fmN,fm0]);simp [evRes,getT,retV,Tryz.f123]
 ·rw [if_neg (fun g=>g.elim hy hz)]
  refine PC.walk tok mixed cfg0 Tryz.func123 rfl Tryz.call123 (by simp [fmN,fm0]) (by first | rfl | simp [fmN,fm0]) ?_;refine vms1 Tryz.ntmps123 ?_
  refine vms3 hX hy hz ?_
  refine callO.pc hpc ?_
  refine vms0 ?_
  refine endK.ret ?_ (by first | rfl | simp [fmN,fm0]);simp [evRes,getT,retV,Tryz.f123]
theorem in3 {sw:Int} {p:Pr} (hp:okP sw p):(if (top p).op=4∨(top p).op=5 then [40]++tx p++[41] else tx p)=inn (prec p) 3 (tx p):=by
 have:=(prec_top hp).1
 unfold inn
 by_cases h:(top p).op=4∨(top p).op=5
 ·rw [if_pos h,if_pos (by omega)]
 ·rw [if_neg h,if_neg (by omega)]
theorem in2 {sw:Int} {p:Pr} (hp:okP sw p):(if (top p).op=5∨(top p).op=5 then [40]++tx p++[41] else tx p)=inn (prec p) 2 (tx p):=by
 have:=(prec_top hp).2.1
 unfold inn
 by_cases h:(top p).op=5
 ·rw [if_pos (.inl h),if_pos (by omega)]
 ·rw [if_neg (fun g=>g.elim h h),if_neg (by omega)]
theorem in1 {sw:Int} {p:Pr} (hp:okP sw p):inn (prec p) 1 (tx p)=tx p:=by
 have:=(prec_top hp).2.2
 rw [inn,if_neg (by omega)]
theorem pc78 (l:List Nd) (hm:l.length≤4000000):∀(p:Pr) (a:Nat) (r:List Nd),okP 1000000000 p→l.drop a=flat p++r→PC Tryz.prog 78 [slN l,.int .i64 a] (.str (tx p))
 | .leaf x,a,r,hp,hl=>by
  have hok:=ok_leaf hp
  obtain ⟨h0,hc⟩:=hp
  obtain ⟨hlt,hX,h2⟩:=drop_cons (x:=x) (r:=r) hl
  rcases h0 with h | h | h
  ·refine PC.walk tok mixed cfg0 Tryz.func78 rfl Tryz.call78 (by simp [fmN,fm0]) (by first | rfl | simp [fmN,fm0]) ?_;refine vms1 Tryz.ntmps78 ?_
   refine vms2 hX h ?_
   refine endK.ret ?_ (by first | rfl | simp [fmN,fm0]);simp [evRes,getT,retV,Tryz.f78,tx,h]
  ·refine PC.walk tok mixed cfg0 Tryz.func78 rfl Tryz.call78 (by simp [fmN,fm0]) (by first | rfl | simp [fmN,fm0]) ?_;refine vms1 Tryz.ntmps78 ?_
   refine vms2 hX h ?_
   refine endK.ret ?_ (by first | rfl | simp [fmN,fm0]);simp [evRes,getT,retV,Tryz.f78,tx,h]
  ·obtain ⟨b1,b2⟩:=hok h
   have hf:=pc50g x.n.toNat (by omega)
   rw [Int.toNat_of_nonneg b1] at hf
   refine PC.walk tok mixed cfg0 Tryz.func78 rfl Tryz.call78 (by simp [fmN,fm0]) (by first | rfl | simp [fmN,fm0]) ?_;refine vms1 Tryz.ntmps78 ?_
   refine vms2 hX h ?_
   refine callO.pc hf ?_
   refine vms0 ?_
   refine endK.ret ?_ (by first | rfl | simp [fmN,fm0]);simp [evRes,getT,retV,Tryz.f78,tx,h]
 | .un x p,a,r,hp,hl=>by
  obtain ⟨h4,hp⟩:=hp
  obtain ⟨hlt,hX,h2⟩:=drop_cons (x:=x) (r:=flat p++r) (by rw [hl,flat,List.cons_append])
  have i1:=pc123 l (a+1) p r 4 5 h2 hm (pc78 l hm p (a+1) r hp h2)
  rw [show ((a+1:Nat):Int)=a+1 from rfl,in3 hp] at i1
  have hn:=drop_len hlt h2
  have ht:=tx_len p
  have hn:=inn_len (prec p) 3 (tx p)
  refine PC.walk tok mixed cfg0 Tryz.func78 rfl Tryz.call78 (by simp [fmN,fm0]) (by first | rfl | simp [fmN,fm0]) ?_;refine vms1 Tryz.ntmps78 ?_
  refine vms2 hX h4 ?_
  refine callO.pc i1 ?_
  refine vms0 ?_
  (try refine ⟨by (try simp only [List.length_append,List.length_cons,List.length_nil]);omega,fun _=>?_⟩)
  refine endK.ret ?_ (by first | rfl | simp [fmN,fm0]);simp [evRes,getT,retV,Tryz.f78,tx]
 | .bin x p q,a,r,hp,hl=>by
  obtain ⟨h4,hp,hq⟩:=hp
  obtain ⟨hlt,hX,h2⟩:=drop_cons (x:=x) (r:=flat p++(flat q++r)) (by rw [hl,flat,List.cons_append,List.append_assoc])
  have j1:=pc78 l hm p (a+1) _ hp h2
  have j2:=pc78 l hm q (a+1+(flat p).length) r hq (drop_app h2)
  have i3:=end40 p l (a+1) _ hp h2 hlt hm
  have hn:=drop_len hlt h2
  have hn2:=drop_len (by omega) (drop_app h2)
  have hnn:(flat p).length≤4000000:=by omega
  have t1:=tx_len p
  have t2:=tx_len q
  have n1:=inn_len (prec p) 2 (tx p)
  have n2:=inn_len (prec p) 1 (tx p)
  have n3:=inn_len (prec q) 2 (tx q)
  have n4:=inn_len (prec q) 3 (tx q)
  rcases h4 with h | h
  ·have i1:=pc123 l (a+1) p _ 5 5 h2 hm j1
   have i2:=pc123 l (a+1+(flat p).length) q _ 4 5 (drop_app h2) hm j2
   rw [in2 hp] at i1
   rw [in3 hq] at i2
   rw [show ((a+1+(flat p).length:Nat):Int)=(a:Int)+1+((flat p).length:Nat) by omega] at i2
   rw [show ((a+1:Nat):Int)=a+1 from rfl] at i1 i3
   refine PC.walk tok mixed cfg0 Tryz.func78 rfl Tryz.call78 (by simp [fmN,fm0]) (by first | rfl | simp [fmN,fm0]) ?_;refine vms1 Tryz.ntmps78 ?_
   refine vms2 hX h ?_
   refine callO.pc i1 ?_
   refine vms0 ?_
   (try refine ⟨by (try simp only [List.length_append,List.length_cons,List.length_nil]);omega,fun _=>?_⟩)
   refine callO.pc i3 ?_
   refine vms0 ?_
   refine callO.pc i2 ?_
   refine vms0 ?_
   (try refine ⟨by (try simp only [List.length_append,List.length_cons,List.length_nil]);omega,fun _=>?_⟩)
   refine endK.ret ?_ (by first | rfl | simp [fmN,fm0]);simp [evRes,getT,retV,Tryz.f78,tx,h]
  ·have i2:=pc123 l (a+1+(flat p).length) q _ 5 5 (drop_app h2) hm j2
   rw [in2 hq] at i2
   rw [show ((a+1+(flat p).length:Nat):Int)=(a:Int)+1+((flat p).length:Nat) by omega] at i2
   rw [show ((a+1:Nat):Int)=a+1 from rfl] at j1 i3
   refine PC.walk tok mixed cfg0 Tryz.func78 rfl Tryz.call78 (by simp [fmN,fm0]) (by first | rfl | simp [fmN,fm0]) ?_;refine vms1 Tryz.ntmps78 ?_
   refine vms2 hX h ?_
   refine callO.pc j1 ?_
   refine vms0 ?_
   (try refine ⟨by (try simp only [List.length_append,List.length_cons,List.length_nil]);omega,fun _=>?_⟩)
   refine callO.pc i3 ?_
   refine vms0 ?_
   refine callO.pc i2 ?_
   refine vms0 ?_
   (try refine ⟨by (try simp only [List.length_append,List.length_cons,List.length_nil]);omega,fun _=>?_⟩)
   refine endK.ret ?_ (by first | rfl | simp [fmN,fm0]);simp [evRes,getT,retV,Tryz.f78,tx,h,in1 hp]
theorem pc44 (l:List Nd) (hl:l.length≤4000000) (s:List UInt8) (e:Int) (h:fmtL l s e):PC Tryz.prog 44 [slN l] (.tup [.str s,.int .i64 e]):=by
 obtain ⟨he,⟨hc,p,hp,hf,h24,hs⟩ | ⟨hc,hs⟩⟩:=h
 ·have i1:=pc78 l hl p 0 [] hp (by rw [List.append_nil,←hf,List.drop_zero])
  have i0:=pc59 1000000000 l hl
  rw [hc] at i0
  refine PC.walk tok mixed cfg0 Tryz.func44 rfl Tryz.call44 (by simp [fmN,fm0]) (by first | rfl | simp [fmN,fm0]) ?_;refine vms1 Tryz.ntmps44 ?_
  refine callO.pc i0 ?_
  refine vms0 ?_
  refine callO.pc i1 ?_
  refine vms0 ?_
  refine endK.ret ?_ (by first | rfl | simp [fmN,fm0]);simp [evRes,getT,retV,Tryz.f44,he,hc,hs]
 ·refine PC.walk tok mixed cfg0 Tryz.func44 rfl Tryz.call44 (by simp [fmN,fm0]) (by first | rfl | simp [fmN,fm0]) ?_;refine vms1 Tryz.ntmps44 ?_
  refine callO.pc (pc59 1000000000 l hl) ?_
  refine vms1 hc ?_
  refine endK.ret ?_ (by first | rfl | simp [fmN,fm0]);simp [evRes,getT,retV,Tryz.f44,he,hs]
end
section
theorem valL_app:∀(a b:List UInt8) (v:Nat),valL (a++b) v=(valL a v).bind (valL b)
 | [],b,v=>rfl
 | c::a,b,v=>by
  rw [List.cons_append,valL,valL]
  by_cases h:isDig c=true
  ·rw [if_pos h,if_pos h,valL_app a b]
  ·rw [if_neg h,if_neg h];rfl
theorem dgs_head:∀k v,v<10^k→1≤k→dgs k v≠[]∧((dgs k v).length=1∨((dgs k v).getD 0 0).toNat≠48)∧(1≤v→((dgs k v).getD 0 0).toNat≠48)
 | 0,_,_,h=>absurd h (by decide)
 | k+1,v,hv,_=>by
  rw [dgs]
  by_cases h:v<10
  ·rw [if_pos h]
   refine ⟨List.cons_ne_nil _ _,.inl rfl,fun h1=>?_⟩
   rw [List.getD_cons_zero,UInt8.toNat_ofNat']
   omega
  ·rw [if_neg h]
   have hk1:1≤k:=by
    apply Decidable.byContradiction
    intro h0
    have:k=0:=by omega
    subst this
    simp at hv
    omega
   obtain ⟨i1,_,i3⟩:=dgs_head k (v / 10) (by rw [Nat.pow_succ] at hv;omega) hk1
   have i3:=i3 (by omega)
   cases hq:dgs k (v / 10) with
   | nil=>exact absurd hq i1
   | cons y l =>
    rw [hq,List.getD_cons_zero] at i3
    exact ⟨List.cons_ne_nil _ _,.inr i3,fun _=>i3⟩
theorem dgs_canon (v:Nat) (hv:v<1000000000):canonD (dgs 9 v)=true:=by
 obtain ⟨h1,h2,_⟩:=dgs_head 9 v hv (by decide)
 simp only [canonD,Bool.or_eq_true,decide_eq_true_eq,Bool.and_eq_true,bne_iff_ne]
 rcases h2 with h | h
 ·exact .inl h
 ·exact .inr ⟨h1,by omega⟩
attribute [local push_cast] cfg0 take_rest ibeq_dec encDR
end
section
def cl:Pr→Pr
 | .leaf x=>.leaf (if x.op=3 then x else op0 x.op)
 | .un x p=>.un (op0 x.op) (cl p)
 | .bin x p q=>.bin (op0 x.op) (cl p) (cl q)
theorem cl_prec:∀p,prec (cl p)=prec p
 | .leaf x=>rfl
 | .un x p=>rfl
 | .bin x p q=>rfl
theorem cl_len:∀p,(flat (cl p)).length=(flat p).length
 | .leaf x=>rfl
 | .un x p=>by rw [cl,flat,flat,List.length_cons,List.length_cons,cl_len p]
 | .bin x p q=>by rw [cl,flat,flat,List.length_cons,List.length_cons,List.length_append,List.length_append,cl_len p,cl_len q]
theorem cl_tx:∀ {p},okP 1000000000 p→tx (cl p)=tx p
 | .leaf x,⟨h,_⟩=>by
  rw [cl]
  rcases h with h | h | h
  ·rw [if_neg (by omega),tx,tx,h];rfl
  ·rw [if_neg (by omega),tx,tx,h];rfl
  ·rw [if_pos h]
 | .un x p,⟨_,hp⟩=>by rw [cl,tx,tx,cl_tx hp,cl_prec]
 | .bin x p q,⟨_,hp,hq⟩=>by
  rw [cl,tx,tx,cl_tx hp,cl_tx hq,cl_prec,cl_prec]
  rfl
theorem cl_ok:∀ {p},okP 1000000000 p→okP 1000000000 (cl p)
 | .leaf x,⟨h,hc⟩=>by
  rw [cl]
  rcases h with h | h | h
  ·rw [if_neg (by omega),h];exact ⟨.inl rfl,rfl⟩
  ·rw [if_neg (by omega),h];exact ⟨.inr (.inl rfl),rfl⟩
  ·rw [if_pos h];exact ⟨.inr (.inr h),hc⟩
 | .un x p,⟨h,hp⟩=>⟨h,cl_ok hp⟩
 | .bin x p q,⟨h,hp,hq⟩=>⟨h,cl_ok hp,cl_ok hq⟩
theorem lst_fuel {nx:List UInt8→PR} (h:Eats nx) {o:Int} {c:UInt8}:∀k k' x s,s.length<k→s.length<k'→lst nx o c k x s=lst nx o c k' x s
 | 0,_,_,_,hk,_=>absurd hk (Nat.not_lt_zero _)
 | _+1,0,_,_,_,hk=>absurd hk (Nat.not_lt_zero _)
 | k+1,k'+1,x,s,hk,hk'=>by
  rw [lst,lst]
  by_cases hb:begins s [c]=true
  ·have hl:=begins_le hb
   simp only [List.length_cons,List.length_nil] at hl
   rw [if_pos hb,if_pos hb]
   cases hn:nx (s.drop 1) with
   | none=>rfl
   | some q =>
    obtain ⟨y,r⟩:=q
    have h1:=(h _ _ _ hn).1
    rw [List.length_drop] at h1
    exact lst_fuel h k k' _ r (by omega) (by omega)
  ·rw [if_neg hb,if_neg hb]
def stop (r:List UInt8):Prop:=∀c t,r=c::t→isDig c=false
def nob (r:List UInt8) (d:UInt8):Prop:=∀c t,r=c::t→c≠d
theorem stop_cons {c:UInt8} {t:List UInt8} (h:isDig c=false):stop (c::t):=by
 intro d u e
 cases e
 exact h
theorem nob_cons {c d:UInt8} {t:List UInt8} (h:c≠d):nob (c::t) d:=by
 intro e u h2
 cases h2
 exact h
theorem nob_begins {r:List UInt8} {d:UInt8} (h:nob r d):begins r [d]=false:=by
 cases r with
 | nil=>rfl
 | cons c t=>rw [begins_cons,beq_eq_false_iff_ne];exact h c t rfl
theorem begins_app (p z:List UInt8):begins (p++z) p=true:=by
 simp [begins]
theorem begins_ne {c d:UInt8} {s p:List UInt8} (h:c≠d):begins (c::s) (d::p)=false:=by
 simp [begins,h]
theorem digs_app {d r:List UInt8} (hd:∀c,c ∈ d→isDig c=true) (hr:∀c t,r=c::t→isDig c=false):digs (d++r)=d∧dropD (d++r)=r:=by
 induction d with
 | nil =>
  cases r with
  | nil=>exact ⟨rfl,rfl⟩
  | cons c t =>
   have:=hr c t rfl
   refine ⟨?_,dropD_no this⟩
   rw [List.nil_append,digs,List.takeWhile_cons,if_neg (by rw [this];simp)]
 | cons x d ih =>
  have hx:=hd x (List.mem_cons_self ..)
  obtain ⟨i1,i2⟩:=ih (fun c hc=>hd c (List.mem_cons_of_mem _ hc))
  refine ⟨?_,?_⟩
  ·rw [List.cons_append,digs,List.takeWhile_cons,if_pos hx]
   exact congrArg (x::·) i1
  ·rw [List.cons_append,dropD_yes hx]
   exact i2
theorem dig_of {n:Nat} (h:n<10):isDig (UInt8.ofNat (48+n))=true∧(UInt8.ofNat (48+n)).toNat=48+n:=by
 have e:(UInt8.ofNat (48+n)).toNat=48+n:=by rw [UInt8.toNat_ofNat'];omega
 refine ⟨?_,e⟩
 simp only [isDig,e,Bool.and_eq_true,decide_eq_true_eq]
 omega
theorem dgs_ok:∀k v,v<10^k→(∀c,c ∈ dgs k v→isDig c=true)∧(1≤k→valL (dgs k v) 0=some v)
 | 0,v,_=>⟨fun c hc=>(by cases hc),fun h=>absurd h (by decide)⟩
 | k+1,v,hv=>by
  rw [dgs]
  by_cases h:v<10
  ·rw [if_pos h]
   obtain ⟨h1,h2⟩:=dig_of h
   refine ⟨fun c hc=>?_,fun _=>?_⟩
   ·rw [List.mem_singleton.1 hc];exact h1
   ·rw [valL,if_pos h1,h2,valL]
    congr 1
    omega
  ·rw [if_neg h]
   have hk1:1≤k:=by
    apply Decidable.byContradiction
    intro h0
    have:k=0:=by omega
    subst this
    simp at hv
    omega
   obtain ⟨i1,i2⟩:=dgs_ok k (v / 10) (by rw [Nat.pow_succ] at hv;omega)
   obtain ⟨h1,h2⟩:=dig_of (n:=v % 10) (by omega)
   refine ⟨fun c hc=>?_,fun _=>?_⟩
   ·rcases List.mem_append.1 hc with hc | hc
    ·exact i1 c hc
    ·rw [List.mem_singleton.1 hc];exact h1
   ·rw [valL_app,i2 hk1,Option.bind_some,valL,if_pos h1,h2,valL]
    congr 1
    omega
theorem parseI_dgs (v:Nat) (hv:v<1000000000):parseI (dgs 9 v)=((v:Int),true):=by
 obtain ⟨h1,h2⟩:=dgs_ok 9 v hv
 have hl:=dgs_len 9 v
 rw [parseI,if_neg (by rw [no_minus h1];simp),if_neg (by rw [dgs_canon v hv];simp;omega),h2 (by decide)]
theorem pNumb_dgs (v:Nat) (hv:v<1000000000) {r:List UInt8} (hr:stop r):pNumb (dgs 9 v++r)=some (.leaf ⟨3,v⟩,r):=by
 obtain ⟨h1,h2⟩:=digs_app (dgs_ok 9 v hv).1 hr
 rw [pNumb,h1,h2,parseI_dgs v hv,if_pos rfl]
theorem dgs_first (v:Nat) (hv:v<1000000000):∃c t,dgs 9 v=c::t∧isDig c=true:=by
 have h:=(dgs_head 9 v hv (by decide)).1
 cases hq:dgs 9 v with
 | nil=>exact absurd hq h
 | cons c t =>
  refine ⟨c,t,rfl,(dgs_ok 9 v hv).1 c ?_⟩
  rw [hq]
  exact List.mem_cons_self ..
theorem inn_first {k n:Int} {s:List UInt8} {c:UInt8} {t:List UInt8} (h:s=c::t) (hc:c≠41):∀z,∃d u,inn k n s++z=d::u∧d≠41:=by
 intro z
 unfold inn
 split
 ·exact ⟨40,_,rfl,by decide⟩
 ·rw [h]
  exact ⟨c,_,rfl,hc⟩
theorem tx_first:∀p,okP 1000000000 p→∃c t,tx p=c::t∧c≠41
 | .leaf x,hp=>by
  rw [tx]
  split
  ·exact ⟨40,[41],rfl,by decide⟩
  split
  ·exact ⟨46,[],rfl,by decide⟩
  ·rename_i h1 h2
   have h3:x.op=3:=by have:=hp.1;omega
   obtain ⟨b1,b2⟩:=ok_leaf hp h3
   obtain ⟨c,t,e,hc⟩:=dgs_first x.n.toNat (by omega)
   refine ⟨c,t,e,?_⟩
   intro e2
   rw [e2] at hc
   exact absurd hc (by decide)
 | .un x p,⟨_,hp⟩=>by
  obtain ⟨c,t,e,hc⟩:=tx_first p hp
  rw [tx]
  exact inn_first e hc _
 | .bin x p q,⟨_,hp,_⟩=>by
  obtain ⟨c,t,e,hc⟩:=tx_first p hp
  rw [tx]
  split
  ·obtain ⟨d,u,h1,h2⟩:=inn_first (k:=prec p) (n:=1) e hc ([124]++inn (prec q) 2 (tx q))
   exact ⟨d,u,by rw [List.append_assoc];exact h1,h2⟩
  ·obtain ⟨d,u,h1,h2⟩:=inn_first (k:=prec p) (n:=2) e hc ([44]++inn (prec q) 3 (tx q))
   exact ⟨d,u,by rw [List.append_assoc];exact h1,h2⟩
theorem begins_pt {s:List UInt8} {c:UInt8} (h:c≠41):begins (40::c::s) [40,41]=false:=by
 simp [begins,h]
theorem leaf_txt {k:Nat} {x:Nd} (hp:okP 1000000000 (.leaf x)) {r:List UInt8} (hr:stop r):pAtm (k+1) (tx (.leaf x)++r)=some (cl (.leaf x),r):=by
 have hok:=ok_leaf hp
 obtain ⟨h0,hc⟩:=hp
 rcases h0 with h | h | h
 ·rw [tx,if_pos h,cl,if_neg (by omega),h,pAtm,begins_app,if_pos rfl]
  rfl
 ·have e1:begins ([46]++r) [40,41]=false:=begins_ne (by decide)
  rw [tx,if_neg (by omega),if_pos h,cl,if_neg (by omega),h,pAtm,e1,if_neg (by simp),begins_app,if_pos rfl]
  rfl
 ·obtain ⟨b1,b2⟩:=hok h
  obtain ⟨c,t,e,hd⟩:=dgs_first x.n.toNat (by omega)
  have n1:c≠40:=fun e2=>by rw [e2] at hd;exact absurd hd (by decide)
  have n2:c≠46:=fun e2=>by rw [e2] at hd;exact absurd hd (by decide)
  have e0:=pNumb_dgs x.n.toNat (by omega) hr
  have e1:begins (dgs 9 x.n.toNat++r) [40,41]=false:=by rw [e];exact begins_ne n1
  have e2:begins (dgs 9 x.n.toNat++r) [46]=false:=by rw [e];exact begins_ne n2
  have e3:begins (dgs 9 x.n.toNat++r) [40]=false:=by rw [e];exact begins_ne n1
  rw [tx,if_neg (by omega),if_neg (by omega),cl,if_pos h,pAtm,e1,if_neg (by simp),e2,if_neg (by simp),e3,if_neg (by simp),e0,Int.toNat_of_nonneg b1,←h]
def SS (p:Pr):Prop:=∀k r,stop r→(inn (prec p) 3 (tx p)++r).length<k→pStr (pAtm k) (inn (prec p) 3 (tx p)++r)=some (strs (r.length+1) (cl p) r)
def CC (p:Pr):Prop:=∀k r,stop r→nob r 42→(inn (prec p) 2 (tx p)++r).length<k→pCat k (inn (prec p) 2 (tx p)++r)=lst (pStr (pAtm k)) 4 44 (r.length+1) (cl p) r
def OO (p:Pr):Prop:=∀k r,stop r→nob r 42→nob r 44→(tx p++r).length<k→pOr k (tx p++r)=lst (pCat k) 5 124 (r.length+1) (cl p) r
theorem SS_end {p:Pr} (h:SS p) {k:Nat} {r:List UInt8} (hr:stop r) (ha:nob r 42) (hk:(inn (prec p) 3 (tx p)++r).length<k):pStr (pAtm k) (inn (prec p) 3 (tx p)++r)=some (cl p,r):=by
 rw [h k r hr hk,strs,nob_begins ha,if_neg (by simp)]
theorem CC_end {p:Pr} (h:CC p) {k:Nat} {r:List UInt8} (hr:stop r) (ha:nob r 42) (hb:nob r 44) (hk:(inn (prec p) 2 (tx p)++r).length<k):pCat k (inn (prec p) 2 (tx p)++r)=some (cl p,r):=by
 rw [h k r hr ha hk,lst,nob_begins hb,if_neg (by simp)]
theorem OO_end {p:Pr} (h:OO p) {k:Nat} {r:List UInt8} (hr:stop r) (ha:nob r 42) (hb:nob r 44) (hc:nob r 124) (hk:(tx p++r).length<k):pOr k (tx p++r)=some (cl p,r):=by
 rw [h k r hr ha hb hk,lst,nob_begins hc,if_neg (by simp)]
theorem CC_of_SS {p:Pr} (h:SS p) (e:inn (prec p) 2 (tx p)=inn (prec p) 3 (tx p)):CC p:=by
 intro k r hr ha hk
 rw [e] at hk ⊢
 rw [pCat,lstP,SS_end h hr ha hk]
theorem OO_of_CC {p:Pr} (h:CC p) (e:inn (prec p) 2 (tx p)=tx p):OO p:=by
 intro k r hr ha hb hk
 have hA:=CC_end h hr ha hb (k:=k) (by rw [e];exact hk)
 rw [e] at hA
 rw [pOr,lstP,hA]
theorem SS_of_OO {p:Pr} (hok:okP 1000000000 p) (h:OO p) (hp:prec p<3):SS p:=by
 intro k r hr hk
 rw [inn,if_pos hp] at hk ⊢
 cases k with
 | zero=>exact absurd hk (Nat.not_lt_zero _)
 | succ k =>
  have e:[40]++tx p++[41]++r=40::(tx p++(41::r)):=by simp
  rw [e] at hk ⊢
  rw [List.length_cons] at hk
  have hO:=OO_end h (k:=k) (r:=41::r) (stop_cons (by decide)) (nob_cons (by decide)) (nob_cons (by decide)) (nob_cons (by decide)) (by omega)
  obtain ⟨c,t,ec,hc⟩:=tx_first p hok
  have e1:begins (40::(tx p++(41::r))) [40,41]=false:=by rw [ec];exact begins_pt hc
  have e2:begins (40::(tx p++(41::r))) [46]=false:=begins_ne (by decide)
  have e4:begins (40::(tx p++(41::r))) [40]=true:=begins_cons
  have e5:begins (41::r) [41]=true:=begins_cons
  have hat:pAtm (k+1) (40::(tx p++(41::r)))=some (cl p,r):=by
   rw [pAtm,e1,e2,e4,if_neg (by simp),if_neg (by simp),if_pos rfl]
   rw [pOr,pCat] at hO
   rw [List.drop_succ_cons,List.drop_zero]
   rw [show lstP (lstP (pStr (pAtm k)) 4 44) 5 124 (tx p++41::r)=some (cl p,41::r) from hO]
   simp only
   rw [e5,if_pos rfl]
   rfl
  rw [pStr,hat]
theorem inn_pre (k need:Int) (s:List UInt8) (h:¬k<need):inn k need s=s:=by rw [inn,if_neg h]
theorem all_txt:∀p,okP 1000000000 p→SS p∧CC p∧OO p
 | .leaf x,hp=>by
  have e3:=inn_pre _ _ (tx (.leaf x)) (show ¬prec (.leaf x)<3 from (by decide:¬(3:Int)<3))
  have e2:=inn_pre _ _ (tx (.leaf x)) (show ¬prec (.leaf x)<2 from (by decide:¬(3:Int)<2))
  have hN:SS (.leaf x):=by
   intro k r hr hk
   cases k with
   | zero=>exact absurd hk (Nat.not_lt_zero _)
   | succ k=>rw [e3,pStr,leaf_txt hp hr]
  have hA:=CC_of_SS hN (by rw [e3,e2])
  exact ⟨hN,hA,OO_of_CC hA e2⟩
 | .un x p,⟨h4,hp⟩=>by
  obtain ⟨iN,_,_⟩:=all_txt p hp
  have e3:=inn_pre _ _ (tx (.un x p)) (show ¬prec (.un x p)<3 from (by decide:¬(3:Int)<3))
  have e2:=inn_pre _ _ (tx (.un x p)) (show ¬prec (.un x p)<2 from (by decide:¬(3:Int)<2))
  have hN:SS (.un x p):=by
   intro k r hr hk
   rw [e3,tx] at hk ⊢
   have e:inn (prec p) 3 (tx p)++[42]++r=inn (prec p) 3 (tx p)++(42::r):=by simp
   rw [e] at hk ⊢
   have e1:begins (42::r) [42]=true:=begins_cons
   rw [iN k (42::r) (stop_cons (by decide)) hk,strs,e1,if_pos rfl,List.drop_succ_cons,List.drop_zero,cl,h4]
   rfl
  have hA:=CC_of_SS hN (by rw [e3,e2])
  exact ⟨hN,hA,OO_of_CC hA e2⟩
 | .bin x p q,⟨h45,hp,hq⟩=>by
  obtain ⟨iS,iC,iO⟩:=all_txt p hp
  obtain ⟨jS,jC,jO⟩:=all_txt q hq
  have hok:okP 1000000000 (.bin x p q):=⟨h45,hp,hq⟩
  rcases h45 with h | h
  ·have n5:¬x.op=5:=by omega
   have hpr:prec (.bin x p q)=2:=by rw [prec,if_neg n5]
   have hA:CC (.bin x p q):=by
    intro k r hr ha hk
    rw [hpr,inn_pre _ _ _ (by decide:¬(2:Int)<2),tx,if_neg n5] at hk ⊢
    have e:inn (prec p) 2 (tx p)++[44]++inn (prec q) 3 (tx q)++r=inn (prec p) 2 (tx p)++(44::(inn (prec q) 3 (tx q)++r)):=by simp
    rw [e] at hk ⊢
    have hk2:(inn (prec q) 3 (tx q)++r).length<k:=by
     rw [List.length_append,List.length_cons] at hk
     omega
    have e1:begins (44::(inn (prec q) 3 (tx q)++r)) [44]=true:=begins_cons
    rw [iC k _ (stop_cons (by decide)) (nob_cons (by decide)) hk,lst,e1,if_pos rfl,List.drop_succ_cons,List.drop_zero,SS_end jS hr ha hk2,cl,h]
    exact lst_fuel (pStr_eats (pAtm_eats k)) _ _ _ r (by rw [List.length_cons,List.length_append];omega) (by omega)
   have hO:=OO_of_CC hA (by rw [hpr];exact inn_pre _ _ _ (by decide))
   exact ⟨SS_of_OO hok hO (by rw [hpr];decide),hA,hO⟩
  ·have hpr:prec (.bin x p q)=1:=by rw [prec,if_pos h]
   have hO:OO (.bin x p q):=by
    intro k r hr ha hb hk
    rw [tx,if_pos h] at hk ⊢
    have e:inn (prec p) 1 (tx p)++[124]++inn (prec q) 2 (tx q)++r=tx p++(124::(inn (prec q) 2 (tx q)++r)):=by
     rw [in1 hp]
     simp
    rw [e] at hk ⊢
    have hk2:(inn (prec q) 2 (tx q)++r).length<k:=by
     rw [List.length_append,List.length_cons] at hk
     omega
    have e1:begins (124::(inn (prec q) 2 (tx q)++r)) [124]=true:=begins_cons
    rw [iO k _ (stop_cons (by decide)) (nob_cons (by decide)) (nob_cons (by decide)) hk,lst,e1,if_pos rfl,List.drop_succ_cons,List.drop_zero,CC_end jC hr ha hb hk2,cl,h]
    exact lst_fuel (pCat_eats k) _ _ _ r (by rw [List.length_cons,List.length_append];omega) (by omega)
   have hN:=SS_of_OO hok hO (by rw [hpr];decide)
   exact ⟨hN,CC_of_SS hN (by rw [hpr];rfl),hO⟩
theorem parse_tx {p:Pr} (hp:okP 1000000000 p) (hl:(flat p).length≤24):parP (tx p)=(flat (cl p),0):=by
 have ht:=tx_len p
 have h:=OO_end (all_txt p hp).2.2 (k:=(tx p).length+1) (r:=[]) (fun c t e=>by cases e) (fun c t e=>by cases e) (fun c t e=>by cases e) (fun c t e=>by cases e) (by rw [List.append_nil];omega)
 rw [List.append_nil] at h
 rw [parP,if_neg (by omega),h,parQ,cl_len,if_neg (by omega),if_pos (cl_tx hp)]
end
end Go.Proofs.YtlbmbbaefncleaaGreatDoor.Px

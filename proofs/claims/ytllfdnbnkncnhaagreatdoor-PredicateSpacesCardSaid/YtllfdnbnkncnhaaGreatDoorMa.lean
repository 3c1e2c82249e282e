/-
  Joined by a program from the texts Types Base Tern Bits Sub Sub2 Cube Cube2 Any Red Simp Union Inter Cut Plain Sub8 Compl.
-/
import Derived.Test.YtllfdnbnkncnhaaGreatDoorProg
import Derived.KernelRfl
import Derived.Test.YtllfdnbnkncnhaaGreatDoorVm5
import Derived.Test.YtllfdnbnkncnhaaGreatDoorVm4
import Derived.Test.YtllfdnbnkncnhaaGreatDoorVm6
import Derived.Test.YtllfdnbnkncnhaaGreatDoorVm7
/- The table of types of this program, for the library Vm, and that it is true. Printed by a program (types.py). -/
set_option linter.all false
set_option maxRecDepth 100000
namespace Go.Proofs.YtllfdnbnkncnhaaGreatDoor
open Go.Vm

instance gtab : GlobTab := ⟨fun g => match g with | 0 => some [(.u64, 1), (.u64, 10), (.u64, 100), (.u64, 1000), (.u64, 10000), (.u64, 100000), (.u64, 1000000), (.u64, 10000000), (.u64, 100000000), (.u64, 1000000000), (.u64, 10000000000), (.u64, 100000000000), (.u64, 1000000000000), (.u64, 10000000000000), (.u64, 100000000000000), (.u64, 1000000000000000), (.u64, 10000000000000000), (.u64, 100000000000000000), (.u64, 1000000000000000000), (.u64, 10000000000000000000)] | _ => none⟩
def ty1 : TI := ⟨1, 8, false, .nilf, .func, []⟩
def ty2 : TI := ⟨1, 8, false, .int .i64 0, .int .i64, []⟩
def ty3 : TI := ⟨1, 8, false, .int .i64 0, .int .i64, []⟩
def ty4 : TI := ⟨1, 1, false, .bool false, .bool, []⟩
def ty5 : TI := ⟨1, 1, false, .int .u8 0, .int .u8, []⟩
def ty6 : TI := ⟨1, 1, false, .int .u8 0, .int .u8, []⟩
def ty7 : TI := ⟨4, 24, true, .agg [.int .i64 0, .int .i64 0, .bool false, .int .u8 0], .struct [(0, 2), (1, 3), (2, 4), (3, 6)], [.int .i64, .int .i64, .bool, .int .u8]⟩
def ty8 : TI := ⟨4, 24, true, .agg [.int .i64 0, .int .i64 0, .bool false, .int .u8 0], .struct [(0, 2), (1, 3), (2, 4), (3, 6)], [.int .i64, .int .i64, .bool, .int .u8]⟩
def ty9 : TI := ⟨1, 16, false, .str [], .str, []⟩
def ty10 : TI := ⟨1, 16, false, .str [], .str, []⟩
def ty11 : TI := ⟨1, 16, false, .str [], .str, []⟩
def ty12 : TI := ⟨1, 8, false, .int .u64 0, .int .u64, []⟩
def ty13 : TI := ⟨2, 24, true, .agg [.str [], .int .u64 0], .struct [(0, 9), (1, 12)], []⟩
def ty14 : TI := ⟨2, 24, true, .agg [.str [], .int .u64 0], .struct [(0, 9), (1, 12)], []⟩
def ty15 : TI := ⟨1, 8, false, .nilp, .ptr 161, []⟩
def ty16 : TI := ⟨1, 8, false, .nilp, .ptr 164, []⟩
def ty17 : TI := ⟨1, 8, false, .nilp, .ptr 173, []⟩
def ty18 : TI := ⟨1, 8, true, .agg [.nilp], .struct [(0, 17)], []⟩
def ty19 : TI := ⟨1, 8, true, .agg [.nilp], .struct [(0, 17)], []⟩
def ty20 : TI := ⟨1, 16, false, .nili, .iface, []⟩
def ty21 : TI := ⟨1, 4, false, .int .i32 0, .int .i32, []⟩
def ty22 : TI := ⟨1, 24, false, .sl true [] 0, .slice 36, []⟩
def ty23 : TI := ⟨1, 8, false, .nilf, .func, []⟩
def ty24 : TI := ⟨1, 8, false, .nilf, .func, []⟩
def ty25 : TI := ⟨1, 24, false, .sl true [] 0, .slice 56, []⟩
def ty26 : TI := ⟨1, 8, false, .int .i64 0, .int .i64, []⟩
def ty28 : TI := ⟨1, 8, false, .nilf, .func, []⟩
def ty29 : TI := ⟨1, 8, false, .nilf, .func, []⟩
def ty31 : TI := ⟨1, 8, false, .nilf, .func, []⟩
def ty32 : TI := ⟨1, 8, false, .nilf, .func, []⟩
def ty33 : TI := ⟨1, 8, false, .nilf, .func, []⟩
def ty34 : TI := ⟨1, 8, false, .nilf, .func, []⟩
def ty35 : TI := ⟨4, 24, true, .agg [.int .i64 0, .int .i64 0, .int .u8 0, .int .u8 0], .struct [(0, 3), (1, 3), (2, 5), (3, 5)], [.int .i64, .int .i64, .int .u8, .int .u8]⟩
def ty36 : TI := ⟨4, 24, true, .agg [.int .i64 0, .int .i64 0, .int .u8 0, .int .u8 0], .struct [(0, 3), (1, 3), (2, 5), (3, 5)], [.int .i64, .int .i64, .int .u8, .int .u8]⟩
def ty38 : TI := ⟨1, 8, false, .nilf, .func, []⟩
def ty39 : TI := ⟨1, 8, false, .nilf, .func, []⟩
def ty40 : TI := ⟨1, 8, false, .nilf, .func, []⟩
def ty41 : TI := ⟨3, 3, true, .agg [.int .u8 0, .int .u8 0, .int .u8 0], .struct [(0, 5), (1, 5), (2, 5)], [.int .u8, .int .u8, .int .u8]⟩
def ty42 : TI := ⟨3, 3, true, .agg [.int .u8 0, .int .u8 0, .int .u8 0], .struct [(0, 5), (1, 5), (2, 5)], [.int .u8, .int .u8, .int .u8]⟩
def ty43 : TI := ⟨1, 8, false, .int .u64 0, .int .u64, []⟩
def ty44 : TI := ⟨1, 8, false, .nilf, .func, []⟩
def ty45 : TI := ⟨1, 8, false, .nilf, .func, []⟩
def ty46 : TI := ⟨1, 8, false, .nilf, .func, []⟩
def ty47 : TI := ⟨1, 8, false, .nilp, .ptr 50, []⟩
def ty48 : TI := ⟨1, 8, false, .nilm, .map 3 25, []⟩
def ty49 : TI := ⟨2, 32, true, .agg [.sl true [] 0, .nilm], .struct [(0, 22), (1, 48)], []⟩
def ty50 : TI := ⟨2, 32, true, .agg [.sl true [] 0, .nilm], .struct [(0, 22), (1, 48)], []⟩
def ty52 : TI := ⟨1, 8, false, .nilf, .func, []⟩
def ty53 : TI := ⟨1, 8, false, .nilf, .func, []⟩
def ty54 : TI := ⟨1, 8, false, .nilf, .func, []⟩
def ty55 : TI := ⟨2, 16, true, .agg [.int .u64 0, .int .u64 0], .struct [(0, 43), (1, 43)], [.int .u64, .int .u64]⟩
def ty56 : TI := ⟨2, 16, true, .agg [.int .u64 0, .int .u64 0], .struct [(0, 43), (1, 43)], [.int .u64, .int .u64]⟩
def ty57 : TI := ⟨1, 8, false, .nilp, .ptr 59, []⟩
def ty58 : TI := ⟨1, 16, true, .agg [.str []], .struct [(0, 9)], []⟩
def ty59 : TI := ⟨1, 16, true, .agg [.str []], .struct [(0, 9)], []⟩
def ty61 : TI := ⟨1, 8, false, .nilf, .func, []⟩
def ty62 : TI := ⟨2, 24, true, .agg [.str [], .int .i64 0], .struct [(0, 9), (1, 3)], []⟩
def ty63 : TI := ⟨2, 24, true, .agg [.str [], .int .i64 0], .struct [(0, 9), (1, 3)], []⟩
def ty65 : TI := ⟨1, 8, false, .nilf, .func, []⟩
def ty66 : TI := ⟨3, 48, true, .agg [.sl true [] 0, .str [], .bool false], .struct [(0, 22), (1, 9), (2, 4)], []⟩
def ty67 : TI := ⟨3, 48, true, .agg [.sl true [] 0, .str [], .bool false], .struct [(0, 22), (1, 9), (2, 4)], []⟩
def ty68 : TI := ⟨1, 8, false, .nilf, .func, []⟩
def ty69 : TI := ⟨1, 8, false, .nilf, .func, []⟩
def ty70 : TI := ⟨1, 8, false, .nilf, .func, []⟩
def ty71 : TI := ⟨1, 8, false, .nilf, .func, []⟩
def ty73 : TI := ⟨1, 8, false, .nilf, .func, []⟩
def ty74 : TI := ⟨1, 8, false, .int .u64 0, .int .u64, []⟩
def ty75 : TI := ⟨1, 8, false, .nilf, .func, []⟩
def ty76 : TI := ⟨1, 8, false, .nilf, .func, []⟩
def ty77 : TI := ⟨1, 8, false, .nilf, .func, []⟩
def ty78 : TI := ⟨1, 8, false, .nilf, .func, []⟩
def ty79 : TI := ⟨1, 8, false, .nilf, .func, []⟩
def ty80 : TI := ⟨1, 8, false, .nilf, .func, []⟩
def ty81 : TI := ⟨1, 8, false, .nilf, .func, []⟩
def ty82 : TI := ⟨1, 8, false, .nilf, .func, []⟩
def ty83 : TI := ⟨1, 8, false, .nilf, .func, []⟩
def ty84 : TI := ⟨1, 8, false, .nilf, .func, []⟩
def ty85 : TI := ⟨1, 8, false, .nilf, .func, []⟩
def ty86 : TI := ⟨1, 8, false, .nilf, .func, []⟩
def ty87 : TI := ⟨1, 8, false, .nilf, .func, []⟩
def ty89 : TI := ⟨1, 8, false, .nilf, .func, []⟩
def ty90 : TI := ⟨1, 8, false, .nilf, .func, []⟩
def ty91 : TI := ⟨1, 8, false, .nilf, .func, []⟩
def ty92 : TI := ⟨1, 8, false, .nilf, .func, []⟩
def ty93 : TI := ⟨128, 1024, true, .agg (tab 128 fun _ => .int .u64 0), .arr 64 56, []⟩
def ty94 : TI := ⟨1, 8, false, .nilf, .func, []⟩
def ty95 : TI := ⟨1, 8, false, .nilf, .func, []⟩
def ty96 : TI := ⟨1, 8, false, .nilf, .func, []⟩
def ty98 : TI := ⟨1, 8, false, .nilf, .func, []⟩
def ty99 : TI := ⟨1, 8, false, .nilf, .func, []⟩
def ty100 : TI := ⟨1, 8, false, .nilf, .func, []⟩
def ty101 : TI := ⟨1, 24, false, .sl true [] 0, .slice 5, []⟩
def ty102 : TI := ⟨1, 8, false, .nilf, .func, []⟩
def ty103 : TI := ⟨1, 8, false, .nilf, .func, []⟩
def ty104 : TI := ⟨1, 8, false, .nilf, .func, []⟩
def ty105 : TI := ⟨1, 8, false, .nilf, .func, []⟩
def ty106 : TI := ⟨1, 8, false, .nilf, .func, []⟩
def ty107 : TI := ⟨1, 8, false, .nilf, .func, []⟩
def ty109 : TI := ⟨1, 8, false, .nilf, .func, []⟩
def ty110 : TI := ⟨1, 8, false, .nilf, .func, []⟩
def ty112 : TI := ⟨1, 8, false, .nilf, .func, []⟩
def ty113 : TI := ⟨1, 8, false, .nilf, .func, []⟩
def ty115 : TI := ⟨1, 8, false, .nilf, .func, []⟩
def ty116 : TI := ⟨24, 24, true, .agg [.int .u8 0, .int .u8 0, .int .u8 0, .int .u8 0, .int .u8 0, .int .u8 0, .int .u8 0, .int .u8 0, .int .u8 0, .int .u8 0, .int .u8 0, .int .u8 0, .int .u8 0, .int .u8 0, .int .u8 0, .int .u8 0, .int .u8 0, .int .u8 0, .int .u8 0, .int .u8 0, .int .u8 0, .int .u8 0, .int .u8 0, .int .u8 0], .arr 24 5, []⟩
def ty117 : TI := ⟨1, 8, false, .nilf, .func, []⟩
def ty119 : TI := ⟨1, 8, false, .nilf, .func, []⟩
def ty120 : TI := ⟨1, 8, false, .nilf, .func, []⟩
def ty121 : TI := ⟨256, 256, true, .agg (tab 256 fun _ => .bool false), .arr 256 4, []⟩
def ty122 : TI := ⟨256, 256, true, .agg (tab 256 fun _ => .bool false), .arr 256 4, []⟩
def ty124 : TI := ⟨1, 8, false, .nilf, .func, []⟩
def ty125 : TI := ⟨1, 8, false, .nilf, .func, []⟩
def ty126 : TI := ⟨1, 8, false, .nilp, .ptr 122, []⟩
def ty127 : TI := ⟨1, 8, false, .nilp, .ptr 132, []⟩
def ty128 : TI := ⟨1, 8, false, .nilf, .func, []⟩
def ty129 : TI := ⟨2, 24, true, .agg [.str [], .int .i64 0], .struct [(0, 9), (1, 3)], []⟩
def ty130 : TI := ⟨2, 24, true, .agg [.str [], .int .i64 0], .struct [(0, 9), (1, 3)], []⟩
def ty131 : TI := ⟨3, 32, true, .agg [.str [], .int .i64 0, .int .i64 0], .struct [(0, 130), (2, 3)], []⟩
def ty132 : TI := ⟨3, 32, true, .agg [.str [], .int .i64 0, .int .i64 0], .struct [(0, 130), (2, 3)], []⟩
def ty134 : TI := ⟨1, 8, false, .nilf, .func, []⟩
def ty135 : TI := ⟨1, 8, false, .nilf, .func, []⟩
def ty136 : TI := ⟨20, 160, true, .agg [.int .u64 0, .int .u64 0, .int .u64 0, .int .u64 0, .int .u64 0, .int .u64 0, .int .u64 0, .int .u64 0, .int .u64 0, .int .u64 0, .int .u64 0, .int .u64 0, .int .u64 0, .int .u64 0, .int .u64 0, .int .u64 0, .int .u64 0, .int .u64 0, .int .u64 0, .int .u64 0], .arr 20 43, []⟩
def ty137 : TI := ⟨1, 4, false, .int .u32 0, .int .u32, []⟩
def ty138 : TI := ⟨65, 65, true, .agg (tab 65 fun _ => .int .u8 0), .arr 65 5, []⟩
def ty139 : TI := ⟨1, 8, false, .nilf, .func, []⟩
def ty141 : TI := ⟨1, 8, false, .nilf, .func, []⟩
def ty142 : TI := ⟨1, 8, false, .nilf, .func, []⟩
def ty144 : TI := ⟨1, 8, false, .nilf, .func, []⟩
def ty145 : TI := ⟨1, 8, false, .nilf, .func, []⟩
def ty146 : TI := ⟨1, 8, false, .nilp, .ptr 130, []⟩
def ty147 : TI := ⟨1, 8, false, .nilf, .func, []⟩
def ty148 : TI := ⟨1, 8, false, .nilf, .func, []⟩
def ty149 : TI := ⟨1, 8, false, .nilf, .func, []⟩
def ty150 : TI := ⟨1, 8, false, .nilf, .func, []⟩
def ty151 : TI := ⟨32, 32, true, .agg (tab 32 fun _ => .int .u8 0), .arr 32 5, []⟩
def ty152 : TI := ⟨64, 64, true, .agg (tab 64 fun _ => .int .u8 0), .arr 64 5, []⟩
def ty153 : TI := ⟨256, 256, true, .agg (tab 256 fun _ => .int .u8 0), .arr 256 5, []⟩
def ty154 : TI := ⟨2, 2, true, .agg [.int .u8 0, .int .u8 0], .struct [(0, 5), (1, 5)], [.int .u8, .int .u8]⟩
def ty155 : TI := ⟨2, 2, true, .agg [.int .u8 0, .int .u8 0], .struct [(0, 5), (1, 5)], [.int .u8, .int .u8]⟩
def ty156 : TI := ⟨32, 32, true, .agg (tab 32 fun _ => .int .u8 0), .arr 16 155, []⟩
def ty157 : TI := ⟨1, 8, false, .nilf, .func, []⟩
def ty158 : TI := ⟨1, 8, false, .nilf, .func, []⟩
def ty159 : TI := ⟨1, 8, false, .nilf, .func, []⟩
def ty160 : TI := ⟨4, 40, true, .agg [.nilp, .nilp, .nilp, .str []], .struct [(0, 17), (1, 17), (2, 17), (3, 9)], []⟩
def ty161 : TI := ⟨4, 40, true, .agg [.nilp, .nilp, .nilp, .str []], .struct [(0, 17), (1, 17), (2, 17), (3, 9)], []⟩
def ty165 : TI := ⟨1, 8, false, .nilf, .func, []⟩
def ty166 : TI := ⟨1, 1, false, .int .u8 0, .int .u8, []⟩
def ty167 : TI := ⟨1, 1, false, .int .u8 0, .int .u8, []⟩
def ty168 : TI := ⟨1, 8, false, .nilf, .func, []⟩
def ty169 : TI := ⟨1, 8, false, .nilp, .ptr 5, []⟩
def ty170 : TI := ⟨1, 4, false, .int .i32 0, .int .i32, []⟩
def ty171 : TI := ⟨1, 4, false, .int .i32 0, .int .i32, []⟩
def ty172 : TI := ⟨11, 48, true, .agg [.int .u64 0, .int .u64 0, .int .u32 0, .int .u8 0, .int .u8 0, .int .u8 0, .int .u8 0, .nilf, .nilp, .int .i32 0, .int .i32 0], .struct [(0, 12), (1, 12), (2, 137), (3, 166), (4, 5), (5, 5), (6, 167), (7, 168), (8, 169), (9, 170), (10, 171)], []⟩
def ty173 : TI := ⟨11, 48, true, .agg [.int .u64 0, .int .u64 0, .int .u32 0, .int .u8 0, .int .u8 0, .int .u8 0, .int .u8 0, .nilf, .nilp, .int .i32 0, .int .i32 0], .struct [(0, 12), (1, 12), (2, 137), (3, 166), (4, 5), (5, 5), (6, 167), (7, 168), (8, 169), (9, 170), (10, 171)], []⟩
def ttL : List TI := [TI.none, ty1, ty2, ty3, ty4, ty5, ty6, ty7, ty8, ty9, ty10, ty11, ty12, ty13, ty14, ty15, ty16, ty17, ty18, ty19, ty20, ty21, ty22, ty23, ty24, ty25, ty26, TI.none, ty28, ty29, TI.none, ty31, ty32, ty33, ty34, ty35, ty36, TI.none, ty38, ty39, ty40, ty41, ty42, ty43, ty44, ty45, ty46, ty47, ty48, ty49, ty50, TI.none, ty52, ty53, ty54, ty55, ty56, ty57, ty58, ty59, TI.none, ty61, ty62, ty63, TI.none, ty65, ty66, ty67, ty68, ty69, ty70, ty71, TI.none, ty73, ty74, ty75, ty76, ty77, ty78, ty79, ty80, ty81, ty82, ty83, ty84, ty85, ty86, ty87, TI.none, ty89, ty90, ty91, ty92, ty93, ty94, ty95, ty96, TI.none, ty98, ty99, ty100, ty101, ty102, ty103, ty104, ty105, ty106, ty107, TI.none, ty109, ty110, TI.none, ty112, ty113, TI.none, ty115, ty116, ty117, TI.none, ty119, ty120, ty121, ty122, TI.none, ty124, ty125, ty126, ty127, ty128, ty129, ty130, ty131, ty132, TI.none, ty134, ty135, ty136, ty137, ty138, ty139, TI.none, ty141, ty142, TI.none, ty144, ty145, ty146, ty147, ty148, ty149, ty150, ty151, ty152, ty153, ty154, ty155, ty156, ty157, ty158, ty159, ty160, ty161, TI.none, TI.none, TI.none, ty165, ty166, ty167, ty168, ty169, ty170, ty171, ty172, ty173, TI.none]
def tt (t : Nat) : TI := ttOf ttL t
theorem tt_1 : tt 1 = ⟨1, 8, false, .nilf, .func, []⟩ := rfl
theorem tt_2 : tt 2 = ⟨1, 8, false, .int .i64 0, .int .i64, []⟩ := rfl
theorem tt_3 : tt 3 = ⟨1, 8, false, .int .i64 0, .int .i64, []⟩ := rfl
theorem tt_4 : tt 4 = ⟨1, 1, false, .bool false, .bool, []⟩ := rfl
theorem tt_5 : tt 5 = ⟨1, 1, false, .int .u8 0, .int .u8, []⟩ := rfl
theorem tt_6 : tt 6 = ⟨1, 1, false, .int .u8 0, .int .u8, []⟩ := rfl
theorem tt_7 : tt 7 = ⟨4, 24, true, .agg [.int .i64 0, .int .i64 0, .bool false, .int .u8 0], .struct [(0, 2), (1, 3), (2, 4), (3, 6)], [.int .i64, .int .i64, .bool, .int .u8]⟩ := rfl
theorem tt_8 : tt 8 = ⟨4, 24, true, .agg [.int .i64 0, .int .i64 0, .bool false, .int .u8 0], .struct [(0, 2), (1, 3), (2, 4), (3, 6)], [.int .i64, .int .i64, .bool, .int .u8]⟩ := rfl
theorem tt_9 : tt 9 = ⟨1, 16, false, .str [], .str, []⟩ := rfl
theorem tt_10 : tt 10 = ⟨1, 16, false, .str [], .str, []⟩ := rfl
theorem tt_11 : tt 11 = ⟨1, 16, false, .str [], .str, []⟩ := rfl
theorem tt_12 : tt 12 = ⟨1, 8, false, .int .u64 0, .int .u64, []⟩ := rfl
theorem tt_13 : tt 13 = ⟨2, 24, true, .agg [.str [], .int .u64 0], .struct [(0, 9), (1, 12)], []⟩ := rfl
theorem tt_14 : tt 14 = ⟨2, 24, true, .agg [.str [], .int .u64 0], .struct [(0, 9), (1, 12)], []⟩ := rfl
theorem tt_15 : tt 15 = ⟨1, 8, false, .nilp, .ptr 161, []⟩ := rfl
theorem tt_16 : tt 16 = ⟨1, 8, false, .nilp, .ptr 164, []⟩ := rfl
theorem tt_17 : tt 17 = ⟨1, 8, false, .nilp, .ptr 173, []⟩ := rfl
theorem tt_18 : tt 18 = ⟨1, 8, true, .agg [.nilp], .struct [(0, 17)], []⟩ := rfl
theorem tt_19 : tt 19 = ⟨1, 8, true, .agg [.nilp], .struct [(0, 17)], []⟩ := rfl
theorem tt_20 : tt 20 = ⟨1, 16, false, .nili, .iface, []⟩ := rfl
theorem tt_21 : tt 21 = ⟨1, 4, false, .int .i32 0, .int .i32, []⟩ := rfl
theorem tt_22 : tt 22 = ⟨1, 24, false, .sl true [] 0, .slice 36, []⟩ := rfl
theorem tt_23 : tt 23 = ⟨1, 8, false, .nilf, .func, []⟩ := rfl
theorem tt_24 : tt 24 = ⟨1, 8, false, .nilf, .func, []⟩ := rfl
theorem tt_25 : tt 25 = ⟨1, 24, false, .sl true [] 0, .slice 56, []⟩ := rfl
theorem tt_26 : tt 26 = ⟨1, 8, false, .int .i64 0, .int .i64, []⟩ := rfl
theorem tt_28 : tt 28 = ⟨1, 8, false, .nilf, .func, []⟩ := rfl
theorem tt_29 : tt 29 = ⟨1, 8, false, .nilf, .func, []⟩ := rfl
theorem tt_31 : tt 31 = ⟨1, 8, false, .nilf, .func, []⟩ := rfl
theorem tt_32 : tt 32 = ⟨1, 8, false, .nilf, .func, []⟩ := rfl
theorem tt_33 : tt 33 = ⟨1, 8, false, .nilf, .func, []⟩ := rfl
theorem tt_34 : tt 34 = ⟨1, 8, false, .nilf, .func, []⟩ := rfl
theorem tt_35 : tt 35 = ⟨4, 24, true, .agg [.int .i64 0, .int .i64 0, .int .u8 0, .int .u8 0], .struct [(0, 3), (1, 3), (2, 5), (3, 5)], [.int .i64, .int .i64, .int .u8, .int .u8]⟩ := rfl
theorem tt_36 : tt 36 = ⟨4, 24, true, .agg [.int .i64 0, .int .i64 0, .int .u8 0, .int .u8 0], .struct [(0, 3), (1, 3), (2, 5), (3, 5)], [.int .i64, .int .i64, .int .u8, .int .u8]⟩ := rfl
theorem tt_38 : tt 38 = ⟨1, 8, false, .nilf, .func, []⟩ := rfl
theorem tt_39 : tt 39 = ⟨1, 8, false, .nilf, .func, []⟩ := rfl
theorem tt_40 : tt 40 = ⟨1, 8, false, .nilf, .func, []⟩ := rfl
theorem tt_41 : tt 41 = ⟨3, 3, true, .agg [.int .u8 0, .int .u8 0, .int .u8 0], .struct [(0, 5), (1, 5), (2, 5)], [.int .u8, .int .u8, .int .u8]⟩ := rfl
theorem tt_42 : tt 42 = ⟨3, 3, true, .agg [.int .u8 0, .int .u8 0, .int .u8 0], .struct [(0, 5), (1, 5), (2, 5)], [.int .u8, .int .u8, .int .u8]⟩ := rfl
theorem tt_43 : tt 43 = ⟨1, 8, false, .int .u64 0, .int .u64, []⟩ := rfl
theorem tt_44 : tt 44 = ⟨1, 8, false, .nilf, .func, []⟩ := rfl
theorem tt_45 : tt 45 = ⟨1, 8, false, .nilf, .func, []⟩ := rfl
theorem tt_46 : tt 46 = ⟨1, 8, false, .nilf, .func, []⟩ := rfl
theorem tt_47 : tt 47 = ⟨1, 8, false, .nilp, .ptr 50, []⟩ := rfl
theorem tt_48 : tt 48 = ⟨1, 8, false, .nilm, .map 3 25, []⟩ := rfl
theorem tt_49 : tt 49 = ⟨2, 32, true, .agg [.sl true [] 0, .nilm], .struct [(0, 22), (1, 48)], []⟩ := rfl
theorem tt_50 : tt 50 = ⟨2, 32, true, .agg [.sl true [] 0, .nilm], .struct [(0, 22), (1, 48)], []⟩ := rfl
theorem tt_52 : tt 52 = ⟨1, 8, false, .nilf, .func, []⟩ := rfl
theorem tt_53 : tt 53 = ⟨1, 8, false, .nilf, .func, []⟩ := rfl
theorem tt_54 : tt 54 = ⟨1, 8, false, .nilf, .func, []⟩ := rfl
theorem tt_55 : tt 55 = ⟨2, 16, true, .agg [.int .u64 0, .int .u64 0], .struct [(0, 43), (1, 43)], [.int .u64, .int .u64]⟩ := rfl
theorem tt_56 : tt 56 = ⟨2, 16, true, .agg [.int .u64 0, .int .u64 0], .struct [(0, 43), (1, 43)], [.int .u64, .int .u64]⟩ := rfl
theorem tt_57 : tt 57 = ⟨1, 8, false, .nilp, .ptr 59, []⟩ := rfl
theorem tt_58 : tt 58 = ⟨1, 16, true, .agg [.str []], .struct [(0, 9)], []⟩ := rfl
theorem tt_59 : tt 59 = ⟨1, 16, true, .agg [.str []], .struct [(0, 9)], []⟩ := rfl
theorem tt_61 : tt 61 = ⟨1, 8, false, .nilf, .func, []⟩ := rfl
theorem tt_62 : tt 62 = ⟨2, 24, true, .agg [.str [], .int .i64 0], .struct [(0, 9), (1, 3)], []⟩ := rfl
theorem tt_63 : tt 63 = ⟨2, 24, true, .agg [.str [], .int .i64 0], .struct [(0, 9), (1, 3)], []⟩ := rfl
theorem tt_65 : tt 65 = ⟨1, 8, false, .nilf, .func, []⟩ := rfl
theorem tt_66 : tt 66 = ⟨3, 48, true, .agg [.sl true [] 0, .str [], .bool false], .struct [(0, 22), (1, 9), (2, 4)], []⟩ := rfl
theorem tt_67 : tt 67 = ⟨3, 48, true, .agg [.sl true [] 0, .str [], .bool false], .struct [(0, 22), (1, 9), (2, 4)], []⟩ := rfl
theorem tt_68 : tt 68 = ⟨1, 8, false, .nilf, .func, []⟩ := rfl
theorem tt_69 : tt 69 = ⟨1, 8, false, .nilf, .func, []⟩ := rfl
theorem tt_70 : tt 70 = ⟨1, 8, false, .nilf, .func, []⟩ := rfl
theorem tt_71 : tt 71 = ⟨1, 8, false, .nilf, .func, []⟩ := rfl
theorem tt_73 : tt 73 = ⟨1, 8, false, .nilf, .func, []⟩ := rfl
theorem tt_74 : tt 74 = ⟨1, 8, false, .int .u64 0, .int .u64, []⟩ := rfl
theorem tt_75 : tt 75 = ⟨1, 8, false, .nilf, .func, []⟩ := rfl
theorem tt_76 : tt 76 = ⟨1, 8, false, .nilf, .func, []⟩ := rfl
theorem tt_77 : tt 77 = ⟨1, 8, false, .nilf, .func, []⟩ := rfl
theorem tt_78 : tt 78 = ⟨1, 8, false, .nilf, .func, []⟩ := rfl
theorem tt_79 : tt 79 = ⟨1, 8, false, .nilf, .func, []⟩ := rfl
theorem tt_80 : tt 80 = ⟨1, 8, false, .nilf, .func, []⟩ := rfl
theorem tt_81 : tt 81 = ⟨1, 8, false, .nilf, .func, []⟩ := rfl
theorem tt_82 : tt 82 = ⟨1, 8, false, .nilf, .func, []⟩ := rfl
theorem tt_83 : tt 83 = ⟨1, 8, false, .nilf, .func, []⟩ := rfl
theorem tt_84 : tt 84 = ⟨1, 8, false, .nilf, .func, []⟩ := rfl
theorem tt_85 : tt 85 = ⟨1, 8, false, .nilf, .func, []⟩ := rfl
theorem tt_86 : tt 86 = ⟨1, 8, false, .nilf, .func, []⟩ := rfl
theorem tt_87 : tt 87 = ⟨1, 8, false, .nilf, .func, []⟩ := rfl
theorem tt_89 : tt 89 = ⟨1, 8, false, .nilf, .func, []⟩ := rfl
theorem tt_90 : tt 90 = ⟨1, 8, false, .nilf, .func, []⟩ := rfl
theorem tt_91 : tt 91 = ⟨1, 8, false, .nilf, .func, []⟩ := rfl
theorem tt_92 : tt 92 = ⟨1, 8, false, .nilf, .func, []⟩ := rfl
theorem tt_93 : tt 93 = ⟨128, 1024, true, .agg (tab 128 fun _ => .int .u64 0), .arr 64 56, []⟩ := rfl
theorem tt_94 : tt 94 = ⟨1, 8, false, .nilf, .func, []⟩ := rfl
theorem tt_95 : tt 95 = ⟨1, 8, false, .nilf, .func, []⟩ := rfl
theorem tt_96 : tt 96 = ⟨1, 8, false, .nilf, .func, []⟩ := rfl
theorem tt_98 : tt 98 = ⟨1, 8, false, .nilf, .func, []⟩ := rfl
theorem tt_99 : tt 99 = ⟨1, 8, false, .nilf, .func, []⟩ := rfl
theorem tt_100 : tt 100 = ⟨1, 8, false, .nilf, .func, []⟩ := rfl
theorem tt_101 : tt 101 = ⟨1, 24, false, .sl true [] 0, .slice 5, []⟩ := rfl
theorem tt_102 : tt 102 = ⟨1, 8, false, .nilf, .func, []⟩ := rfl
theorem tt_103 : tt 103 = ⟨1, 8, false, .nilf, .func, []⟩ := rfl
theorem tt_104 : tt 104 = ⟨1, 8, false, .nilf, .func, []⟩ := rfl
theorem tt_105 : tt 105 = ⟨1, 8, false, .nilf, .func, []⟩ := rfl
theorem tt_106 : tt 106 = ⟨1, 8, false, .nilf, .func, []⟩ := rfl
theorem tt_107 : tt 107 = ⟨1, 8, false, .nilf, .func, []⟩ := rfl
theorem tt_109 : tt 109 = ⟨1, 8, false, .nilf, .func, []⟩ := rfl
theorem tt_110 : tt 110 = ⟨1, 8, false, .nilf, .func, []⟩ := rfl
theorem tt_112 : tt 112 = ⟨1, 8, false, .nilf, .func, []⟩ := rfl
theorem tt_113 : tt 113 = ⟨1, 8, false, .nilf, .func, []⟩ := rfl
theorem tt_115 : tt 115 = ⟨1, 8, false, .nilf, .func, []⟩ := rfl
theorem tt_116 : tt 116 = ⟨24, 24, true, .agg [.int .u8 0, .int .u8 0, .int .u8 0, .int .u8 0, .int .u8 0, .int .u8 0, .int .u8 0, .int .u8 0, .int .u8 0, .int .u8 0, .int .u8 0, .int .u8 0, .int .u8 0, .int .u8 0, .int .u8 0, .int .u8 0, .int .u8 0, .int .u8 0, .int .u8 0, .int .u8 0, .int .u8 0, .int .u8 0, .int .u8 0, .int .u8 0], .arr 24 5, []⟩ := rfl
theorem tt_117 : tt 117 = ⟨1, 8, false, .nilf, .func, []⟩ := rfl
theorem tt_119 : tt 119 = ⟨1, 8, false, .nilf, .func, []⟩ := rfl
theorem tt_120 : tt 120 = ⟨1, 8, false, .nilf, .func, []⟩ := rfl
theorem tt_121 : tt 121 = ⟨256, 256, true, .agg (tab 256 fun _ => .bool false), .arr 256 4, []⟩ := rfl
theorem tt_122 : tt 122 = ⟨256, 256, true, .agg (tab 256 fun _ => .bool false), .arr 256 4, []⟩ := rfl
theorem tt_124 : tt 124 = ⟨1, 8, false, .nilf, .func, []⟩ := rfl
theorem tt_125 : tt 125 = ⟨1, 8, false, .nilf, .func, []⟩ := rfl
theorem tt_126 : tt 126 = ⟨1, 8, false, .nilp, .ptr 122, []⟩ := rfl
theorem tt_127 : tt 127 = ⟨1, 8, false, .nilp, .ptr 132, []⟩ := rfl
theorem tt_128 : tt 128 = ⟨1, 8, false, .nilf, .func, []⟩ := rfl
theorem tt_129 : tt 129 = ⟨2, 24, true, .agg [.str [], .int .i64 0], .struct [(0, 9), (1, 3)], []⟩ := rfl
theorem tt_130 : tt 130 = ⟨2, 24, true, .agg [.str [], .int .i64 0], .struct [(0, 9), (1, 3)], []⟩ := rfl
theorem tt_131 : tt 131 = ⟨3, 32, true, .agg [.str [], .int .i64 0, .int .i64 0], .struct [(0, 130), (2, 3)], []⟩ := rfl
theorem tt_132 : tt 132 = ⟨3, 32, true, .agg [.str [], .int .i64 0, .int .i64 0], .struct [(0, 130), (2, 3)], []⟩ := rfl
theorem tt_134 : tt 134 = ⟨1, 8, false, .nilf, .func, []⟩ := rfl
theorem tt_135 : tt 135 = ⟨1, 8, false, .nilf, .func, []⟩ := rfl
theorem tt_136 : tt 136 = ⟨20, 160, true, .agg [.int .u64 0, .int .u64 0, .int .u64 0, .int .u64 0, .int .u64 0, .int .u64 0, .int .u64 0, .int .u64 0, .int .u64 0, .int .u64 0, .int .u64 0, .int .u64 0, .int .u64 0, .int .u64 0, .int .u64 0, .int .u64 0, .int .u64 0, .int .u64 0, .int .u64 0, .int .u64 0], .arr 20 43, []⟩ := rfl
theorem tt_137 : tt 137 = ⟨1, 4, false, .int .u32 0, .int .u32, []⟩ := rfl
theorem tt_138 : tt 138 = ⟨65, 65, true, .agg (tab 65 fun _ => .int .u8 0), .arr 65 5, []⟩ := rfl
theorem tt_139 : tt 139 = ⟨1, 8, false, .nilf, .func, []⟩ := rfl
theorem tt_141 : tt 141 = ⟨1, 8, false, .nilf, .func, []⟩ := rfl
theorem tt_142 : tt 142 = ⟨1, 8, false, .nilf, .func, []⟩ := rfl
theorem tt_144 : tt 144 = ⟨1, 8, false, .nilf, .func, []⟩ := rfl
theorem tt_145 : tt 145 = ⟨1, 8, false, .nilf, .func, []⟩ := rfl
theorem tt_146 : tt 146 = ⟨1, 8, false, .nilp, .ptr 130, []⟩ := rfl
theorem tt_147 : tt 147 = ⟨1, 8, false, .nilf, .func, []⟩ := rfl
theorem tt_148 : tt 148 = ⟨1, 8, false, .nilf, .func, []⟩ := rfl
theorem tt_149 : tt 149 = ⟨1, 8, false, .nilf, .func, []⟩ := rfl
theorem tt_150 : tt 150 = ⟨1, 8, false, .nilf, .func, []⟩ := rfl
theorem tt_151 : tt 151 = ⟨32, 32, true, .agg (tab 32 fun _ => .int .u8 0), .arr 32 5, []⟩ := rfl
theorem tt_152 : tt 152 = ⟨64, 64, true, .agg (tab 64 fun _ => .int .u8 0), .arr 64 5, []⟩ := rfl
theorem tt_153 : tt 153 = ⟨256, 256, true, .agg (tab 256 fun _ => .int .u8 0), .arr 256 5, []⟩ := rfl
theorem tt_154 : tt 154 = ⟨2, 2, true, .agg [.int .u8 0, .int .u8 0], .struct [(0, 5), (1, 5)], [.int .u8, .int .u8]⟩ := rfl
theorem tt_155 : tt 155 = ⟨2, 2, true, .agg [.int .u8 0, .int .u8 0], .struct [(0, 5), (1, 5)], [.int .u8, .int .u8]⟩ := rfl
theorem tt_156 : tt 156 = ⟨32, 32, true, .agg (tab 32 fun _ => .int .u8 0), .arr 16 155, []⟩ := rfl
theorem tt_157 : tt 157 = ⟨1, 8, false, .nilf, .func, []⟩ := rfl
theorem tt_158 : tt 158 = ⟨1, 8, false, .nilf, .func, []⟩ := rfl
theorem tt_159 : tt 159 = ⟨1, 8, false, .nilf, .func, []⟩ := rfl
theorem tt_160 : tt 160 = ⟨4, 40, true, .agg [.nilp, .nilp, .nilp, .str []], .struct [(0, 17), (1, 17), (2, 17), (3, 9)], []⟩ := rfl
theorem tt_161 : tt 161 = ⟨4, 40, true, .agg [.nilp, .nilp, .nilp, .str []], .struct [(0, 17), (1, 17), (2, 17), (3, 9)], []⟩ := rfl
theorem tt_165 : tt 165 = ⟨1, 8, false, .nilf, .func, []⟩ := rfl
theorem tt_166 : tt 166 = ⟨1, 1, false, .int .u8 0, .int .u8, []⟩ := rfl
theorem tt_167 : tt 167 = ⟨1, 1, false, .int .u8 0, .int .u8, []⟩ := rfl
theorem tt_168 : tt 168 = ⟨1, 8, false, .nilf, .func, []⟩ := rfl
theorem tt_169 : tt 169 = ⟨1, 8, false, .nilp, .ptr 5, []⟩ := rfl
theorem tt_170 : tt 170 = ⟨1, 4, false, .int .i32 0, .int .i32, []⟩ := rfl
theorem tt_171 : tt 171 = ⟨1, 4, false, .int .i32 0, .int .i32, []⟩ := rfl
theorem tt_172 : tt 172 = ⟨11, 48, true, .agg [.int .u64 0, .int .u64 0, .int .u32 0, .int .u8 0, .int .u8 0, .int .u8 0, .int .u8 0, .nilf, .nilp, .int .i32 0, .int .i32 0], .struct [(0, 12), (1, 12), (2, 137), (3, 166), (4, 5), (5, 5), (6, 167), (7, 168), (8, 169), (9, 170), (10, 171)], []⟩ := rfl
theorem tt_173 : tt 173 = ⟨11, 48, true, .agg [.int .u64 0, .int .u64 0, .int .u32 0, .int .u8 0, .int .u8 0, .int .u8 0, .int .u8 0, .nilf, .nilp, .int .i32 0, .int .i32 0], .struct [(0, 12), (1, 12), (2, 137), (3, 166), (4, 5), (5, 5), (6, 167), (7, 168), (8, 169), (9, 170), (10, 171)], []⟩ := rfl
attribute [push_cast] tt_1 tt_2 tt_3 tt_4 tt_5 tt_6 tt_7 tt_8 tt_9 tt_10 tt_11 tt_12 tt_13 tt_14 tt_15 tt_16 tt_17 tt_18 tt_19 tt_20 tt_21 tt_22 tt_23 tt_24 tt_25 tt_26 tt_28 tt_29 tt_31 tt_32 tt_33 tt_34 tt_35 tt_36 tt_38 tt_39 tt_40 tt_41 tt_42 tt_43 tt_44 tt_45 tt_46 tt_47 tt_48 tt_49 tt_50 tt_52 tt_53 tt_54 tt_55 tt_56 tt_57 tt_58 tt_59 tt_61 tt_62 tt_63 tt_65 tt_66 tt_67 tt_68 tt_69 tt_70 tt_71 tt_73 tt_74 tt_75 tt_76 tt_77 tt_78 tt_79 tt_80 tt_81 tt_82 tt_83 tt_84 tt_85 tt_86 tt_87 tt_89 tt_90 tt_91 tt_92 tt_93 tt_94 tt_95 tt_96 tt_98 tt_99 tt_100 tt_101 tt_102 tt_103 tt_104 tt_105 tt_106 tt_107 tt_109 tt_110 tt_112 tt_113 tt_115 tt_116 tt_117 tt_119 tt_120 tt_121 tt_122 tt_124 tt_125 tt_126 tt_127 tt_128 tt_129 tt_130 tt_131 tt_132 tt_134 tt_135 tt_136 tt_137 tt_138 tt_139 tt_141 tt_142 tt_144 tt_145 tt_146 tt_147 tt_148 tt_149 tt_150 tt_151 tt_152 tt_153 tt_154 tt_155 tt_156 tt_157 tt_158 tt_159 tt_160 tt_161 tt_165 tt_166 tt_167 tt_168 tt_169 tt_170 tt_171 tt_172 tt_173
theorem row_1 : TIok Tryz.prog 1 ty1 := TIok.of_row (by kernel_rfl) (z := .nilFunc) (by kernel_rfl) (fun _ _ _ => ofConst_sound (.nilFunc)) (by kernel_rfl) (by kernel_rfl) (fun h => absurd h (by decide))
theorem row_2 : TIok Tryz.prog 2 ty2 := TIok.of_row (by kernel_rfl) (z := .int .i64 0) (by kernel_rfl) (fun _ _ _ => ofConst_sound (.int .i64 0)) (by kernel_rfl) (by kernel_rfl) (fun h => absurd h (by decide))
theorem row_3 : TIok Tryz.prog 3 ty3 := TIok.of_row (by kernel_rfl) (z := .int .i64 0) (by kernel_rfl) (fun _ _ _ => ofConst_sound (.int .i64 0)) (by kernel_rfl) (by kernel_rfl) (fun h => absurd h (by decide))
theorem row_4 : TIok Tryz.prog 4 ty4 := TIok.of_row (by kernel_rfl) (z := .bool false) (by kernel_rfl) (fun _ _ _ => ofConst_sound (.bool false)) (by kernel_rfl) (by kernel_rfl) (fun h => absurd h (by decide))
theorem row_5 : TIok Tryz.prog 5 ty5 := TIok.of_row (by kernel_rfl) (z := .int .u8 0) (by kernel_rfl) (fun _ _ _ => ofConst_sound (.int .u8 0)) (by kernel_rfl) (by kernel_rfl) (fun h => absurd h (by decide))
theorem row_6 : TIok Tryz.prog 6 ty6 := TIok.of_row (by kernel_rfl) (z := .int .u8 0) (by kernel_rfl) (fun _ _ _ => ofConst_sound (.int .u8 0)) (by kernel_rfl) (by kernel_rfl) (fun h => absurd h (by decide))
theorem row_7 : TIok Tryz.prog 7 ty7 := TIok.of_row (by kernel_rfl) (z := .agg #[.int .i64 0, .int .i64 0, .bool false, .int .u8 0]) (by kernel_rfl) (fun _ _ _ => ofConst_sound (.agg #[.int .i64 0, .int .i64 0, .bool false, .int .u8 0])) (by kernel_rfl) (by kernel_rfl) (fun _ => .inr (by kernel_rfl))
theorem row_8 : TIok Tryz.prog 8 ty8 := TIok.of_row (by kernel_rfl) (z := .agg #[.int .i64 0, .int .i64 0, .bool false, .int .u8 0]) (by kernel_rfl) (fun _ _ _ => ofConst_sound (.agg #[.int .i64 0, .int .i64 0, .bool false, .int .u8 0])) (by kernel_rfl) (by kernel_rfl) (fun _ => .inr (by kernel_rfl))
theorem row_9 : TIok Tryz.prog 9 ty9 := TIok.of_row (by kernel_rfl) (z := .string ByteArray.empty) (by kernel_rfl) (fun _ _ _ => ofConst_sound (.string ByteArray.empty)) (by kernel_rfl) (by kernel_rfl) (fun h => absurd h (by decide))
theorem row_10 : TIok Tryz.prog 10 ty10 := TIok.of_row (by kernel_rfl) (z := .string ByteArray.empty) (by kernel_rfl) (fun _ _ _ => ofConst_sound (.string ByteArray.empty)) (by kernel_rfl) (by kernel_rfl) (fun h => absurd h (by decide))
theorem row_11 : TIok Tryz.prog 11 ty11 := TIok.of_row (by kernel_rfl) (z := .string ByteArray.empty) (by kernel_rfl) (fun _ _ _ => ofConst_sound (.string ByteArray.empty)) (by kernel_rfl) (by kernel_rfl) (fun h => absurd h (by decide))
theorem row_12 : TIok Tryz.prog 12 ty12 := TIok.of_row (by kernel_rfl) (z := .int .u64 0) (by kernel_rfl) (fun _ _ _ => ofConst_sound (.int .u64 0)) (by kernel_rfl) (by kernel_rfl) (fun h => absurd h (by decide))
theorem row_13 : TIok Tryz.prog 13 ty13 := TIok.of_row (by kernel_rfl) (z := .agg #[.string ByteArray.empty, .int .u64 0]) (by kernel_rfl) (fun _ _ _ => ofConst_sound (.agg #[.string ByteArray.empty, .int .u64 0])) (by kernel_rfl) (by kernel_rfl) (fun _ => .inl rfl)
theorem row_14 : TIok Tryz.prog 14 ty14 := TIok.of_row (by kernel_rfl) (z := .agg #[.string ByteArray.empty, .int .u64 0]) (by kernel_rfl) (fun _ _ _ => ofConst_sound (.agg #[.string ByteArray.empty, .int .u64 0])) (by kernel_rfl) (by kernel_rfl) (fun _ => .inl rfl)
theorem row_15 : TIok Tryz.prog 15 ty15 := TIok.of_row (by kernel_rfl) (z := .pointer none) (by kernel_rfl) (fun _ _ _ => ofConst_sound (.pointer none)) (by kernel_rfl) (by kernel_rfl) (fun h => absurd h (by decide))
theorem row_16 : TIok Tryz.prog 16 ty16 := TIok.of_row (by kernel_rfl) (z := .pointer none) (by kernel_rfl) (fun _ _ _ => ofConst_sound (.pointer none)) (by kernel_rfl) (by kernel_rfl) (fun h => absurd h (by decide))
theorem row_17 : TIok Tryz.prog 17 ty17 := TIok.of_row (by kernel_rfl) (z := .pointer none) (by kernel_rfl) (fun _ _ _ => ofConst_sound (.pointer none)) (by kernel_rfl) (by kernel_rfl) (fun h => absurd h (by decide))
theorem row_18 : TIok Tryz.prog 18 ty18 := TIok.of_row (by kernel_rfl) (z := .agg #[.pointer none]) (by kernel_rfl) (fun _ _ _ => ofConst_sound (.agg #[.pointer none])) (by kernel_rfl) (by kernel_rfl) (fun _ => .inl rfl)
theorem row_19 : TIok Tryz.prog 19 ty19 := TIok.of_row (by kernel_rfl) (z := .agg #[.pointer none]) (by kernel_rfl) (fun _ _ _ => ofConst_sound (.agg #[.pointer none])) (by kernel_rfl) (by kernel_rfl) (fun _ => .inl rfl)
theorem row_20 : TIok Tryz.prog 20 ty20 := TIok.of_row (by kernel_rfl) (z := .nilIface) (by kernel_rfl) (fun _ _ _ => ofConst_sound (.nilIface)) (by kernel_rfl) (by kernel_rfl) (fun h => absurd h (by decide))
theorem row_21 : TIok Tryz.prog 21 ty21 := TIok.of_row (by kernel_rfl) (z := .int .i32 0) (by kernel_rfl) (fun _ _ _ => ofConst_sound (.int .i32 0)) (by kernel_rfl) (by kernel_rfl) (fun h => absurd h (by decide))
theorem row_22 : TIok Tryz.prog 22 ty22 := TIok.of_row (by kernel_rfl) (z := .slice none 0 0) (by kernel_rfl) (fun _ _ _ => ofConst_sound (.slice none 0 0)) (by kernel_rfl) (by kernel_rfl) (fun h => absurd h (by decide))
theorem row_23 : TIok Tryz.prog 23 ty23 := TIok.of_row (by kernel_rfl) (z := .nilFunc) (by kernel_rfl) (fun _ _ _ => ofConst_sound (.nilFunc)) (by kernel_rfl) (by kernel_rfl) (fun h => absurd h (by decide))
theorem row_24 : TIok Tryz.prog 24 ty24 := TIok.of_row (by kernel_rfl) (z := .nilFunc) (by kernel_rfl) (fun _ _ _ => ofConst_sound (.nilFunc)) (by kernel_rfl) (by kernel_rfl) (fun h => absurd h (by decide))
theorem row_25 : TIok Tryz.prog 25 ty25 := TIok.of_row (by kernel_rfl) (z := .slice none 0 0) (by kernel_rfl) (fun _ _ _ => ofConst_sound (.slice none 0 0)) (by kernel_rfl) (by kernel_rfl) (fun h => absurd h (by decide))
theorem row_26 : TIok Tryz.prog 26 ty26 := TIok.of_row (by kernel_rfl) (z := .int .i64 0) (by kernel_rfl) (fun _ _ _ => ofConst_sound (.int .i64 0)) (by kernel_rfl) (by kernel_rfl) (fun h => absurd h (by decide))
theorem row_28 : TIok Tryz.prog 28 ty28 := TIok.of_row (by kernel_rfl) (z := .nilFunc) (by kernel_rfl) (fun _ _ _ => ofConst_sound (.nilFunc)) (by kernel_rfl) (by kernel_rfl) (fun h => absurd h (by decide))
theorem row_29 : TIok Tryz.prog 29 ty29 := TIok.of_row (by kernel_rfl) (z := .nilFunc) (by kernel_rfl) (fun _ _ _ => ofConst_sound (.nilFunc)) (by kernel_rfl) (by kernel_rfl) (fun h => absurd h (by decide))
theorem row_31 : TIok Tryz.prog 31 ty31 := TIok.of_row (by kernel_rfl) (z := .nilFunc) (by kernel_rfl) (fun _ _ _ => ofConst_sound (.nilFunc)) (by kernel_rfl) (by kernel_rfl) (fun h => absurd h (by decide))
theorem row_32 : TIok Tryz.prog 32 ty32 := TIok.of_row (by kernel_rfl) (z := .nilFunc) (by kernel_rfl) (fun _ _ _ => ofConst_sound (.nilFunc)) (by kernel_rfl) (by kernel_rfl) (fun h => absurd h (by decide))
theorem row_33 : TIok Tryz.prog 33 ty33 := TIok.of_row (by kernel_rfl) (z := .nilFunc) (by kernel_rfl) (fun _ _ _ => ofConst_sound (.nilFunc)) (by kernel_rfl) (by kernel_rfl) (fun h => absurd h (by decide))
theorem row_34 : TIok Tryz.prog 34 ty34 := TIok.of_row (by kernel_rfl) (z := .nilFunc) (by kernel_rfl) (fun _ _ _ => ofConst_sound (.nilFunc)) (by kernel_rfl) (by kernel_rfl) (fun h => absurd h (by decide))
theorem row_35 : TIok Tryz.prog 35 ty35 := TIok.of_row (by kernel_rfl) (z := .agg #[.int .i64 0, .int .i64 0, .int .u8 0, .int .u8 0]) (by kernel_rfl) (fun _ _ _ => ofConst_sound (.agg #[.int .i64 0, .int .i64 0, .int .u8 0, .int .u8 0])) (by kernel_rfl) (by kernel_rfl) (fun _ => .inr (by kernel_rfl))
theorem row_36 : TIok Tryz.prog 36 ty36 := TIok.of_row (by kernel_rfl) (z := .agg #[.int .i64 0, .int .i64 0, .int .u8 0, .int .u8 0]) (by kernel_rfl) (fun _ _ _ => ofConst_sound (.agg #[.int .i64 0, .int .i64 0, .int .u8 0, .int .u8 0])) (by kernel_rfl) (by kernel_rfl) (fun _ => .inr (by kernel_rfl))
theorem row_38 : TIok Tryz.prog 38 ty38 := TIok.of_row (by kernel_rfl) (z := .nilFunc) (by kernel_rfl) (fun _ _ _ => ofConst_sound (.nilFunc)) (by kernel_rfl) (by kernel_rfl) (fun h => absurd h (by decide))
theorem row_39 : TIok Tryz.prog 39 ty39 := TIok.of_row (by kernel_rfl) (z := .nilFunc) (by kernel_rfl) (fun _ _ _ => ofConst_sound (.nilFunc)) (by kernel_rfl) (by kernel_rfl) (fun h => absurd h (by decide))
theorem row_40 : TIok Tryz.prog 40 ty40 := TIok.of_row (by kernel_rfl) (z := .nilFunc) (by kernel_rfl) (fun _ _ _ => ofConst_sound (.nilFunc)) (by kernel_rfl) (by kernel_rfl) (fun h => absurd h (by decide))
theorem row_41 : TIok Tryz.prog 41 ty41 := TIok.of_row (by kernel_rfl) (z := .agg #[.int .u8 0, .int .u8 0, .int .u8 0]) (by kernel_rfl) (fun _ _ _ => ofConst_sound (.agg #[.int .u8 0, .int .u8 0, .int .u8 0])) (by kernel_rfl) (by kernel_rfl) (fun _ => .inr (by kernel_rfl))
theorem row_42 : TIok Tryz.prog 42 ty42 := TIok.of_row (by kernel_rfl) (z := .agg #[.int .u8 0, .int .u8 0, .int .u8 0]) (by kernel_rfl) (fun _ _ _ => ofConst_sound (.agg #[.int .u8 0, .int .u8 0, .int .u8 0])) (by kernel_rfl) (by kernel_rfl) (fun _ => .inr (by kernel_rfl))
theorem row_43 : TIok Tryz.prog 43 ty43 := TIok.of_row (by kernel_rfl) (z := .int .u64 0) (by kernel_rfl) (fun _ _ _ => ofConst_sound (.int .u64 0)) (by kernel_rfl) (by kernel_rfl) (fun h => absurd h (by decide))
theorem row_44 : TIok Tryz.prog 44 ty44 := TIok.of_row (by kernel_rfl) (z := .nilFunc) (by kernel_rfl) (fun _ _ _ => ofConst_sound (.nilFunc)) (by kernel_rfl) (by kernel_rfl) (fun h => absurd h (by decide))
theorem row_45 : TIok Tryz.prog 45 ty45 := TIok.of_row (by kernel_rfl) (z := .nilFunc) (by kernel_rfl) (fun _ _ _ => ofConst_sound (.nilFunc)) (by kernel_rfl) (by kernel_rfl) (fun h => absurd h (by decide))
theorem row_46 : TIok Tryz.prog 46 ty46 := TIok.of_row (by kernel_rfl) (z := .nilFunc) (by kernel_rfl) (fun _ _ _ => ofConst_sound (.nilFunc)) (by kernel_rfl) (by kernel_rfl) (fun h => absurd h (by decide))
theorem row_47 : TIok Tryz.prog 47 ty47 := TIok.of_row (by kernel_rfl) (z := .pointer none) (by kernel_rfl) (fun _ _ _ => ofConst_sound (.pointer none)) (by kernel_rfl) (by kernel_rfl) (fun h => absurd h (by decide))
theorem row_48 : TIok Tryz.prog 48 ty48 := TIok.of_row (by kernel_rfl) (z := .map none) (by kernel_rfl) (fun _ _ _ => ofConst_sound (.map none)) (by kernel_rfl) (by kernel_rfl) (fun h => absurd h (by decide))
theorem row_49 : TIok Tryz.prog 49 ty49 := TIok.of_row (by kernel_rfl) (z := .agg #[.slice none 0 0, .map none]) (by kernel_rfl) (fun _ _ _ => ofConst_sound (.agg #[.slice none 0 0, .map none])) (by kernel_rfl) (by kernel_rfl) (fun _ => .inl rfl)
theorem row_50 : TIok Tryz.prog 50 ty50 := TIok.of_row (by kernel_rfl) (z := .agg #[.slice none 0 0, .map none]) (by kernel_rfl) (fun _ _ _ => ofConst_sound (.agg #[.slice none 0 0, .map none])) (by kernel_rfl) (by kernel_rfl) (fun _ => .inl rfl)
theorem row_52 : TIok Tryz.prog 52 ty52 := TIok.of_row (by kernel_rfl) (z := .nilFunc) (by kernel_rfl) (fun _ _ _ => ofConst_sound (.nilFunc)) (by kernel_rfl) (by kernel_rfl) (fun h => absurd h (by decide))
theorem row_53 : TIok Tryz.prog 53 ty53 := TIok.of_row (by kernel_rfl) (z := .nilFunc) (by kernel_rfl) (fun _ _ _ => ofConst_sound (.nilFunc)) (by kernel_rfl) (by kernel_rfl) (fun h => absurd h (by decide))
theorem row_54 : TIok Tryz.prog 54 ty54 := TIok.of_row (by kernel_rfl) (z := .nilFunc) (by kernel_rfl) (fun _ _ _ => ofConst_sound (.nilFunc)) (by kernel_rfl) (by kernel_rfl) (fun h => absurd h (by decide))
theorem row_55 : TIok Tryz.prog 55 ty55 := TIok.of_row (by kernel_rfl) (z := .agg #[.int .u64 0, .int .u64 0]) (by kernel_rfl) (fun _ _ _ => ofConst_sound (.agg #[.int .u64 0, .int .u64 0])) (by kernel_rfl) (by kernel_rfl) (fun _ => .inr (by kernel_rfl))
theorem row_56 : TIok Tryz.prog 56 ty56 := TIok.of_row (by kernel_rfl) (z := .agg #[.int .u64 0, .int .u64 0]) (by kernel_rfl) (fun _ _ _ => ofConst_sound (.agg #[.int .u64 0, .int .u64 0])) (by kernel_rfl) (by kernel_rfl) (fun _ => .inr (by kernel_rfl))
theorem row_57 : TIok Tryz.prog 57 ty57 := TIok.of_row (by kernel_rfl) (z := .pointer none) (by kernel_rfl) (fun _ _ _ => ofConst_sound (.pointer none)) (by kernel_rfl) (by kernel_rfl) (fun h => absurd h (by decide))
theorem row_58 : TIok Tryz.prog 58 ty58 := TIok.of_row (by kernel_rfl) (z := .agg #[.string ByteArray.empty]) (by kernel_rfl) (fun _ _ _ => ofConst_sound (.agg #[.string ByteArray.empty])) (by kernel_rfl) (by kernel_rfl) (fun _ => .inl rfl)
theorem row_59 : TIok Tryz.prog 59 ty59 := TIok.of_row (by kernel_rfl) (z := .agg #[.string ByteArray.empty]) (by kernel_rfl) (fun _ _ _ => ofConst_sound (.agg #[.string ByteArray.empty])) (by kernel_rfl) (by kernel_rfl) (fun _ => .inl rfl)
theorem row_61 : TIok Tryz.prog 61 ty61 := TIok.of_row (by kernel_rfl) (z := .nilFunc) (by kernel_rfl) (fun _ _ _ => ofConst_sound (.nilFunc)) (by kernel_rfl) (by kernel_rfl) (fun h => absurd h (by decide))
theorem row_62 : TIok Tryz.prog 62 ty62 := TIok.of_row (by kernel_rfl) (z := .agg #[.string ByteArray.empty, .int .i64 0]) (by kernel_rfl) (fun _ _ _ => ofConst_sound (.agg #[.string ByteArray.empty, .int .i64 0])) (by kernel_rfl) (by kernel_rfl) (fun _ => .inl rfl)
theorem row_63 : TIok Tryz.prog 63 ty63 := TIok.of_row (by kernel_rfl) (z := .agg #[.string ByteArray.empty, .int .i64 0]) (by kernel_rfl) (fun _ _ _ => ofConst_sound (.agg #[.string ByteArray.empty, .int .i64 0])) (by kernel_rfl) (by kernel_rfl) (fun _ => .inl rfl)
theorem row_65 : TIok Tryz.prog 65 ty65 := TIok.of_row (by kernel_rfl) (z := .nilFunc) (by kernel_rfl) (fun _ _ _ => ofConst_sound (.nilFunc)) (by kernel_rfl) (by kernel_rfl) (fun h => absurd h (by decide))
theorem row_66 : TIok Tryz.prog 66 ty66 := TIok.of_row (by kernel_rfl) (z := .agg #[.slice none 0 0, .string ByteArray.empty, .bool false]) (by kernel_rfl) (fun _ _ _ => ofConst_sound (.agg #[.slice none 0 0, .string ByteArray.empty, .bool false])) (by kernel_rfl) (by kernel_rfl) (fun _ => .inl rfl)
theorem row_67 : TIok Tryz.prog 67 ty67 := TIok.of_row (by kernel_rfl) (z := .agg #[.slice none 0 0, .string ByteArray.empty, .bool false]) (by kernel_rfl) (fun _ _ _ => ofConst_sound (.agg #[.slice none 0 0, .string ByteArray.empty, .bool false])) (by kernel_rfl) (by kernel_rfl) (fun _ => .inl rfl)
theorem row_68 : TIok Tryz.prog 68 ty68 := TIok.of_row (by kernel_rfl) (z := .nilFunc) (by kernel_rfl) (fun _ _ _ => ofConst_sound (.nilFunc)) (by kernel_rfl) (by kernel_rfl) (fun h => absurd h (by decide))
theorem row_69 : TIok Tryz.prog 69 ty69 := TIok.of_row (by kernel_rfl) (z := .nilFunc) (by kernel_rfl) (fun _ _ _ => ofConst_sound (.nilFunc)) (by kernel_rfl) (by kernel_rfl) (fun h => absurd h (by decide))
theorem row_70 : TIok Tryz.prog 70 ty70 := TIok.of_row (by kernel_rfl) (z := .nilFunc) (by kernel_rfl) (fun _ _ _ => ofConst_sound (.nilFunc)) (by kernel_rfl) (by kernel_rfl) (fun h => absurd h (by decide))
theorem row_71 : TIok Tryz.prog 71 ty71 := TIok.of_row (by kernel_rfl) (z := .nilFunc) (by kernel_rfl) (fun _ _ _ => ofConst_sound (.nilFunc)) (by kernel_rfl) (by kernel_rfl) (fun h => absurd h (by decide))
theorem row_73 : TIok Tryz.prog 73 ty73 := TIok.of_row (by kernel_rfl) (z := .nilFunc) (by kernel_rfl) (fun _ _ _ => ofConst_sound (.nilFunc)) (by kernel_rfl) (by kernel_rfl) (fun h => absurd h (by decide))
theorem row_74 : TIok Tryz.prog 74 ty74 := TIok.of_row (by kernel_rfl) (z := .int .u64 0) (by kernel_rfl) (fun _ _ _ => ofConst_sound (.int .u64 0)) (by kernel_rfl) (by kernel_rfl) (fun h => absurd h (by decide))
theorem row_75 : TIok Tryz.prog 75 ty75 := TIok.of_row (by kernel_rfl) (z := .nilFunc) (by kernel_rfl) (fun _ _ _ => ofConst_sound (.nilFunc)) (by kernel_rfl) (by kernel_rfl) (fun h => absurd h (by decide))
theorem row_76 : TIok Tryz.prog 76 ty76 := TIok.of_row (by kernel_rfl) (z := .nilFunc) (by kernel_rfl) (fun _ _ _ => ofConst_sound (.nilFunc)) (by kernel_rfl) (by kernel_rfl) (fun h => absurd h (by decide))
theorem row_77 : TIok Tryz.prog 77 ty77 := TIok.of_row (by kernel_rfl) (z := .nilFunc) (by kernel_rfl) (fun _ _ _ => ofConst_sound (.nilFunc)) (by kernel_rfl) (by kernel_rfl) (fun h => absurd h (by decide))
theorem row_78 : TIok Tryz.prog 78 ty78 := TIok.of_row (by kernel_rfl) (z := .nilFunc) (by kernel_rfl) (fun _ _ _ => ofConst_sound (.nilFunc)) (by kernel_rfl) (by kernel_rfl) (fun h => absurd h (by decide))
theorem row_79 : TIok Tryz.prog 79 ty79 := TIok.of_row (by kernel_rfl) (z := .nilFunc) (by kernel_rfl) (fun _ _ _ => ofConst_sound (.nilFunc)) (by kernel_rfl) (by kernel_rfl) (fun h => absurd h (by decide))
theorem row_80 : TIok Tryz.prog 80 ty80 := TIok.of_row (by kernel_rfl) (z := .nilFunc) (by kernel_rfl) (fun _ _ _ => ofConst_sound (.nilFunc)) (by kernel_rfl) (by kernel_rfl) (fun h => absurd h (by decide))
theorem row_81 : TIok Tryz.prog 81 ty81 := TIok.of_row (by kernel_rfl) (z := .nilFunc) (by kernel_rfl) (fun _ _ _ => ofConst_sound (.nilFunc)) (by kernel_rfl) (by kernel_rfl) (fun h => absurd h (by decide))
theorem row_82 : TIok Tryz.prog 82 ty82 := TIok.of_row (by kernel_rfl) (z := .nilFunc) (by kernel_rfl) (fun _ _ _ => ofConst_sound (.nilFunc)) (by kernel_rfl) (by kernel_rfl) (fun h => absurd h (by decide))
theorem row_83 : TIok Tryz.prog 83 ty83 := TIok.of_row (by kernel_rfl) (z := .nilFunc) (by kernel_rfl) (fun _ _ _ => ofConst_sound (.nilFunc)) (by kernel_rfl) (by kernel_rfl) (fun h => absurd h (by decide))
theorem row_84 : TIok Tryz.prog 84 ty84 := TIok.of_row (by kernel_rfl) (z := .nilFunc) (by kernel_rfl) (fun _ _ _ => ofConst_sound (.nilFunc)) (by kernel_rfl) (by kernel_rfl) (fun h => absurd h (by decide))
theorem row_85 : TIok Tryz.prog 85 ty85 := TIok.of_row (by kernel_rfl) (z := .nilFunc) (by kernel_rfl) (fun _ _ _ => ofConst_sound (.nilFunc)) (by kernel_rfl) (by kernel_rfl) (fun h => absurd h (by decide))
theorem row_86 : TIok Tryz.prog 86 ty86 := TIok.of_row (by kernel_rfl) (z := .nilFunc) (by kernel_rfl) (fun _ _ _ => ofConst_sound (.nilFunc)) (by kernel_rfl) (by kernel_rfl) (fun h => absurd h (by decide))
theorem row_87 : TIok Tryz.prog 87 ty87 := TIok.of_row (by kernel_rfl) (z := .nilFunc) (by kernel_rfl) (fun _ _ _ => ofConst_sound (.nilFunc)) (by kernel_rfl) (by kernel_rfl) (fun h => absurd h (by decide))
theorem row_89 : TIok Tryz.prog 89 ty89 := TIok.of_row (by kernel_rfl) (z := .nilFunc) (by kernel_rfl) (fun _ _ _ => ofConst_sound (.nilFunc)) (by kernel_rfl) (by kernel_rfl) (fun h => absurd h (by decide))
theorem row_90 : TIok Tryz.prog 90 ty90 := TIok.of_row (by kernel_rfl) (z := .nilFunc) (by kernel_rfl) (fun _ _ _ => ofConst_sound (.nilFunc)) (by kernel_rfl) (by kernel_rfl) (fun h => absurd h (by decide))
theorem row_91 : TIok Tryz.prog 91 ty91 := TIok.of_row (by kernel_rfl) (z := .nilFunc) (by kernel_rfl) (fun _ _ _ => ofConst_sound (.nilFunc)) (by kernel_rfl) (by kernel_rfl) (fun h => absurd h (by decide))
theorem row_92 : TIok Tryz.prog 92 ty92 := TIok.of_row (by kernel_rfl) (z := .nilFunc) (by kernel_rfl) (fun _ _ _ => ofConst_sound (.nilFunc)) (by kernel_rfl) (by kernel_rfl) (fun h => absurd h (by decide))
theorem row_93 : TIok Tryz.prog 93 ty93 := TIok.of_row (by kernel_rfl) (z := .agg (Array.replicate 128 (.int .u64 0))) (by kernel_rfl) (fun _ _ _ => by rw [show ty93.zero = ofConst (.agg (Array.replicate 128 (.int .u64 0))) by kernel_rfl]; exact ofConst_sound _) (by kernel_rfl) (by kernel_rfl) (fun _ => .inl rfl)
theorem row_94 : TIok Tryz.prog 94 ty94 := TIok.of_row (by kernel_rfl) (z := .nilFunc) (by kernel_rfl) (fun _ _ _ => ofConst_sound (.nilFunc)) (by kernel_rfl) (by kernel_rfl) (fun h => absurd h (by decide))
theorem row_95 : TIok Tryz.prog 95 ty95 := TIok.of_row (by kernel_rfl) (z := .nilFunc) (by kernel_rfl) (fun _ _ _ => ofConst_sound (.nilFunc)) (by kernel_rfl) (by kernel_rfl) (fun h => absurd h (by decide))
theorem row_96 : TIok Tryz.prog 96 ty96 := TIok.of_row (by kernel_rfl) (z := .nilFunc) (by kernel_rfl) (fun _ _ _ => ofConst_sound (.nilFunc)) (by kernel_rfl) (by kernel_rfl) (fun h => absurd h (by decide))
theorem row_98 : TIok Tryz.prog 98 ty98 := TIok.of_row (by kernel_rfl) (z := .nilFunc) (by kernel_rfl) (fun _ _ _ => ofConst_sound (.nilFunc)) (by kernel_rfl) (by kernel_rfl) (fun h => absurd h (by decide))
theorem row_99 : TIok Tryz.prog 99 ty99 := TIok.of_row (by kernel_rfl) (z := .nilFunc) (by kernel_rfl) (fun _ _ _ => ofConst_sound (.nilFunc)) (by kernel_rfl) (by kernel_rfl) (fun h => absurd h (by decide))
theorem row_100 : TIok Tryz.prog 100 ty100 := TIok.of_row (by kernel_rfl) (z := .nilFunc) (by kernel_rfl) (fun _ _ _ => ofConst_sound (.nilFunc)) (by kernel_rfl) (by kernel_rfl) (fun h => absurd h (by decide))
theorem row_101 : TIok Tryz.prog 101 ty101 := TIok.of_row (by kernel_rfl) (z := .slice none 0 0) (by kernel_rfl) (fun _ _ _ => ofConst_sound (.slice none 0 0)) (by kernel_rfl) (by kernel_rfl) (fun h => absurd h (by decide))
theorem row_102 : TIok Tryz.prog 102 ty102 := TIok.of_row (by kernel_rfl) (z := .nilFunc) (by kernel_rfl) (fun _ _ _ => ofConst_sound (.nilFunc)) (by kernel_rfl) (by kernel_rfl) (fun h => absurd h (by decide))
theorem row_103 : TIok Tryz.prog 103 ty103 := TIok.of_row (by kernel_rfl) (z := .nilFunc) (by kernel_rfl) (fun _ _ _ => ofConst_sound (.nilFunc)) (by kernel_rfl) (by kernel_rfl) (fun h => absurd h (by decide))
theorem row_104 : TIok Tryz.prog 104 ty104 := TIok.of_row (by kernel_rfl) (z := .nilFunc) (by kernel_rfl) (fun _ _ _ => ofConst_sound (.nilFunc)) (by kernel_rfl) (by kernel_rfl) (fun h => absurd h (by decide))
theorem row_105 : TIok Tryz.prog 105 ty105 := TIok.of_row (by kernel_rfl) (z := .nilFunc) (by kernel_rfl) (fun _ _ _ => ofConst_sound (.nilFunc)) (by kernel_rfl) (by kernel_rfl) (fun h => absurd h (by decide))
theorem row_106 : TIok Tryz.prog 106 ty106 := TIok.of_row (by kernel_rfl) (z := .nilFunc) (by kernel_rfl) (fun _ _ _ => ofConst_sound (.nilFunc)) (by kernel_rfl) (by kernel_rfl) (fun h => absurd h (by decide))
theorem row_107 : TIok Tryz.prog 107 ty107 := TIok.of_row (by kernel_rfl) (z := .nilFunc) (by kernel_rfl) (fun _ _ _ => ofConst_sound (.nilFunc)) (by kernel_rfl) (by kernel_rfl) (fun h => absurd h (by decide))
theorem row_109 : TIok Tryz.prog 109 ty109 := TIok.of_row (by kernel_rfl) (z := .nilFunc) (by kernel_rfl) (fun _ _ _ => ofConst_sound (.nilFunc)) (by kernel_rfl) (by kernel_rfl) (fun h => absurd h (by decide))
theorem row_110 : TIok Tryz.prog 110 ty110 := TIok.of_row (by kernel_rfl) (z := .nilFunc) (by kernel_rfl) (fun _ _ _ => ofConst_sound (.nilFunc)) (by kernel_rfl) (by kernel_rfl) (fun h => absurd h (by decide))
theorem row_112 : TIok Tryz.prog 112 ty112 := TIok.of_row (by kernel_rfl) (z := .nilFunc) (by kernel_rfl) (fun _ _ _ => ofConst_sound (.nilFunc)) (by kernel_rfl) (by kernel_rfl) (fun h => absurd h (by decide))
theorem row_113 : TIok Tryz.prog 113 ty113 := TIok.of_row (by kernel_rfl) (z := .nilFunc) (by kernel_rfl) (fun _ _ _ => ofConst_sound (.nilFunc)) (by kernel_rfl) (by kernel_rfl) (fun h => absurd h (by decide))
theorem row_115 : TIok Tryz.prog 115 ty115 := TIok.of_row (by kernel_rfl) (z := .nilFunc) (by kernel_rfl) (fun _ _ _ => ofConst_sound (.nilFunc)) (by kernel_rfl) (by kernel_rfl) (fun h => absurd h (by decide))
theorem row_116 : TIok Tryz.prog 116 ty116 := TIok.of_row (by kernel_rfl) (z := .agg #[.int .u8 0, .int .u8 0, .int .u8 0, .int .u8 0, .int .u8 0, .int .u8 0, .int .u8 0, .int .u8 0, .int .u8 0, .int .u8 0, .int .u8 0, .int .u8 0, .int .u8 0, .int .u8 0, .int .u8 0, .int .u8 0, .int .u8 0, .int .u8 0, .int .u8 0, .int .u8 0, .int .u8 0, .int .u8 0, .int .u8 0, .int .u8 0]) (by kernel_rfl) (fun _ _ _ => ofConst_sound (.agg #[.int .u8 0, .int .u8 0, .int .u8 0, .int .u8 0, .int .u8 0, .int .u8 0, .int .u8 0, .int .u8 0, .int .u8 0, .int .u8 0, .int .u8 0, .int .u8 0, .int .u8 0, .int .u8 0, .int .u8 0, .int .u8 0, .int .u8 0, .int .u8 0, .int .u8 0, .int .u8 0, .int .u8 0, .int .u8 0, .int .u8 0, .int .u8 0])) (by kernel_rfl) (by kernel_rfl) (fun _ => .inl rfl)
theorem row_117 : TIok Tryz.prog 117 ty117 := TIok.of_row (by kernel_rfl) (z := .nilFunc) (by kernel_rfl) (fun _ _ _ => ofConst_sound (.nilFunc)) (by kernel_rfl) (by kernel_rfl) (fun h => absurd h (by decide))
theorem row_119 : TIok Tryz.prog 119 ty119 := TIok.of_row (by kernel_rfl) (z := .nilFunc) (by kernel_rfl) (fun _ _ _ => ofConst_sound (.nilFunc)) (by kernel_rfl) (by kernel_rfl) (fun h => absurd h (by decide))
theorem row_120 : TIok Tryz.prog 120 ty120 := TIok.of_row (by kernel_rfl) (z := .nilFunc) (by kernel_rfl) (fun _ _ _ => ofConst_sound (.nilFunc)) (by kernel_rfl) (by kernel_rfl) (fun h => absurd h (by decide))
theorem row_121 : TIok Tryz.prog 121 ty121 := TIok.of_row (by kernel_rfl) (z := .agg (Array.replicate 256 (.bool false))) (by kernel_rfl) (fun _ _ _ => by rw [show ty121.zero = ofConst (.agg (Array.replicate 256 (.bool false))) by kernel_rfl]; exact ofConst_sound _) (by kernel_rfl) (by kernel_rfl) (fun _ => .inl rfl)
theorem row_122 : TIok Tryz.prog 122 ty122 := TIok.of_row (by kernel_rfl) (z := .agg (Array.replicate 256 (.bool false))) (by kernel_rfl) (fun _ _ _ => by rw [show ty122.zero = ofConst (.agg (Array.replicate 256 (.bool false))) by kernel_rfl]; exact ofConst_sound _) (by kernel_rfl) (by kernel_rfl) (fun _ => .inl rfl)
theorem row_124 : TIok Tryz.prog 124 ty124 := TIok.of_row (by kernel_rfl) (z := .nilFunc) (by kernel_rfl) (fun _ _ _ => ofConst_sound (.nilFunc)) (by kernel_rfl) (by kernel_rfl) (fun h => absurd h (by decide))
theorem row_125 : TIok Tryz.prog 125 ty125 := TIok.of_row (by kernel_rfl) (z := .nilFunc) (by kernel_rfl) (fun _ _ _ => ofConst_sound (.nilFunc)) (by kernel_rfl) (by kernel_rfl) (fun h => absurd h (by decide))
theorem row_126 : TIok Tryz.prog 126 ty126 := TIok.of_row (by kernel_rfl) (z := .pointer none) (by kernel_rfl) (fun _ _ _ => ofConst_sound (.pointer none)) (by kernel_rfl) (by kernel_rfl) (fun h => absurd h (by decide))
theorem row_127 : TIok Tryz.prog 127 ty127 := TIok.of_row (by kernel_rfl) (z := .pointer none) (by kernel_rfl) (fun _ _ _ => ofConst_sound (.pointer none)) (by kernel_rfl) (by kernel_rfl) (fun h => absurd h (by decide))
theorem row_128 : TIok Tryz.prog 128 ty128 := TIok.of_row (by kernel_rfl) (z := .nilFunc) (by kernel_rfl) (fun _ _ _ => ofConst_sound (.nilFunc)) (by kernel_rfl) (by kernel_rfl) (fun h => absurd h (by decide))
theorem row_129 : TIok Tryz.prog 129 ty129 := TIok.of_row (by kernel_rfl) (z := .agg #[.string ByteArray.empty, .int .i64 0]) (by kernel_rfl) (fun _ _ _ => ofConst_sound (.agg #[.string ByteArray.empty, .int .i64 0])) (by kernel_rfl) (by kernel_rfl) (fun _ => .inl rfl)
theorem row_130 : TIok Tryz.prog 130 ty130 := TIok.of_row (by kernel_rfl) (z := .agg #[.string ByteArray.empty, .int .i64 0]) (by kernel_rfl) (fun _ _ _ => ofConst_sound (.agg #[.string ByteArray.empty, .int .i64 0])) (by kernel_rfl) (by kernel_rfl) (fun _ => .inl rfl)
theorem row_131 : TIok Tryz.prog 131 ty131 := TIok.of_row (by kernel_rfl) (z := .agg #[.string ByteArray.empty, .int .i64 0, .int .i64 0]) (by kernel_rfl) (fun _ _ _ => ofConst_sound (.agg #[.string ByteArray.empty, .int .i64 0, .int .i64 0])) (by kernel_rfl) (by kernel_rfl) (fun _ => .inl rfl)
theorem row_132 : TIok Tryz.prog 132 ty132 := TIok.of_row (by kernel_rfl) (z := .agg #[.string ByteArray.empty, .int .i64 0, .int .i64 0]) (by kernel_rfl) (fun _ _ _ => ofConst_sound (.agg #[.string ByteArray.empty, .int .i64 0, .int .i64 0])) (by kernel_rfl) (by kernel_rfl) (fun _ => .inl rfl)
theorem row_134 : TIok Tryz.prog 134 ty134 := TIok.of_row (by kernel_rfl) (z := .nilFunc) (by kernel_rfl) (fun _ _ _ => ofConst_sound (.nilFunc)) (by kernel_rfl) (by kernel_rfl) (fun h => absurd h (by decide))
theorem row_135 : TIok Tryz.prog 135 ty135 := TIok.of_row (by kernel_rfl) (z := .nilFunc) (by kernel_rfl) (fun _ _ _ => ofConst_sound (.nilFunc)) (by kernel_rfl) (by kernel_rfl) (fun h => absurd h (by decide))
theorem row_136 : TIok Tryz.prog 136 ty136 := TIok.of_row (by kernel_rfl) (z := .agg #[.int .u64 0, .int .u64 0, .int .u64 0, .int .u64 0, .int .u64 0, .int .u64 0, .int .u64 0, .int .u64 0, .int .u64 0, .int .u64 0, .int .u64 0, .int .u64 0, .int .u64 0, .int .u64 0, .int .u64 0, .int .u64 0, .int .u64 0, .int .u64 0, .int .u64 0, .int .u64 0]) (by kernel_rfl) (fun _ _ _ => ofConst_sound (.agg #[.int .u64 0, .int .u64 0, .int .u64 0, .int .u64 0, .int .u64 0, .int .u64 0, .int .u64 0, .int .u64 0, .int .u64 0, .int .u64 0, .int .u64 0, .int .u64 0, .int .u64 0, .int .u64 0, .int .u64 0, .int .u64 0, .int .u64 0, .int .u64 0, .int .u64 0, .int .u64 0])) (by kernel_rfl) (by kernel_rfl) (fun _ => .inl rfl)
theorem row_137 : TIok Tryz.prog 137 ty137 := TIok.of_row (by kernel_rfl) (z := .int .u32 0) (by kernel_rfl) (fun _ _ _ => ofConst_sound (.int .u32 0)) (by kernel_rfl) (by kernel_rfl) (fun h => absurd h (by decide))
theorem row_138 : TIok Tryz.prog 138 ty138 := TIok.of_row (by kernel_rfl) (z := .agg (Array.replicate 65 (.int .u8 0))) (by kernel_rfl) (fun _ _ _ => by rw [show ty138.zero = ofConst (.agg (Array.replicate 65 (.int .u8 0))) by kernel_rfl]; exact ofConst_sound _) (by kernel_rfl) (by kernel_rfl) (fun _ => .inl rfl)
theorem row_139 : TIok Tryz.prog 139 ty139 := TIok.of_row (by kernel_rfl) (z := .nilFunc) (by kernel_rfl) (fun _ _ _ => ofConst_sound (.nilFunc)) (by kernel_rfl) (by kernel_rfl) (fun h => absurd h (by decide))
theorem row_141 : TIok Tryz.prog 141 ty141 := TIok.of_row (by kernel_rfl) (z := .nilFunc) (by kernel_rfl) (fun _ _ _ => ofConst_sound (.nilFunc)) (by kernel_rfl) (by kernel_rfl) (fun h => absurd h (by decide))
theorem row_142 : TIok Tryz.prog 142 ty142 := TIok.of_row (by kernel_rfl) (z := .nilFunc) (by kernel_rfl) (fun _ _ _ => ofConst_sound (.nilFunc)) (by kernel_rfl) (by kernel_rfl) (fun h => absurd h (by decide))
theorem row_144 : TIok Tryz.prog 144 ty144 := TIok.of_row (by kernel_rfl) (z := .nilFunc) (by kernel_rfl) (fun _ _ _ => ofConst_sound (.nilFunc)) (by kernel_rfl) (by kernel_rfl) (fun h => absurd h (by decide))
theorem row_145 : TIok Tryz.prog 145 ty145 := TIok.of_row (by kernel_rfl) (z := .nilFunc) (by kernel_rfl) (fun _ _ _ => ofConst_sound (.nilFunc)) (by kernel_rfl) (by kernel_rfl) (fun h => absurd h (by decide))
theorem row_146 : TIok Tryz.prog 146 ty146 := TIok.of_row (by kernel_rfl) (z := .pointer none) (by kernel_rfl) (fun _ _ _ => ofConst_sound (.pointer none)) (by kernel_rfl) (by kernel_rfl) (fun h => absurd h (by decide))
theorem row_147 : TIok Tryz.prog 147 ty147 := TIok.of_row (by kernel_rfl) (z := .nilFunc) (by kernel_rfl) (fun _ _ _ => ofConst_sound (.nilFunc)) (by kernel_rfl) (by kernel_rfl) (fun h => absurd h (by decide))
theorem row_148 : TIok Tryz.prog 148 ty148 := TIok.of_row (by kernel_rfl) (z := .nilFunc) (by kernel_rfl) (fun _ _ _ => ofConst_sound (.nilFunc)) (by kernel_rfl) (by kernel_rfl) (fun h => absurd h (by decide))
theorem row_149 : TIok Tryz.prog 149 ty149 := TIok.of_row (by kernel_rfl) (z := .nilFunc) (by kernel_rfl) (fun _ _ _ => ofConst_sound (.nilFunc)) (by kernel_rfl) (by kernel_rfl) (fun h => absurd h (by decide))
theorem row_150 : TIok Tryz.prog 150 ty150 := TIok.of_row (by kernel_rfl) (z := .nilFunc) (by kernel_rfl) (fun _ _ _ => ofConst_sound (.nilFunc)) (by kernel_rfl) (by kernel_rfl) (fun h => absurd h (by decide))
theorem row_151 : TIok Tryz.prog 151 ty151 := TIok.of_row (by kernel_rfl) (z := .agg (Array.replicate 32 (.int .u8 0))) (by kernel_rfl) (fun _ _ _ => by rw [show ty151.zero = ofConst (.agg (Array.replicate 32 (.int .u8 0))) by kernel_rfl]; exact ofConst_sound _) (by kernel_rfl) (by kernel_rfl) (fun _ => .inl rfl)
theorem row_152 : TIok Tryz.prog 152 ty152 := TIok.of_row (by kernel_rfl) (z := .agg (Array.replicate 64 (.int .u8 0))) (by kernel_rfl) (fun _ _ _ => by rw [show ty152.zero = ofConst (.agg (Array.replicate 64 (.int .u8 0))) by kernel_rfl]; exact ofConst_sound _) (by kernel_rfl) (by kernel_rfl) (fun _ => .inl rfl)
theorem row_153 : TIok Tryz.prog 153 ty153 := TIok.of_row (by kernel_rfl) (z := .agg (Array.replicate 256 (.int .u8 0))) (by kernel_rfl) (fun _ _ _ => by rw [show ty153.zero = ofConst (.agg (Array.replicate 256 (.int .u8 0))) by kernel_rfl]; exact ofConst_sound _) (by kernel_rfl) (by kernel_rfl) (fun _ => .inl rfl)
theorem row_154 : TIok Tryz.prog 154 ty154 := TIok.of_row (by kernel_rfl) (z := .agg #[.int .u8 0, .int .u8 0]) (by kernel_rfl) (fun _ _ _ => ofConst_sound (.agg #[.int .u8 0, .int .u8 0])) (by kernel_rfl) (by kernel_rfl) (fun _ => .inr (by kernel_rfl))
theorem row_155 : TIok Tryz.prog 155 ty155 := TIok.of_row (by kernel_rfl) (z := .agg #[.int .u8 0, .int .u8 0]) (by kernel_rfl) (fun _ _ _ => ofConst_sound (.agg #[.int .u8 0, .int .u8 0])) (by kernel_rfl) (by kernel_rfl) (fun _ => .inr (by kernel_rfl))
theorem row_156 : TIok Tryz.prog 156 ty156 := TIok.of_row (by kernel_rfl) (z := .agg (Array.replicate 32 (.int .u8 0))) (by kernel_rfl) (fun _ _ _ => by rw [show ty156.zero = ofConst (.agg (Array.replicate 32 (.int .u8 0))) by kernel_rfl]; exact ofConst_sound _) (by kernel_rfl) (by kernel_rfl) (fun _ => .inl rfl)
theorem row_157 : TIok Tryz.prog 157 ty157 := TIok.of_row (by kernel_rfl) (z := .nilFunc) (by kernel_rfl) (fun _ _ _ => ofConst_sound (.nilFunc)) (by kernel_rfl) (by kernel_rfl) (fun h => absurd h (by decide))
theorem row_158 : TIok Tryz.prog 158 ty158 := TIok.of_row (by kernel_rfl) (z := .nilFunc) (by kernel_rfl) (fun _ _ _ => ofConst_sound (.nilFunc)) (by kernel_rfl) (by kernel_rfl) (fun h => absurd h (by decide))
theorem row_159 : TIok Tryz.prog 159 ty159 := TIok.of_row (by kernel_rfl) (z := .nilFunc) (by kernel_rfl) (fun _ _ _ => ofConst_sound (.nilFunc)) (by kernel_rfl) (by kernel_rfl) (fun h => absurd h (by decide))
theorem row_160 : TIok Tryz.prog 160 ty160 := TIok.of_row (by kernel_rfl) (z := .agg #[.pointer none, .pointer none, .pointer none, .string ByteArray.empty]) (by kernel_rfl) (fun _ _ _ => ofConst_sound (.agg #[.pointer none, .pointer none, .pointer none, .string ByteArray.empty])) (by kernel_rfl) (by kernel_rfl) (fun _ => .inl rfl)
theorem row_161 : TIok Tryz.prog 161 ty161 := TIok.of_row (by kernel_rfl) (z := .agg #[.pointer none, .pointer none, .pointer none, .string ByteArray.empty]) (by kernel_rfl) (fun _ _ _ => ofConst_sound (.agg #[.pointer none, .pointer none, .pointer none, .string ByteArray.empty])) (by kernel_rfl) (by kernel_rfl) (fun _ => .inl rfl)
theorem row_165 : TIok Tryz.prog 165 ty165 := TIok.of_row (by kernel_rfl) (z := .nilFunc) (by kernel_rfl) (fun _ _ _ => ofConst_sound (.nilFunc)) (by kernel_rfl) (by kernel_rfl) (fun h => absurd h (by decide))
theorem row_166 : TIok Tryz.prog 166 ty166 := TIok.of_row (by kernel_rfl) (z := .int .u8 0) (by kernel_rfl) (fun _ _ _ => ofConst_sound (.int .u8 0)) (by kernel_rfl) (by kernel_rfl) (fun h => absurd h (by decide))
theorem row_167 : TIok Tryz.prog 167 ty167 := TIok.of_row (by kernel_rfl) (z := .int .u8 0) (by kernel_rfl) (fun _ _ _ => ofConst_sound (.int .u8 0)) (by kernel_rfl) (by kernel_rfl) (fun h => absurd h (by decide))
theorem row_168 : TIok Tryz.prog 168 ty168 := TIok.of_row (by kernel_rfl) (z := .nilFunc) (by kernel_rfl) (fun _ _ _ => ofConst_sound (.nilFunc)) (by kernel_rfl) (by kernel_rfl) (fun h => absurd h (by decide))
theorem row_169 : TIok Tryz.prog 169 ty169 := TIok.of_row (by kernel_rfl) (z := .pointer none) (by kernel_rfl) (fun _ _ _ => ofConst_sound (.pointer none)) (by kernel_rfl) (by kernel_rfl) (fun h => absurd h (by decide))
theorem row_170 : TIok Tryz.prog 170 ty170 := TIok.of_row (by kernel_rfl) (z := .int .i32 0) (by kernel_rfl) (fun _ _ _ => ofConst_sound (.int .i32 0)) (by kernel_rfl) (by kernel_rfl) (fun h => absurd h (by decide))
theorem row_171 : TIok Tryz.prog 171 ty171 := TIok.of_row (by kernel_rfl) (z := .int .i32 0) (by kernel_rfl) (fun _ _ _ => ofConst_sound (.int .i32 0)) (by kernel_rfl) (by kernel_rfl) (fun h => absurd h (by decide))
theorem row_172 : TIok Tryz.prog 172 ty172 := TIok.of_row (by kernel_rfl) (z := .agg #[.int .u64 0, .int .u64 0, .int .u32 0, .int .u8 0, .int .u8 0, .int .u8 0, .int .u8 0, .nilFunc, .pointer none, .int .i32 0, .int .i32 0]) (by kernel_rfl) (fun _ _ _ => ofConst_sound (.agg #[.int .u64 0, .int .u64 0, .int .u32 0, .int .u8 0, .int .u8 0, .int .u8 0, .int .u8 0, .nilFunc, .pointer none, .int .i32 0, .int .i32 0])) (by kernel_rfl) (by kernel_rfl) (fun _ => .inl rfl)
theorem row_173 : TIok Tryz.prog 173 ty173 := TIok.of_row (by kernel_rfl) (z := .agg #[.int .u64 0, .int .u64 0, .int .u32 0, .int .u8 0, .int .u8 0, .int .u8 0, .int .u8 0, .nilFunc, .pointer none, .int .i32 0, .int .i32 0]) (by kernel_rfl) (fun _ _ _ => ofConst_sound (.agg #[.int .u64 0, .int .u64 0, .int .u32 0, .int .u8 0, .int .u8 0, .int .u8 0, .int .u8 0, .nilFunc, .pointer none, .int .i32 0, .int .i32 0])) (by kernel_rfl) (by kernel_rfl) (fun _ => .inl rfl)
theorem allOK : AllOK Tryz.prog 0 ttL := ⟨fun h => absurd rfl h, fun _ => row_1, fun _ => row_2, fun _ => row_3, fun _ => row_4, fun _ => row_5, fun _ => row_6, fun _ => row_7, fun _ => row_8, fun _ => row_9, fun _ => row_10, fun _ => row_11, fun _ => row_12, fun _ => row_13, fun _ => row_14, fun _ => row_15, fun _ => row_16, fun _ => row_17, fun _ => row_18, fun _ => row_19, fun _ => row_20, fun _ => row_21, fun _ => row_22, fun _ => row_23, fun _ => row_24, fun _ => row_25, fun _ => row_26, fun h => absurd rfl h, fun _ => row_28, fun _ => row_29, fun h => absurd rfl h, fun _ => row_31, fun _ => row_32, fun _ => row_33, fun _ => row_34, fun _ => row_35, fun _ => row_36, fun h => absurd rfl h, fun _ => row_38, fun _ => row_39, fun _ => row_40, fun _ => row_41, fun _ => row_42, fun _ => row_43, fun _ => row_44, fun _ => row_45, fun _ => row_46, fun _ => row_47, fun _ => row_48, fun _ => row_49, fun _ => row_50, fun h => absurd rfl h, fun _ => row_52, fun _ => row_53, fun _ => row_54, fun _ => row_55, fun _ => row_56, fun _ => row_57, fun _ => row_58, fun _ => row_59, fun h => absurd rfl h, fun _ => row_61, fun _ => row_62, fun _ => row_63, fun h => absurd rfl h, fun _ => row_65, fun _ => row_66, fun _ => row_67, fun _ => row_68, fun _ => row_69, fun _ => row_70, fun _ => row_71, fun h => absurd rfl h, fun _ => row_73, fun _ => row_74, fun _ => row_75, fun _ => row_76, fun _ => row_77, fun _ => row_78, fun _ => row_79, fun _ => row_80, fun _ => row_81, fun _ => row_82, fun _ => row_83, fun _ => row_84, fun _ => row_85, fun _ => row_86, fun _ => row_87, fun h => absurd rfl h, fun _ => row_89, fun _ => row_90, fun _ => row_91, fun _ => row_92, fun _ => row_93, fun _ => row_94, fun _ => row_95, fun _ => row_96, fun h => absurd rfl h, fun _ => row_98, fun _ => row_99, fun _ => row_100, fun _ => row_101, fun _ => row_102, fun _ => row_103, fun _ => row_104, fun _ => row_105, fun _ => row_106, fun _ => row_107, fun h => absurd rfl h, fun _ => row_109, fun _ => row_110, fun h => absurd rfl h, fun _ => row_112, fun _ => row_113, fun h => absurd rfl h, fun _ => row_115, fun _ => row_116, fun _ => row_117, fun h => absurd rfl h, fun _ => row_119, fun _ => row_120, fun _ => row_121, fun _ => row_122, fun h => absurd rfl h, fun _ => row_124, fun _ => row_125, fun _ => row_126, fun _ => row_127, fun _ => row_128, fun _ => row_129, fun _ => row_130, fun _ => row_131, fun _ => row_132, fun h => absurd rfl h, fun _ => row_134, fun _ => row_135, fun _ => row_136, fun _ => row_137, fun _ => row_138, fun _ => row_139, fun h => absurd rfl h, fun _ => row_141, fun _ => row_142, fun h => absurd rfl h, fun _ => row_144, fun _ => row_145, fun _ => row_146, fun _ => row_147, fun _ => row_148, fun _ => row_149, fun _ => row_150, fun _ => row_151, fun _ => row_152, fun _ => row_153, fun _ => row_154, fun _ => row_155, fun _ => row_156, fun _ => row_157, fun _ => row_158, fun _ => row_159, fun _ => row_160, fun _ => row_161, fun h => absurd rfl h, fun h => absurd rfl h, fun h => absurd rfl h, fun _ => row_165, fun _ => row_166, fun _ => row_167, fun _ => row_168, fun _ => row_169, fun _ => row_170, fun _ => row_171, fun _ => row_172, fun _ => row_173, fun h => absurd rfl h, trivial⟩
theorem tok : TOK Tryz.prog tt := fun t h => by have := tok_of allOK t h; rwa [Nat.zero_add] at this
end Go.Proofs.YtllfdnbnkncnhaaGreatDoor

/- Chapters 7 and 8: cubes as pairs of words, their cells, what the functions answer. -/
set_option maxRecDepth 100000
set_option linter.all false
namespace Go.Proofs.YtllfdnbnkncnhaaGreatDoor
open Go.Vm

structure Cu where
  v : W64
  m : W64
  deriving DecidableEq
instance : Inhabited Cu := ⟨⟨0#64, 0#64⟩⟩
def encC (c : Cu) : List V := [.int .u64 c.v.toNat, .int .u64 c.m.toNat]
def slC (l : List Cu) : V := .sl false (l.flatMap encC) l.length
theorem lenC (x : Cu) : (encC x).length = 2 := rfl
theorem belC {n : Nat} (x : Cu) : belAll n (encC x) = true := rfl
theorem bel_Cs {n : Nat} (xs : List Cu) : belAll n (xs.flatMap encC) = true := belAll_flat belC xs
theorem bel_slC {n : Nat} (l : List Cu) : (slC l).bel n = true := by unfold slC; rw [bel_sl]; exact bel_Cs l
theorem mixed : Tryz.prog.follows .mixedOrders = true := by kernel_rfl
def cfg0 : Cfg := ⟨[], [], [], []⟩
theorem ones_C {g : Bool} {p : Prop} : ∀ {xs : List Cu}, ones g (xs.flatMap encC) p = p
  | [] => rfl
  | x :: xs => by simp only [List.flatMap_cons, encC, List.cons_append, List.nil_append, ones, V.one]; exact ones_C
theorem take_C {xs : List Cu} : (xs.flatMap encC).take (xs.length * 2) = xs.flatMap encC := by
  rw [List.take_of_length_le (by rw [len_flat lenC]; exact Nat.le_refl _)]

/-- the w lowest bits -/
def low (w : Nat) : W64 := BitVec.allOnes 64 >>> (64 - w)
theorem low_bit {w i : Nat} (hw : w ≤ 64) (hi : i < 64) : (low w).getLsbD i = decide (i < w) := by
  simp only [low, BitVec.getLsbD_ushiftRight, BitVec.getLsbD_allOnes]
  congr 1
  apply propext
  omega
def okW (w : Int) : Bool := decide (1 ≤ w) && decide (w ≤ 64)
def chkC (c : Cu) (w : Int) : Int := if okW w then (if c.m &&& ~~~ low w.toNat = 0#64 then (if c.v &&& ~~~ c.m = 0#64 then 0 else 5) else 9) else 10
def mem (c : Cu) (n : W64) : Bool := decide ((c.v ^^^ n) &&& c.m = 0#64)
def meet (a b : Cu) : Cu × Bool := if (a.v ^^^ b.v) &&& a.m &&& b.m = 0#64 then (⟨a.v &&& a.m ||| b.v &&& b.m, a.m ||| b.m⟩, true) else (⟨0#64, 0#64⟩, false)
def sub (a b : Cu) : Bool := decide (b.m &&& ~~~ a.m = 0#64) && decide ((a.v ^^^ b.v) &&& b.m = 0#64)
def canon (c : Cu) : Cu := ⟨c.v &&& c.m, c.m⟩
def encCB (r : Cu × Bool) : V := .tup [.agg (encC r.1), .bool r.2]

theorem bit_ext {x y : W64} (h : ∀ i, i < 64 → x.getLsbD i = y.getLsbD i) : x = y := BitVec.eq_of_getLsbD_eq h
theorem and_not_zero {x y : W64} : x &&& ~~~ y = 0#64 ↔ x &&& y = x := by
  constructor
  · intro h
    refine bit_ext fun i hi => ?_
    have := congrArg (fun z => z.getLsbD i) h
    simp only [BitVec.getLsbD_and, BitVec.getLsbD_or, BitVec.getLsbD_not, BitVec.getLsbD_zero, BitVec.getLsbD_xor, decide_true, Bool.true_and, hi] at this ⊢
    generalize x.getLsbD i = a at this ⊢
    generalize y.getLsbD i = b at this ⊢
    revert this
    cases a <;> cases b <;> decide
  · intro h
    refine bit_ext fun i hi => ?_
    have := congrArg (fun z => z.getLsbD i) h
    simp only [BitVec.getLsbD_and, BitVec.getLsbD_or, BitVec.getLsbD_not, BitVec.getLsbD_zero, BitVec.getLsbD_xor, decide_true, Bool.true_and, hi] at this ⊢
    generalize x.getLsbD i = a at this ⊢
    generalize y.getLsbD i = b at this ⊢
    revert this
    cases a <;> cases b <;> decide
theorem xor_and_zero {x y m : W64} : (x ^^^ y) &&& m = 0#64 ↔ x &&& m = y &&& m := by
  constructor
  · intro h
    refine bit_ext fun i hi => ?_
    have := congrArg (fun z => z.getLsbD i) h
    simp only [BitVec.getLsbD_and, BitVec.getLsbD_or, BitVec.getLsbD_not, BitVec.getLsbD_zero, BitVec.getLsbD_xor, decide_true, Bool.true_and, hi] at this ⊢
    generalize x.getLsbD i = a at this ⊢
    generalize y.getLsbD i = b at this ⊢
    generalize m.getLsbD i = c at this ⊢
    revert this
    cases a <;> cases b <;> cases c <;> decide
  · intro h
    refine bit_ext fun i hi => ?_
    have := congrArg (fun z => z.getLsbD i) h
    simp only [BitVec.getLsbD_and, BitVec.getLsbD_or, BitVec.getLsbD_not, BitVec.getLsbD_zero, BitVec.getLsbD_xor, decide_true, Bool.true_and, hi] at this ⊢
    generalize x.getLsbD i = a at this ⊢
    generalize y.getLsbD i = b at this ⊢
    generalize m.getLsbD i = c at this ⊢
    revert this
    cases a <;> cases b <;> cases c <;> decide
end Go.Proofs.YtllfdnbnkncnhaaGreatDoor

/- Chapter 7: the small functions on cubes, of the program and of the reference. -/
set_option maxRecDepth 100000
set_option maxHeartbeats 4000000
set_option linter.all false
namespace Go.Proofs.YtllfdnbnkncnhaaGreatDoor
open Go.Vm

theorem bel_encCB {n : Nat} {r : Cu × Bool} : (encCB r).bel n = true := by simp [encCB, bel_tup, bel_agg, bel_bool, belAll_cons, belAll_nil, belC]
theorem low_shr {w : Nat} (h : w ≤ 64) : ishr .u64 18446744073709551615 (64 - (w : Int)) = ((low w).toNat : Int) := by
  have := w_shr (x := BitVec.allOnes 64) (k := 64 - w)
  rw [low, ← this]
  congr 1
  omega
theorem mem_alt {c : Cu} {n : W64} : mem c n = decide (n &&& c.m = c.v &&& c.m) := by
  unfold mem
  congr 1
  rw [xor_and_zero]
  exact propext eq_comm
theorem sub_alt {a b : Cu} : sub a b = (decide (a.m &&& b.m = b.m) && decide (a.v &&& b.m = b.v &&& b.m)) := by
  unfold sub
  congr 2
  · rw [and_not_zero, BitVec.and_comm]
  · rw [xor_and_zero]
theorem pc75 (w : Int) : PC Tryz.prog 75 [.int .i64 w] (.bool (okW w)) := by
  refine PC.walk tok mixed cfg0 Tryz.func75 rfl Tryz.call75 (by simp [belC, bel_Cs, bel_slC, bel_encCB]) (by first | rfl | simp [belC, bel_Cs, bel_slC, bel_encCB]) ?_; simp (config := { maxSteps := 2000000 }) -implicitDefEqProofs +contextual (disch := first | assumption | omega | decide +kernel) only [push_cast, ↓capI, br2_true, br2_false, frk_tt, frk_tf, frk_f, frkD_tt, frkD_tf, frkD_f, pk2_true, pk2_false, imp_true, seval, Nat.reduceLeDiff, Nat.reduceEqDiff, reduceCtorEq, ↓reduceIte, reduceCtorEq, encC, cfg0, ib_and, ib_or, ib_xor, ib_andNot, ib_not, w_ofInt, w_eqb, w_eqb0, w_inj, w_zero, w_wrap, BitVec.reduceOfInt, Tryz.ntmps75]
  repeat' (first | intro _ | refine And.intro ?_ ?_)
  all_goals
    refine endK.ret ?_ (by first | rfl | simp [belC, bel_Cs, bel_slC, bel_encCB]); simp [evRes, getT, retV, Tryz.f75,  okW, *]
theorem pc76 (w : Nat) (h0 : w ≤ 64) : PC Tryz.prog 76 [.int .i64 w] (.int .u64 (low w).toNat) := by
  refine PC.walk tok mixed cfg0 Tryz.func76 rfl Tryz.call76 (by simp [belC, bel_Cs, bel_slC, bel_encCB]) (by first | rfl | simp [belC, bel_Cs, bel_slC, bel_encCB]) ?_; simp (config := { maxSteps := 2000000 }) -implicitDefEqProofs +contextual (disch := first | assumption | omega | decide +kernel) only [push_cast, ↓capI, br2_true, br2_false, frk_tt, frk_tf, frk_f, frkD_tt, frkD_tf, frkD_f, pk2_true, pk2_false, imp_true, seval, Nat.reduceLeDiff, Nat.reduceEqDiff, reduceCtorEq, ↓reduceIte, reduceCtorEq, encC, cfg0, ib_and, ib_or, ib_xor, ib_andNot, ib_not, w_ofInt, w_eqb, w_eqb0, w_inj, w_zero, w_wrap, BitVec.reduceOfInt, Tryz.ntmps76]
  refine endK.ret ?_ (by first | rfl | simp [belC, bel_Cs, bel_slC, bel_encCB]); simp [evRes, getT, retV, Tryz.f76,  low_shr h0]
theorem pc77 (c : Cu) : PC Tryz.prog 77 [.agg (encC c)] (.agg (encC (canon c))) := by
  refine PC.walk tok mixed cfg0 Tryz.func77 rfl Tryz.call77 (by simp [belC, bel_Cs, bel_slC, bel_encCB]) (by first | rfl | simp [belC, bel_Cs, bel_slC, bel_encCB]) ?_; simp (config := { maxSteps := 2000000 }) -implicitDefEqProofs +contextual (disch := first | assumption | omega | decide +kernel) only [push_cast, ↓capI, br2_true, br2_false, frk_tt, frk_tf, frk_f, frkD_tt, frkD_tf, frkD_f, pk2_true, pk2_false, imp_true, seval, Nat.reduceLeDiff, Nat.reduceEqDiff, reduceCtorEq, ↓reduceIte, reduceCtorEq, encC, cfg0, ib_and, ib_or, ib_xor, ib_andNot, ib_not, w_ofInt, w_eqb, w_eqb0, w_inj, w_zero, w_wrap, BitVec.reduceOfInt, Tryz.ntmps77]
  refine endK.ret ?_ (by first | rfl | simp [belC, bel_Cs, bel_slC, bel_encCB]); simp [belC, bel_Cs, bel_slC, bel_encCB, fzs_ok, imp, lenOK_iff, List.take_of_length_le, evRes, getT, getO, setO, fzs, fz, fzH, Nat.beq, retV, Res.then, ldT, ldR, mkV, getV, tt_56, tt_43, tt_3, tt_4, tt_5, tt_26, tt_25, tt_9, encC, cfg0, ib_and, ib_or, ib_xor, ib_andNot, ib_not, w_ofInt, w_eqb, w_eqb0, w_inj, w_zero, w_wrap, BitVec.reduceOfInt, Tryz.f77,  canon, encC]
theorem pc55 (a b : Cu) : PC Tryz.prog 55 [.agg (encC a), .agg (encC b)] (encCB (meet a b)) := by
  refine PC.walk tok mixed cfg0 Tryz.func55 rfl Tryz.call55 (by simp [belC, bel_Cs, bel_slC, bel_encCB]) (by first | rfl | simp [belC, bel_Cs, bel_slC, bel_encCB]) ?_; simp (config := { maxSteps := 2000000 }) -implicitDefEqProofs +contextual (disch := first | assumption | omega | decide +kernel) only [push_cast, ↓capI, br2_true, br2_false, frk_tt, frk_tf, frk_f, frkD_tt, frkD_tf, frkD_f, pk2_true, pk2_false, imp_true, seval, Nat.reduceLeDiff, Nat.reduceEqDiff, reduceCtorEq, ↓reduceIte, reduceCtorEq, encC, cfg0, ib_and, ib_or, ib_xor, ib_andNot, ib_not, w_ofInt, w_eqb, w_eqb0, w_inj, w_zero, w_wrap, BitVec.reduceOfInt, Tryz.ntmps55]
  refine ⟨fun h => ?_, fun h => ?_⟩
  · refine endK.ret ?_ (by first | rfl | simp [belC, bel_Cs, bel_slC, bel_encCB]); simp [belC, bel_Cs, bel_slC, bel_encCB, fzs_ok, imp, lenOK_iff, List.take_of_length_le, evRes, getT, getO, setO, fzs, fz, fzH, Nat.beq, retV, Res.then, ldT, ldR, mkV, getV, tt_56, tt_43, tt_3, tt_4, tt_5, tt_26, tt_25, tt_9, encC, cfg0, ib_and, ib_or, ib_xor, ib_andNot, ib_not, w_ofInt, w_eqb, w_eqb0, w_inj, w_zero, w_wrap, BitVec.reduceOfInt, Tryz.f55,  meet, h, encCB, encC]
  · refine endK.ret ?_ (by first | rfl | simp [belC, bel_Cs, bel_slC, bel_encCB]); simp [belC, bel_Cs, bel_slC, bel_encCB, fzs_ok, imp, lenOK_iff, List.take_of_length_le, evRes, getT, getO, setO, fzs, fz, fzH, Nat.beq, retV, Res.then, ldT, ldR, mkV, getV, tt_56, tt_43, tt_3, tt_4, tt_5, tt_26, tt_25, tt_9, encC, cfg0, ib_and, ib_or, ib_xor, ib_andNot, ib_not, w_ofInt, w_eqb, w_eqb0, w_inj, w_zero, w_wrap, BitVec.reduceOfInt, Tryz.f55,  meet, h, encCB, encC]
theorem meet_alt {a b : Cu} : (a.v ^^^ b.v) &&& a.m &&& b.m = 0#64 ↔ a.v &&& (a.m &&& b.m) = b.v &&& (a.m &&& b.m) := by
  rw [BitVec.and_assoc, xor_and_zero]
theorem pc87 (a b : Cu) : PC Tryz.prog 87 [.agg (encC a), .agg (encC b)] (.bool (sub a b)) := by
  refine PC.walk tok mixed cfg0 Tryz.func87 rfl Tryz.call87 (by simp [belC, bel_Cs, bel_slC, bel_encCB]) (by first | rfl | simp [belC, bel_Cs, bel_slC, bel_encCB]) ?_; simp (config := { maxSteps := 2000000 }) -implicitDefEqProofs +contextual (disch := first | assumption | omega | decide +kernel) only [push_cast, ↓capI, br2_true, br2_false, frk_tt, frk_tf, frk_f, frkD_tt, frkD_tf, frkD_f, pk2_true, pk2_false, imp_true, seval, Nat.reduceLeDiff, Nat.reduceEqDiff, reduceCtorEq, ↓reduceIte, reduceCtorEq, encC, cfg0, ib_and, ib_or, ib_xor, ib_andNot, ib_not, w_ofInt, w_eqb, w_eqb0, w_inj, w_zero, w_wrap, BitVec.reduceOfInt, Tryz.ntmps87]
  repeat' (first | intro _ | refine And.intro ?_ ?_)
  all_goals
    refine endK.ret ?_ (by first | rfl | simp [belC, bel_Cs, bel_slC, bel_encCB]); simp [evRes, getT, retV, Tryz.f87,  sub, *]
theorem low_succ {i : Nat} (h : i < 64) : (2#64 * low i + 1#64) = low (i + 1) := by
  have e : 2#64 * low i = low i <<< 1 := by
    rw [BitVec.shiftLeft_eq_mul_twoPow, BitVec.mul_comm]; rfl
  rw [e]
  have h2 : (low i <<< 1) + 1#64 = (low i <<< 1) ||| 1#64 := by
    rw [BitVec.add_eq_or_of_and_eq_zero]
    refine bit_ext fun k hk => ?_
    simp only [BitVec.getLsbD_and, BitVec.getLsbD_shiftLeft, BitVec.getLsbD_zero, BitVec.getLsbD_one]
    by_cases hk0 : k = 0
    · subst hk0; simp
    · simp [hk0]
  rw [h2]
  refine bit_ext fun k hk => ?_
  rw [low_bit (by omega) hk]
  simp only [BitVec.getLsbD_or, BitVec.getLsbD_shiftLeft, BitVec.getLsbD_one]
  by_cases hk0 : k = 0
  · subst hk0; simp
  · rw [low_bit (by omega) (by omega)]
    simp [hk0, hk]
    omega
theorem low_zero : low 0 = 0#64 := by decide
end Go.Proofs.YtllfdnbnkncnhaaGreatDoor

/- Chapter 7: the length of a word, the number of its bits that are set. -/
set_option maxRecDepth 100000
set_option maxHeartbeats 4000000
set_option linter.all false
namespace Go.Proofs.YtllfdnbnkncnhaaGreatDoor
open Go.Vm

theorem shr_lit {n : Int} {k : Nat} (hk : k ≤ 64) : ishr .u64 n (k : Int) = n / 2 ^ k := by
  simp only [ishr, Int.toNat_natCast]
  have hb : IntKind.u64.bits = 64 := rfl
  rw [hb, Nat.min_eq_left hk, Int.fdiv_eq_ediv_of_nonneg _ (Int.pow_nonneg (by decide))]
theorem shr32 {n : Int} : ishr .u64 n 32 = n / 4294967296 := shr_lit (k := 32) (by decide)
theorem shr16 {n : Int} : ishr .u64 n 16 = n / 65536 := shr_lit (k := 16) (by decide)
theorem shr8 {n : Int} : ishr .u64 n 8 = n / 256 := shr_lit (k := 8) (by decide)
def tab8 : List UInt8 := [0, 1, 2, 2] ++ List.replicate 4 3 ++ List.replicate 8 4 ++ List.replicate 16 5 ++ List.replicate 32 6 ++ List.replicate 64 7 ++ List.replicate 128 8
def l8 (k : Nat) : Nat := (tab8.getD k 0).toNat
theorem l8_spec : ∀ k, k < 256 → l8 k ≤ 8 ∧ (k = 0 → l8 k = 0) ∧ (k ≠ 0 → 1 ≤ l8 k ∧ 2 ^ (l8 k - 1) ≤ k ∧ k < 2 ^ l8 k) := by decide +kernel
/-- the number of binary digits -/
def len64 (x : Nat) : Nat := if x = 0 then 0 else Nat.log2 x + 1
theorem log2_is {x k : Nat} (h1 : 2 ^ k ≤ x) (h2 : x < 2 ^ (k + 1)) : Nat.log2 x = k := by
  have hx : x ≠ 0 := by
    have : 0 < 2 ^ k := Nat.two_pow_pos k
    omega
  have h3 := (Nat.le_log2 hx).2 h1
  have h4 := (Nat.log2_lt hx).2 h2
  omega
theorem len_shift {x s y : Nat} (hy : y = x / 2 ^ s) (h0 : y ≠ 0) (h8 : y < 256) : len64 x = s + l8 y := by
  obtain ⟨_, _, h⟩ := l8_spec y h8
  obtain ⟨h1, h2, h3⟩ := h h0
  have hx : x ≠ 0 := by rintro rfl; rw [Nat.zero_div] at hy; omega
  have e : l8 y - 1 + 1 = l8 y := by omega
  unfold len64
  rw [if_neg hx, log2_is (k := s + (l8 y - 1))]
  · omega
  · rw [Nat.pow_add]
    have := Nat.div_mul_le_self x (2 ^ s)
    rw [← hy] at this
    have h4 : 2 ^ s * 2 ^ (l8 y - 1) ≤ 2 ^ s * y := Nat.mul_le_mul_left _ h2
    rw [Nat.mul_comm y] at this
    omega
  · have h5 : x < 2 ^ s * (y + 1) := by
      rw [hy]
      exact Nat.lt_mul_div_succ x (Nat.two_pow_pos s)
    have h6 : 2 ^ s * (y + 1) ≤ 2 ^ s * 2 ^ l8 y := Nat.mul_le_mul_left _ h3
    rw [show s + (l8 y - 1) + 1 = s + l8 y by omega, Nat.pow_add]
    omega
theorem len_small {x : Nat} (h8 : x < 256) : len64 x = l8 x := by
  by_cases h0 : x = 0
  · subst h0; rfl
  · have := len_shift (x := x) (s := 0) (y := x) (by simp) h0 h8
    omega
theorem fin64 {x s y : Nat} {z c : Int} (hz : z = y) (hc : c = s) (hs : s ≤ 56) (h8 : y < 256) (h : len64 x = s + l8 y) : IntKind.i64.wrap (c + IntKind.i64.wrap ((tab8.getD z.toNat 0).toNat : Int)) = (len64 x : Int) := by
  subst hz hc
  have := (l8_spec y h8).1
  rw [Int.toNat_natCast, show (tab8.getD y 0).toNat = l8 y from rfl, i64_ok (n := (l8 y : Int)) (by omega) (by omega), i64_ok (by omega) (by omega), h]
  omega
theorem pc78 (x : Nat) (hx : x < 2 ^ 64) : PC Tryz.prog 78 [.int .u64 x] (.int .i64 (len64 x)) := by
  refine PC.walk tok mixed cfg0 Tryz.func78 rfl Tryz.call78 (by simp [belC, bel_Cs, bel_slC]) (by first | rfl | simp [belC, bel_Cs, bel_slC]) ?_; simp (config := { maxSteps := 2000000 }) -implicitDefEqProofs +contextual (disch := first | assumption | omega | decide +kernel) only [push_cast, ↓capI, br2_true, br2_false, frk_tt, frk_tf, frk_f, frkD_tt, frkD_tf, frkD_f, pk2_true, pk2_false, imp_true, seval, Nat.reduceLeDiff, Nat.reduceEqDiff, reduceCtorEq, ↓reduceIte, reduceCtorEq, encC, cfg0, shr32, shr16, shr8, Tryz.ntmps78]
  by_cases h1 : 4294967296 ≤ x <;> by_cases h2 : 65536 ≤ (if 4294967296 ≤ x then x / 4294967296 else x) <;> by_cases h3 : 256 ≤ (if 65536 ≤ (if 4294967296 ≤ x then x / 4294967296 else x) then (if 4294967296 ≤ x then x / 4294967296 else x) / 65536 else (if 4294967296 ≤ x then x / 4294967296 else x))
  all_goals simp only [h1, if_true, if_false] at h2 h3
  all_goals simp only [h2, if_true, if_false] at h3
  all_goals simp (config := { maxSteps := 2000000 }) -implicitDefEqProofs +contextual (disch := first | assumption | omega | decide +kernel) only [push_cast, ↓capI, br2_true, br2_false, frk_tt, frk_tf, frk_f, frkD_tt, frkD_tf, frkD_f, pk2_true, pk2_false, imp_true, seval, Nat.reduceLeDiff, Nat.reduceEqDiff, reduceCtorEq, ↓reduceIte, reduceCtorEq, encC, cfg0, shr32, shr16, shr8]
  all_goals
    generalize hl : List.append (List.append _ _) (List.append _ _) = tl
    have ht : tl = tab8 := by rw [← hl]; rfl
    rw [ht]
    have h256 : tab8.length = 256 := rfl
    rw [h256]
    refine ⟨by omega, fun _ => endK.ret ?_ rfl⟩
    simp only [evRes, getT, retV, Tryz.f78]
    congr 1
  · exact fin64 (s := 56) (y := x / 4294967296 / 65536 / 256) (by omega) rfl (by decide) (by omega) (len_shift (by rw [Nat.div_div_eq_div_mul, Nat.div_div_eq_div_mul]) (by omega) (by omega))
  · exact fin64 (s := 48) (y := x / 4294967296 / 65536) (by omega) rfl (by decide) (by omega) (len_shift (by rw [Nat.div_div_eq_div_mul]) (by omega) (by omega))
  · exact fin64 (s := 40) (y := x / 4294967296 / 256) (by omega) rfl (by decide) (by omega) (len_shift (by rw [Nat.div_div_eq_div_mul]) (by omega) (by omega))
  · exact fin64 (s := 32) (y := x / 4294967296) (by omega) rfl (by decide) (by omega) (len_shift rfl (by omega) (by omega))
  · exact fin64 (s := 24) (y := x / 65536 / 256) (by omega) rfl (by decide) (by omega) (len_shift (by rw [Nat.div_div_eq_div_mul]) (by omega) (by omega))
  · exact fin64 (s := 16) (y := x / 65536) (by omega) rfl (by decide) (by omega) (len_shift rfl (by omega) (by omega))
  · exact fin64 (s := 8) (y := x / 256) (by omega) rfl (by decide) (by omega) (len_shift rfl (by omega) (by omega))
  · exact fin64 (s := 0) (y := x) (z := (x : Int)) rfl rfl (by decide) (by omega) (by rw [len_small (by omega)]; omega)
end Go.Proofs.YtllfdnbnkncnhaaGreatDoor

/- Chapter 7: the difference of two cubes, in plain words; the reference's. -/
set_option maxRecDepth 100000
set_option maxHeartbeats 4000000
set_option linter.all false
namespace Go.Proofs.YtllfdnbnkncnhaaGreatDoor
open Go.Vm

def bit (i : Nat) : W64 := 1#64 <<< i
theorem bit_at {i j : Nat} (hj : j < 64) : (bit i).getLsbD j = decide (i = j) := by
  simp only [bit, BitVec.getLsbD_shiftLeft, BitVec.getLsbD_one]
  by_cases h : i = j
  · subst h; simp [hj]
  · rw [decide_eq_false h]
    simp
    omega
theorem shl_bit {k : Nat} : ishl .u64 1 (k : Int) = ((bit k).toNat : Int) := w_shl (x := 1#64) (k := k)
theorem and_bit {x : W64} {i : Nat} (hi : i < 64) : x &&& bit i = 0#64 ↔ x.getLsbD i = false := by
  constructor
  · intro h
    have := congrArg (fun z => z.getLsbD i) h
    simp only [BitVec.getLsbD_and, BitVec.getLsbD_or, BitVec.getLsbD_not, BitVec.getLsbD_zero, BitVec.getLsbD_xor, decide_true, Bool.true_and, bit_at hi, Bool.and_true] at this
    exact this
  · intro h
    refine bit_ext fun j hj => ?_
    simp only [BitVec.getLsbD_and, BitVec.getLsbD_or, BitVec.getLsbD_not, BitVec.getLsbD_zero, BitVec.getLsbD_xor, decide_true, Bool.true_and, bit_at hj]
    by_cases e : i = j
    · subst e; simp [h]
    · simp [e]
def nextR (b r : Cu) (i : Nat) : Cu := ⟨r.v ||| (b.v &&& bit i), r.m ||| bit i⟩
def piece (b r : Cu) (i : Nat) : Cu := ⟨r.v ||| (~~~ b.v &&& bit i), r.m ||| bit i⟩
def subGo (b : Cu) : Nat → Cu → List Cu
  | 0, _ => []
  | i + 1, r => if (b.m.getLsbD i && !r.m.getLsbD i) = true then piece b r i :: subGo b i (nextR b r i) else subGo b i r
def cutC (c : Cu) (w : Nat) : Cu := ⟨c.v &&& (c.m &&& low w), c.m &&& low w⟩
def subL (a b : Cu) (w : Int) : List Cu :=
  if okW w = true then (if (meet (cutC a w.toNat) (cutC b w.toNat)).2 = true then subGo (cutC b w.toNat) w.toNat (cutC a w.toNat) else [cutC a w.toNat]) else []
theorem not_bit {x : W64} {i : Nat} : (x &&& bit i) ^^^ bit i = ~~~ x &&& bit i := by
  refine bit_ext fun j hj => ?_
  simp only [BitVec.getLsbD_and, BitVec.getLsbD_or, BitVec.getLsbD_not, BitVec.getLsbD_zero, BitVec.getLsbD_xor, decide_true, Bool.true_and, bit_at hj, hj]
  generalize x.getLsbD j = a
  generalize decide (i = j) = b
  revert a b
  decide
theorem subGo_sub {b : Cu} : ∀ {i : Nat} {r : Cu}, i ≤ 64 → b.m &&& ~~~ r.m = 0#64 → subGo b i r = []
  | 0, _, _, _ => rfl
  | i + 1, r, hi, h => by
    have := congrArg (fun z => z.getLsbD i) h
    simp only [BitVec.getLsbD_and, BitVec.getLsbD_or, BitVec.getLsbD_not, BitVec.getLsbD_zero, BitVec.getLsbD_xor, decide_true, Bool.true_and, show i < 64 by omega] at this
    unfold subGo
    rw [if_neg (by simp only [Bool.and_eq_true, Bool.not_eq_true']; intro ⟨h1, h2⟩; rw [h1, h2] at this; simp at this)]
    exact subGo_sub (by omega) h
theorem sub_meet {a b : Cu} (h : sub a b = true) : (meet a b).2 = true := by
  simp only [sub, Bool.and_eq_true, decide_eq_true_eq] at h
  have : (a.v ^^^ b.v) &&& a.m &&& b.m = 0#64 := by
    rw [BitVec.and_assoc, BitVec.and_comm a.m, ← BitVec.and_assoc, h.2, BitVec.zero_and]
  simp [meet, this]
theorem subGo_len {b : Cu} : ∀ {i : Nat} {r : Cu}, (subGo b i r).length ≤ i
  | 0, _ => Nat.le_refl _
  | i + 1, r => by
    unfold subGo
    split
    · simp only [List.length_cons]; have := @subGo_len b i (nextR b r i); omega
    · have := @subGo_len b i r; omega
theorem subL_len {a b : Cu} {w : Int} : (subL a b w).length ≤ 64 := by
  unfold subL
  split
  · rename_i h
    simp only [okW, Bool.and_eq_true, decide_eq_true_eq] at h
    split
    · have := @subGo_len (cutC b w.toNat) w.toNat (cutC a w.toNat); omega
    · simp
  · simp
theorem okW_nat {w : Int} (h : okW w = true) : ∃ k : Nat, w = k ∧ 1 ≤ k ∧ k ≤ 64 := by
  simp only [okW, Bool.and_eq_true, decide_eq_true_eq] at h
  exact ⟨w.toNat, by omega, by omega, by omega⟩

end Go.Proofs.YtllfdnbnkncnhaaGreatDoor

/- Chapter 7: the difference of two cubes, by the program. -/
set_option maxRecDepth 100000
set_option maxHeartbeats 4000000
set_option linter.all false
namespace Go.Proofs.YtllfdnbnkncnhaaGreatDoor
open Go.Vm

theorem w_ones : BitVec.ofInt 64 (if IntKind.u64.signed = true then -1 else IntKind.u64.max) = BitVec.allOnes 64 := by decide
def zerosC : List Cu := List.replicate 64 ⟨0#64, 0#64⟩
theorem zeros_C : (tab 128 fun _ => V.int .u64 0) = zerosC.flatMap encC := by kernel_rfl
theorem zerosC_len : zerosC.length = 64 := by decide
/-- the program and the reference: what is left below bit i -/
theorem len_bit {x : W64} (h : x ≠ 0#64) : ∃ k, len64 x.toNat = k + 1 ∧ k < 64 ∧ x.getLsbD k = true ∧ ∀ j, k < j → x.getLsbD j = false := by
  have h0 : x.toNat ≠ 0 := fun e => h (BitVec.eq_of_toNat_eq (by simpa using e))
  refine ⟨Nat.log2 x.toNat, by simp [len64, h0], ?_, ?_, ?_⟩
  · exact (Nat.log2_lt h0).2 x.isLt
  · have h1 := Nat.log2_self_le h0
    have h2 : x.toNat < 2 ^ (Nat.log2 x.toNat + 1) := Nat.lt_log2_self
    show Nat.testBit x.toNat (Nat.log2 x.toNat) = true
    rw [Nat.testBit_eq_decide_div_mod_eq, decide_eq_true_eq]
    have h3 : x.toNat / 2 ^ Nat.log2 x.toNat = 1 := by
      apply Nat.div_eq_of_lt_le
      · omega
      · rw [Nat.pow_succ] at h2; omega
    rw [h3]
  · intro j hj
    show Nat.testBit x.toNat j = false
    apply Nat.testBit_lt_two_pow
    exact Nat.lt_of_lt_of_le Nat.lt_log2_self (Nat.pow_le_pow_right (by omega) hj)
theorem subGo_skip {b : Cu} {k : Nat} : ∀ {i : Nat} {r : Cu}, k ≤ i → (∀ j, k ≤ j → j < i → (b.m.getLsbD j && !r.m.getLsbD j) = false) → subGo b i r = subGo b k r
  | 0, r, hk, _ => by rw [Nat.le_zero.1 hk]
  | i + 1, r, hk, h => by
    by_cases e : k = i + 1
    · rw [e]
    · rw [subGo, if_neg (by rw [h i (by omega) (by omega)]; simp)]
      exact subGo_skip (by omega) fun j h1 h2 => h j h1 (by omega)

theorem pc66 (a b : Cu) (w : Int) : PC Tryz.prog 66 [.agg (encC a), .agg (encC b), .int .i64 w] (slC (subL a b w)) := by
  by_cases hw : okW w = true
  case neg =>
    have e : subL a b w = [] := by simp [subL, hw]
    rw [e]
    refine PC.laxr (v := .sl true [] 0) ?_
    refine PC.walk tok mixed cfg0 Tryz.func66 rfl Tryz.call66 (by simp [belC, bel_Cs, bel_slC, belAll_append]) (by first | rfl | simp [belC, bel_Cs, bel_slC, belAll_append]) ?_; simp (config := { maxSteps := 2000000 }) -implicitDefEqProofs +contextual (disch := first | assumption | omega | decide +kernel) only [push_cast, ↓capI, br2_true, br2_false, frk_tt, frk_tf, frk_f, frkD_tt, frkD_tf, frkD_f, pk2_true, pk2_false, imp_true, Nat.reduceAdd, Nat.reduceLeDiff, Nat.reduceLT, reduceCtorEq, ↓reduceIte, Nat.reduceEqDiff, Nat.reduceSub, Nat.reduceMul, Int.reduceNeg, Int.reduceLT, Int.reduceLE, Int.reduceAdd, Int.reduceSub, Int.reduceMul, Int.reduceEq, Int.reduceToNat, Nat.reduceDiv, Nat.reduceMod, Nat.reduceBEq, Nat.reduceBNe, reduceCtorEq, encC, cfg0, ib_and, ib_or, ib_xor, ib_andNot, ib_not, w_ofInt, w_eqb, w_eqb0, w_inj, w_zero, w_wrap, BitVec.reduceOfInt, shl_bit, zeros_C, w_ones, BitVec.allOnes_xor, len_flat lenC, Tryz.ntmps66]
    refine callO.pc (pc75 w) ?_
    rw [show okW w = false by simpa using hw]
    simp (config := { maxSteps := 2000000 }) -implicitDefEqProofs +contextual (disch := first | assumption | omega | decide +kernel) only [push_cast, ↓capI, br2_true, br2_false, frk_tt, frk_tf, frk_f, frkD_tt, frkD_tf, frkD_f, pk2_true, pk2_false, imp_true, Nat.reduceAdd, Nat.reduceLeDiff, Nat.reduceLT, reduceCtorEq, ↓reduceIte, Nat.reduceEqDiff, Nat.reduceSub, Nat.reduceMul, Int.reduceNeg, Int.reduceLT, Int.reduceLE, Int.reduceAdd, Int.reduceSub, Int.reduceMul, Int.reduceEq, Int.reduceToNat, Nat.reduceDiv, Nat.reduceMod, Nat.reduceBEq, Nat.reduceBNe, reduceCtorEq, encC, cfg0, ib_and, ib_or, ib_xor, ib_andNot, ib_not, w_ofInt, w_eqb, w_eqb0, w_inj, w_zero, w_wrap, BitVec.reduceOfInt, shl_bit, zeros_C, w_ones, BitVec.allOnes_xor, len_flat lenC]
    refine endK.ret ?_ (by first | rfl | simp [belC, bel_Cs, bel_slC, belAll_append]); simp [evRes, getT, retV, Tryz.f66]
  obtain ⟨k, rfl, hk1, hk2⟩ := okW_nat hw
  have e : subL a b (k : Int) = if (meet (cutC a k) (cutC b k)).2 = true then subGo (cutC b k) k (cutC a k) else [cutC a k] := by simp [subL, hw]
  have ecan : ∀ c : Cu, canon ⟨c.v, c.m &&& low k⟩ = cutC c k := fun c => rfl
  by_cases hm : (meet (cutC a k) (cutC b k)).2 = true
  case neg =>
    have hmf : (meet (cutC a k) (cutC b k)).2 = false := by simpa using hm
    rw [e, if_neg hm]
    refine PC.walk tok mixed cfg0 Tryz.func66 rfl Tryz.call66 (by simp [belC, bel_Cs, bel_slC, belAll_append]) (by first | rfl | simp [belC, bel_Cs, bel_slC, belAll_append]) ?_; simp (config := { maxSteps := 2000000 }) -implicitDefEqProofs +contextual (disch := first | assumption | omega | decide +kernel) only [push_cast, ↓capI, br2_true, br2_false, frk_tt, frk_tf, frk_f, frkD_tt, frkD_tf, frkD_f, pk2_true, pk2_false, imp_true, Nat.reduceAdd, Nat.reduceLeDiff, Nat.reduceLT, reduceCtorEq, ↓reduceIte, Nat.reduceEqDiff, Nat.reduceSub, Nat.reduceMul, Int.reduceNeg, Int.reduceLT, Int.reduceLE, Int.reduceAdd, Int.reduceSub, Int.reduceMul, Int.reduceEq, Int.reduceToNat, Nat.reduceDiv, Nat.reduceMod, Nat.reduceBEq, Nat.reduceBNe, reduceCtorEq, encC, cfg0, ib_and, ib_or, ib_xor, ib_andNot, ib_not, w_ofInt, w_eqb, w_eqb0, w_inj, w_zero, w_wrap, BitVec.reduceOfInt, shl_bit, zeros_C, w_ones, BitVec.allOnes_xor, len_flat lenC, Tryz.ntmps66]
    refine callO.pc (pc75 k) ?_
    rw [hw]
    simp (config := { maxSteps := 2000000 }) -implicitDefEqProofs +contextual (disch := first | assumption | omega | decide +kernel) only [push_cast, ↓capI, br2_true, br2_false, frk_tt, frk_tf, frk_f, frkD_tt, frkD_tf, frkD_f, pk2_true, pk2_false, imp_true, Nat.reduceAdd, Nat.reduceLeDiff, Nat.reduceLT, reduceCtorEq, ↓reduceIte, Nat.reduceEqDiff, Nat.reduceSub, Nat.reduceMul, Int.reduceNeg, Int.reduceLT, Int.reduceLE, Int.reduceAdd, Int.reduceSub, Int.reduceMul, Int.reduceEq, Int.reduceToNat, Nat.reduceDiv, Nat.reduceMod, Nat.reduceBEq, Nat.reduceBNe, reduceCtorEq, encC, cfg0, ib_and, ib_or, ib_xor, ib_andNot, ib_not, w_ofInt, w_eqb, w_eqb0, w_inj, w_zero, w_wrap, BitVec.reduceOfInt, shl_bit, zeros_C, w_ones, BitVec.allOnes_xor, len_flat lenC]
    refine callG.pc1 (pc76 k hk2) ?_
    simp (config := { maxSteps := 2000000 }) -implicitDefEqProofs +contextual (disch := first | assumption | omega | decide +kernel) only [push_cast, ↓capI, br2_true, br2_false, frk_tt, frk_tf, frk_f, frkD_tt, frkD_tf, frkD_f, pk2_true, pk2_false, imp_true, Nat.reduceAdd, Nat.reduceLeDiff, Nat.reduceLT, reduceCtorEq, ↓reduceIte, Nat.reduceEqDiff, Nat.reduceSub, Nat.reduceMul, Int.reduceNeg, Int.reduceLT, Int.reduceLE, Int.reduceAdd, Int.reduceSub, Int.reduceMul, Int.reduceEq, Int.reduceToNat, Nat.reduceDiv, Nat.reduceMod, Nat.reduceBEq, Nat.reduceBNe, reduceCtorEq, encC, cfg0, ib_and, ib_or, ib_xor, ib_andNot, ib_not, w_ofInt, w_eqb, w_eqb0, w_inj, w_zero, w_wrap, BitVec.reduceOfInt, shl_bit, zeros_C, w_ones, BitVec.allOnes_xor, len_flat lenC]
    refine callG.pc1 (pc76 k hk2) ?_
    simp (config := { maxSteps := 2000000 }) -implicitDefEqProofs +contextual (disch := first | assumption | omega | decide +kernel) only [push_cast, ↓capI, br2_true, br2_false, frk_tt, frk_tf, frk_f, frkD_tt, frkD_tf, frkD_f, pk2_true, pk2_false, imp_true, Nat.reduceAdd, Nat.reduceLeDiff, Nat.reduceLT, reduceCtorEq, ↓reduceIte, Nat.reduceEqDiff, Nat.reduceSub, Nat.reduceMul, Int.reduceNeg, Int.reduceLT, Int.reduceLE, Int.reduceAdd, Int.reduceSub, Int.reduceMul, Int.reduceEq, Int.reduceToNat, Nat.reduceDiv, Nat.reduceMod, Nat.reduceBEq, Nat.reduceBNe, reduceCtorEq, encC, cfg0, ib_and, ib_or, ib_xor, ib_andNot, ib_not, w_ofInt, w_eqb, w_eqb0, w_inj, w_zero, w_wrap, BitVec.reduceOfInt, shl_bit, zeros_C, w_ones, BitVec.allOnes_xor, len_flat lenC]
    refine callG.pc1 (pc77 ⟨a.v, a.m &&& low k⟩) ?_
    simp (config := { maxSteps := 2000000 }) -implicitDefEqProofs +contextual (disch := first | assumption | omega | decide +kernel) only [push_cast, ↓capI, br2_true, br2_false, frk_tt, frk_tf, frk_f, frkD_tt, frkD_tf, frkD_f, pk2_true, pk2_false, imp_true, Nat.reduceAdd, Nat.reduceLeDiff, Nat.reduceLT, reduceCtorEq, ↓reduceIte, Nat.reduceEqDiff, Nat.reduceSub, Nat.reduceMul, Int.reduceNeg, Int.reduceLT, Int.reduceLE, Int.reduceAdd, Int.reduceSub, Int.reduceMul, Int.reduceEq, Int.reduceToNat, Nat.reduceDiv, Nat.reduceMod, Nat.reduceBEq, Nat.reduceBNe, reduceCtorEq, encC, cfg0, ib_and, ib_or, ib_xor, ib_andNot, ib_not, w_ofInt, w_eqb, w_eqb0, w_inj, w_zero, w_wrap, BitVec.reduceOfInt, shl_bit, zeros_C, w_ones, BitVec.allOnes_xor, len_flat lenC, ecan]
    refine callG.pc1 (pc77 ⟨b.v, b.m &&& low k⟩) ?_
    simp (config := { maxSteps := 2000000 }) -implicitDefEqProofs +contextual (disch := first | assumption | omega | decide +kernel) only [push_cast, ↓capI, br2_true, br2_false, frk_tt, frk_tf, frk_f, frkD_tt, frkD_tf, frkD_f, pk2_true, pk2_false, imp_true, Nat.reduceAdd, Nat.reduceLeDiff, Nat.reduceLT, reduceCtorEq, ↓reduceIte, Nat.reduceEqDiff, Nat.reduceSub, Nat.reduceMul, Int.reduceNeg, Int.reduceLT, Int.reduceLE, Int.reduceAdd, Int.reduceSub, Int.reduceMul, Int.reduceEq, Int.reduceToNat, Nat.reduceDiv, Nat.reduceMod, Nat.reduceBEq, Nat.reduceBNe, reduceCtorEq, encC, cfg0, ib_and, ib_or, ib_xor, ib_andNot, ib_not, w_ofInt, w_eqb, w_eqb0, w_inj, w_zero, w_wrap, BitVec.reduceOfInt, shl_bit, zeros_C, w_ones, BitVec.allOnes_xor, len_flat lenC, ecan]
    refine callO.pc (pc55 (cutC a k) (cutC b k)) ?_
    simp (config := { maxSteps := 2000000 }) -implicitDefEqProofs +contextual (disch := first | assumption | omega | decide +kernel) only [push_cast, ↓capI, br2_true, br2_false, frk_tt, frk_tf, frk_f, frkD_tt, frkD_tf, frkD_f, pk2_true, pk2_false, imp_true, Nat.reduceAdd, Nat.reduceLeDiff, Nat.reduceLT, reduceCtorEq, ↓reduceIte, Nat.reduceEqDiff, Nat.reduceSub, Nat.reduceMul, Int.reduceNeg, Int.reduceLT, Int.reduceLE, Int.reduceAdd, Int.reduceSub, Int.reduceMul, Int.reduceEq, Int.reduceToNat, Nat.reduceDiv, Nat.reduceMod, Nat.reduceBEq, Nat.reduceBNe, reduceCtorEq, encC, cfg0, ib_and, ib_or, ib_xor, ib_andNot, ib_not, w_ofInt, w_eqb, w_eqb0, w_inj, w_zero, w_wrap, BitVec.reduceOfInt, shl_bit, zeros_C, w_ones, BitVec.allOnes_xor, len_flat lenC, encCB, hmf]
    refine endK.ret ?_ (by first | rfl | simp [belC, bel_Cs, bel_slC, belAll_append]); simp [belC, bel_Cs, bel_slC, belAll_append, fzs_ok, imp, lenOK_iff, List.take_of_length_le, evRes, getT, getO, setO, fzs, fz, fzH, Nat.beq, retV, Res.then, ldT, ldR, mkV, getV, tt_56, tt_43, tt_3, tt_4, tt_5, tt_26, tt_25, tt_9, tt_93, encC, cfg0, ib_and, ib_or, ib_xor, ib_andNot, ib_not, w_ofInt, w_eqb, w_eqb0, w_inj, w_zero, w_wrap, BitVec.reduceOfInt, shl_bit, zeros_C, w_ones, BitVec.allOnes_xor, len_flat lenC, Tryz.f66,  slC, encC]
  rw [e, if_pos hm]
  refine PC.walk tok mixed cfg0 Tryz.func66 rfl Tryz.call66 (by simp [belC, bel_Cs, bel_slC, belAll_append]) (by first | rfl | simp [belC, bel_Cs, bel_slC, belAll_append]) ?_; simp (config := { maxSteps := 2000000 }) -implicitDefEqProofs +contextual (disch := first | assumption | omega | decide +kernel) only [push_cast, ↓capI, br2_true, br2_false, frk_tt, frk_tf, frk_f, frkD_tt, frkD_tf, frkD_f, pk2_true, pk2_false, imp_true, Nat.reduceAdd, Nat.reduceLeDiff, Nat.reduceLT, reduceCtorEq, ↓reduceIte, Nat.reduceEqDiff, Nat.reduceSub, Nat.reduceMul, Int.reduceNeg, Int.reduceLT, Int.reduceLE, Int.reduceAdd, Int.reduceSub, Int.reduceMul, Int.reduceEq, Int.reduceToNat, Nat.reduceDiv, Nat.reduceMod, Nat.reduceBEq, Nat.reduceBNe, reduceCtorEq, encC, cfg0, ib_and, ib_or, ib_xor, ib_andNot, ib_not, w_ofInt, w_eqb, w_eqb0, w_inj, w_zero, w_wrap, BitVec.reduceOfInt, shl_bit, zeros_C, w_ones, BitVec.allOnes_xor, len_flat lenC, Tryz.ntmps66]
  refine callO.pc (pc75 k) ?_
  rw [hw]
  simp (config := { maxSteps := 2000000 }) -implicitDefEqProofs +contextual (disch := first | assumption | omega | decide +kernel) only [push_cast, ↓capI, br2_true, br2_false, frk_tt, frk_tf, frk_f, frkD_tt, frkD_tf, frkD_f, pk2_true, pk2_false, imp_true, Nat.reduceAdd, Nat.reduceLeDiff, Nat.reduceLT, reduceCtorEq, ↓reduceIte, Nat.reduceEqDiff, Nat.reduceSub, Nat.reduceMul, Int.reduceNeg, Int.reduceLT, Int.reduceLE, Int.reduceAdd, Int.reduceSub, Int.reduceMul, Int.reduceEq, Int.reduceToNat, Nat.reduceDiv, Nat.reduceMod, Nat.reduceBEq, Nat.reduceBNe, reduceCtorEq, encC, cfg0, ib_and, ib_or, ib_xor, ib_andNot, ib_not, w_ofInt, w_eqb, w_eqb0, w_inj, w_zero, w_wrap, BitVec.reduceOfInt, shl_bit, zeros_C, w_ones, BitVec.allOnes_xor, len_flat lenC]
  refine callG.pc1 (pc76 k hk2) ?_
  simp (config := { maxSteps := 2000000 }) -implicitDefEqProofs +contextual (disch := first | assumption | omega | decide +kernel) only [push_cast, ↓capI, br2_true, br2_false, frk_tt, frk_tf, frk_f, frkD_tt, frkD_tf, frkD_f, pk2_true, pk2_false, imp_true, Nat.reduceAdd, Nat.reduceLeDiff, Nat.reduceLT, reduceCtorEq, ↓reduceIte, Nat.reduceEqDiff, Nat.reduceSub, Nat.reduceMul, Int.reduceNeg, Int.reduceLT, Int.reduceLE, Int.reduceAdd, Int.reduceSub, Int.reduceMul, Int.reduceEq, Int.reduceToNat, Nat.reduceDiv, Nat.reduceMod, Nat.reduceBEq, Nat.reduceBNe, reduceCtorEq, encC, cfg0, ib_and, ib_or, ib_xor, ib_andNot, ib_not, w_ofInt, w_eqb, w_eqb0, w_inj, w_zero, w_wrap, BitVec.reduceOfInt, shl_bit, zeros_C, w_ones, BitVec.allOnes_xor, len_flat lenC]
  refine callG.pc1 (pc76 k hk2) ?_
  simp (config := { maxSteps := 2000000 }) -implicitDefEqProofs +contextual (disch := first | assumption | omega | decide +kernel) only [push_cast, ↓capI, br2_true, br2_false, frk_tt, frk_tf, frk_f, frkD_tt, frkD_tf, frkD_f, pk2_true, pk2_false, imp_true, Nat.reduceAdd, Nat.reduceLeDiff, Nat.reduceLT, reduceCtorEq, ↓reduceIte, Nat.reduceEqDiff, Nat.reduceSub, Nat.reduceMul, Int.reduceNeg, Int.reduceLT, Int.reduceLE, Int.reduceAdd, Int.reduceSub, Int.reduceMul, Int.reduceEq, Int.reduceToNat, Nat.reduceDiv, Nat.reduceMod, Nat.reduceBEq, Nat.reduceBNe, reduceCtorEq, encC, cfg0, ib_and, ib_or, ib_xor, ib_andNot, ib_not, w_ofInt, w_eqb, w_eqb0, w_inj, w_zero, w_wrap, BitVec.reduceOfInt, shl_bit, zeros_C, w_ones, BitVec.allOnes_xor, len_flat lenC]
  refine callG.pc1 (pc77 ⟨a.v, a.m &&& low k⟩) ?_
  simp (config := { maxSteps := 2000000 }) -implicitDefEqProofs +contextual (disch := first | assumption | omega | decide +kernel) only [push_cast, ↓capI, br2_true, br2_false, frk_tt, frk_tf, frk_f, frkD_tt, frkD_tf, frkD_f, pk2_true, pk2_false, imp_true, Nat.reduceAdd, Nat.reduceLeDiff, Nat.reduceLT, reduceCtorEq, ↓reduceIte, Nat.reduceEqDiff, Nat.reduceSub, Nat.reduceMul, Int.reduceNeg, Int.reduceLT, Int.reduceLE, Int.reduceAdd, Int.reduceSub, Int.reduceMul, Int.reduceEq, Int.reduceToNat, Nat.reduceDiv, Nat.reduceMod, Nat.reduceBEq, Nat.reduceBNe, reduceCtorEq, encC, cfg0, ib_and, ib_or, ib_xor, ib_andNot, ib_not, w_ofInt, w_eqb, w_eqb0, w_inj, w_zero, w_wrap, BitVec.reduceOfInt, shl_bit, zeros_C, w_ones, BitVec.allOnes_xor, len_flat lenC, ecan]
  refine callG.pc1 (pc77 ⟨b.v, b.m &&& low k⟩) ?_
  simp (config := { maxSteps := 2000000 }) -implicitDefEqProofs +contextual (disch := first | assumption | omega | decide +kernel) only [push_cast, ↓capI, br2_true, br2_false, frk_tt, frk_tf, frk_f, frkD_tt, frkD_tf, frkD_f, pk2_true, pk2_false, imp_true, Nat.reduceAdd, Nat.reduceLeDiff, Nat.reduceLT, reduceCtorEq, ↓reduceIte, Nat.reduceEqDiff, Nat.reduceSub, Nat.reduceMul, Int.reduceNeg, Int.reduceLT, Int.reduceLE, Int.reduceAdd, Int.reduceSub, Int.reduceMul, Int.reduceEq, Int.reduceToNat, Nat.reduceDiv, Nat.reduceMod, Nat.reduceBEq, Nat.reduceBNe, reduceCtorEq, encC, cfg0, ib_and, ib_or, ib_xor, ib_andNot, ib_not, w_ofInt, w_eqb, w_eqb0, w_inj, w_zero, w_wrap, BitVec.reduceOfInt, shl_bit, zeros_C, w_ones, BitVec.allOnes_xor, len_flat lenC, ecan]
  refine callO.pc (pc55 (cutC a k) (cutC b k)) ?_
  simp (config := { maxSteps := 2000000 }) -implicitDefEqProofs +contextual (disch := first | assumption | omega | decide +kernel) only [push_cast, ↓capI, br2_true, br2_false, frk_tt, frk_tf, frk_f, frkD_tt, frkD_tf, frkD_f, pk2_true, pk2_false, imp_true, Nat.reduceAdd, Nat.reduceLeDiff, Nat.reduceLT, reduceCtorEq, ↓reduceIte, Nat.reduceEqDiff, Nat.reduceSub, Nat.reduceMul, Int.reduceNeg, Int.reduceLT, Int.reduceLE, Int.reduceAdd, Int.reduceSub, Int.reduceMul, Int.reduceEq, Int.reduceToNat, Nat.reduceDiv, Nat.reduceMod, Nat.reduceBEq, Nat.reduceBNe, reduceCtorEq, encC, cfg0, ib_and, ib_or, ib_xor, ib_andNot, ib_not, w_ofInt, w_eqb, w_eqb0, w_inj, w_zero, w_wrap, BitVec.reduceOfInt, shl_bit, zeros_C, w_ones, BitVec.allOnes_xor, len_flat lenC, encCB, hm]
  refine T.lp tok mixed cfg0 (fun ((j, r, A, n) : Nat × Cu × List Cu × Nat) => dd 4 (kp 1 (dd 4 (kp 1 (sv (.int .i64 n) (kp 1 (sv (.int .u64 ((cutC b k).m &&& ~~~ (cutC a k).m &&& low j).toNat) (dd 76 (nl))))))))) (fun H0 ((j, r, A, n) : Nat × Cu × List Cu × Nat) => [.cells 0 (encC (cutC a k)), .cells 0 (encC (cutC b k)), .cells 0 (encC (meet (cutC a k) (cutC b k)).1), .cells 0 (A.flatMap encC), .cells 0 (encC r)]) (fun ((j, r, A, n) : Nat × Cu × List Cu × Nat) => j ≤ k ∧ n + j ≤ k ∧ A.length = 64 ∧ A.take n ++ subGo (cutC b k) j r = subGo (cutC b k) k (cutC a k) ∧ (∀ i, i < j → r.m.getLsbD i = (cutC a k).m.getLsbD i)) (fun ((j, r, A, n) : Nat × Cu × List Cu × Nat) => j) ((k, cutC a k, zerosC, 0)) ?_ ?_ ?_
  · exact ⟨Nat.le_refl _, by simp, zerosC_len, rfl, fun _ _ => rfl⟩
  · have hlk : (cutC b k).m &&& ~~~ (cutC a k).m &&& low k = (cutC b k).m &&& ~~~ (cutC a k).m := by
      refine bit_ext fun i hi => ?_
      simp only [BitVec.getLsbD_and, BitVec.getLsbD_or, BitVec.getLsbD_not, BitVec.getLsbD_zero, BitVec.getLsbD_xor, decide_true, Bool.true_and, low_bit hk2 hi, cutC, hi]
      generalize b.m.getLsbD i = u
      generalize a.m.getLsbD i = v
      generalize decide (i < k) = t
      revert u v t
      decide
    exact Gn.canon (J := []) rfl (by simp [wk, putT, kp, dd, sv, nl, hlk]) (by simp) (by simp [belC, bel_Cs, bel_slC, belAll_append, kp, dd, sv, nl]) (by simp [belC, bel_Cs, bel_slC, belAll_append])
  rintro ⟨j, r, A, n⟩ ⟨hj, hn, hA, hL, hr⟩
  obtain ⟨lf, hlf⟩ : ∃ lf : W64, lf = (cutC b k).m &&& ~~~ (cutC a k).m &&& low j := ⟨_, rfl⟩
  have hlb : ∀ i, i < j → lf.getLsbD i = ((cutC b k).m.getLsbD i && !r.m.getLsbD i) := by
    intro i hi
    rw [hlf, hr i hi]
    simp only [BitVec.getLsbD_and, BitVec.getLsbD_or, BitVec.getLsbD_not, BitVec.getLsbD_zero, BitVec.getLsbD_xor, decide_true, Bool.true_and, low_bit (show j ≤ 64 by omega) (show i < 64 by omega), show i < 64 by omega, hi, Bool.and_true]
  simp only [← hlf]
  by_cases h0 : lf = 0#64
  · have hz : subGo (cutC b k) j r = [] := by
      rw [subGo_skip (k := 0) (Nat.zero_le _) fun i _ hi => by rw [← hlb i hi, h0]; simp]
      rfl
    rw [hz, List.append_nil] at hL
    simp (config := { maxSteps := 2000000 }) -implicitDefEqProofs +contextual (disch := first | assumption | omega | decide +kernel) only [push_cast, ↓capI, br2_true, br2_false, frk_tt, frk_tf, frk_f, frkD_tt, frkD_tf, frkD_f, pk2_true, pk2_false, imp_true, Nat.reduceAdd, Nat.reduceLeDiff, Nat.reduceLT, reduceCtorEq, ↓reduceIte, Nat.reduceEqDiff, Nat.reduceSub, Nat.reduceMul, Int.reduceNeg, Int.reduceLT, Int.reduceLE, Int.reduceAdd, Int.reduceSub, Int.reduceMul, Int.reduceEq, Int.reduceToNat, Nat.reduceDiv, Nat.reduceMod, Nat.reduceBEq, Nat.reduceBNe, reduceCtorEq, encC, cfg0, ib_and, ib_or, ib_xor, ib_andNot, ib_not, w_ofInt, w_eqb, w_eqb0, w_inj, w_zero, w_wrap, BitVec.reduceOfInt, shl_bit, zeros_C, w_ones, BitVec.allOnes_xor, len_flat lenC, h0, hA]
    refine endK.gn (Gn.freeze (id := 3) rfl) ?_; refine endK.ret ?_ (by first | rfl | simp [belC, bel_Cs, bel_slC, belAll_append]); simp [belC, bel_Cs, bel_slC, belAll_append, fzs_ok, imp, lenOK_iff, List.take_of_length_le, evRes, getT, getO, setO, fzs, fz, fzH, Nat.beq, retV, Res.then, ldT, ldR, mkV, getV, tt_56, tt_43, tt_3, tt_4, tt_5, tt_26, tt_25, tt_9, tt_93, encC, cfg0, ib_and, ib_or, ib_xor, ib_andNot, ib_not, w_ofInt, w_eqb, w_eqb0, w_inj, w_zero, w_wrap, BitVec.reduceOfInt, shl_bit, zeros_C, w_ones, BitVec.allOnes_xor, len_flat lenC, Tryz.f66,  slC, hA, len_flat lenC, ← hL, take_flat lenC]
    omega
  · obtain ⟨q, hq1, hq2, hq3, hq4⟩ := len_bit h0
    have hqj : q < j := by
      rw [hlf] at hq3
      simp only [BitVec.getLsbD_and, BitVec.getLsbD_or, BitVec.getLsbD_not, BitVec.getLsbD_zero, BitVec.getLsbD_xor, decide_true, Bool.true_and, low_bit (show j ≤ 64 by omega) hq2, Bool.and_eq_true, decide_eq_true_eq] at hq3
      exact hq3.2
    simp (config := { maxSteps := 2000000 }) -implicitDefEqProofs +contextual (disch := first | assumption | omega | decide +kernel) only [push_cast, ↓capI, br2_true, br2_false, frk_tt, frk_tf, frk_f, frkD_tt, frkD_tf, frkD_f, pk2_true, pk2_false, imp_true, Nat.reduceAdd, Nat.reduceLeDiff, Nat.reduceLT, reduceCtorEq, ↓reduceIte, Nat.reduceEqDiff, Nat.reduceSub, Nat.reduceMul, Int.reduceNeg, Int.reduceLT, Int.reduceLE, Int.reduceAdd, Int.reduceSub, Int.reduceMul, Int.reduceEq, Int.reduceToNat, Nat.reduceDiv, Nat.reduceMod, Nat.reduceBEq, Nat.reduceBNe, reduceCtorEq, encC, cfg0, ib_and, ib_or, ib_xor, ib_andNot, ib_not, w_ofInt, w_eqb, w_eqb0, w_inj, w_zero, w_wrap, BitVec.reduceOfInt, shl_bit, zeros_C, w_ones, BitVec.allOnes_xor, len_flat lenC, h0]
    refine callO.pc (pc78 lf.toNat lf.isLt) ?_
    rw [hq1]
    simp (config := { maxSteps := 2000000 }) -implicitDefEqProofs +contextual (disch := first | assumption | omega | decide +kernel) only [push_cast, ↓capI, br2_true, br2_false, frk_tt, frk_tf, frk_f, frkD_tt, frkD_tf, frkD_f, pk2_true, pk2_false, imp_true, Nat.reduceAdd, Nat.reduceLeDiff, Nat.reduceLT, reduceCtorEq, ↓reduceIte, Nat.reduceEqDiff, Nat.reduceSub, Nat.reduceMul, Int.reduceNeg, Int.reduceLT, Int.reduceLE, Int.reduceAdd, Int.reduceSub, Int.reduceMul, Int.reduceEq, Int.reduceToNat, Nat.reduceDiv, Nat.reduceMod, Nat.reduceBEq, Nat.reduceBNe, reduceCtorEq, encC, cfg0, ib_and, ib_or, ib_xor, ib_andNot, ib_not, w_ofInt, w_eqb, w_eqb0, w_inj, w_zero, w_wrap, BitVec.reduceOfInt, shl_bit, zeros_C, w_ones, BitVec.allOnes_xor, len_flat lenC, Int.add_sub_cancel, hA]
    have hskip : subGo (cutC b k) j r = subGo (cutC b k) (q + 1) r := subGo_skip hqj fun i h1 h2 => by rw [← hlb i h2]; exact hq4 i h1
    have htest := hlb q hqj
    rw [hq3] at htest
    have hput : putV (A.flatMap encC) (n * 2) (encC (piece (cutC b k) r q)) = (A.set n (piece (cutC b k) r q)).flatMap encC := by
      have hlt : n < A.length := by omega
      have := put_flat lenC (x' := piece (cutC b k) r q) (cs := encC (piece (cutC b k) r q)) (o := 0) (by simp [encC]) A n hlt (by simp [encC, putV])
      rwa [Nat.add_zero] at this
    rw [hskip, subGo, if_pos htest.symm] at hL
    refine ⟨(q, nextR (cutC b k) r q, A.set n (piece (cutC b k) r q), n + 1), ⟨by simp only; omega, by simp only; omega, by simp only [List.length_set]; exact hA, ?_, ?_⟩, by (try simp only); omega, ?_⟩
    · have ht : (A.set n (piece (cutC b k) r q)).take (n + 1) = A.take n ++ [piece (cutC b k) r q] := by
        rw [List.take_add_one, List.getElem?_set_self (by omega), List.take_set_of_le (Nat.le_refl _)]
        rfl
      simp only [ht, List.append_assoc, List.cons_append, List.nil_append]
      exact hL
    · intro i hi
      simp only [nextR, BitVec.getLsbD_or, bit_at (show i < 64 by omega)]
      rw [hr i (by simp only at hi; omega), decide_eq_false (by simp only at hi; omega), Bool.or_false]
    · have hnew : lf &&& ~~~ bit q = (cutC b k).m &&& ~~~ (cutC a k).m &&& low q := by
        refine bit_ext fun i hi => ?_
        simp only [BitVec.getLsbD_and, BitVec.getLsbD_or, BitVec.getLsbD_not, BitVec.getLsbD_zero, BitVec.getLsbD_xor, decide_true, Bool.true_and, bit_at hi, hi]
        by_cases h1 : q < i
        · rw [hq4 i h1, low_bit (by omega) hi]
          simp
          intro _ _
          omega
        · by_cases h2 : q = i
          · subst h2
            rw [low_bit (by omega) hi]
            simp
          · rw [hlf]
            simp only [BitVec.getLsbD_and, BitVec.getLsbD_or, BitVec.getLsbD_not, BitVec.getLsbD_zero, BitVec.getLsbD_xor, decide_true, Bool.true_and, low_bit (show j ≤ 64 by omega) hi, low_bit (show q ≤ 64 by omega) hi, hi]
            simp [h2, show i < j by omega, show i < q by omega]
      refine Gn.canon (J := []) ?_ (by simp [wk, hnew]) (by simp) (by simp [belC, bel_Cs, bel_slC, belAll_append]) (by simp [belC, bel_Cs, bel_slC, belAll_append])
      simp only [piece, encC] at hput
      simp only [hput, nextR, encC, piece, List.append_nil]
end Go.Proofs.YtllfdnbnkncnhaaGreatDoor

/- Chapter 7: plain laws of cubes, bit by bit. -/
set_option maxRecDepth 100000
set_option maxHeartbeats 4000000
set_option linter.all false
namespace Go.Proofs.YtllfdnbnkncnhaaGreatDoor
open Go.Vm

theorem zero_iff {x : W64} : x = 0#64 ↔ ∀ j, j < 64 → x.getLsbD j = false := by
  constructor
  · intro h j _; rw [h, BitVec.getLsbD_zero]
  · intro h; exact bit_ext fun j hj => by rw [h j hj, BitVec.getLsbD_zero]
theorem bit3 {a b c : Bool} : ((a ^^ b) && c) = false ↔ (c = true → a = b) := by cases a <;> cases b <;> cases c <;> decide
theorem mem_iff {c : Cu} {n : W64} : mem c n = true ↔ ∀ j, j < 64 → c.m.getLsbD j = true → c.v.getLsbD j = n.getLsbD j := by
  rw [mem, decide_eq_true_eq, zero_iff]
  refine forall_congr' fun j => forall_congr' fun hj => ?_
  simp only [BitVec.getLsbD_and, BitVec.getLsbD_or, BitVec.getLsbD_not, BitVec.getLsbD_zero, BitVec.getLsbD_xor, decide_true, Bool.true_and]
  exact bit3
theorem meet_iff {a b : Cu} : (meet a b).2 = true ↔ ∀ j, j < 64 → a.m.getLsbD j = true → b.m.getLsbD j = true → a.v.getLsbD j = b.v.getLsbD j := by
  have e : (meet a b).2 = true ↔ (a.v ^^^ b.v) &&& a.m &&& b.m = 0#64 := by unfold meet; split <;> simp_all
  rw [e, zero_iff]
  refine forall_congr' fun j => forall_congr' fun hj => ?_
  simp only [BitVec.getLsbD_and, BitVec.getLsbD_or, BitVec.getLsbD_not, BitVec.getLsbD_zero, BitVec.getLsbD_xor, decide_true, Bool.true_and]
  generalize a.v.getLsbD j = p; generalize b.v.getLsbD j = q; generalize a.m.getLsbD j = r; generalize b.m.getLsbD j = s
  cases p <;> cases q <;> cases r <;> cases s <;> decide
theorem sub_iff {a b : Cu} : sub a b = true ↔ ∀ j, j < 64 → b.m.getLsbD j = true → a.m.getLsbD j = true ∧ a.v.getLsbD j = b.v.getLsbD j := by
  rw [sub, Bool.and_eq_true, decide_eq_true_eq, decide_eq_true_eq, zero_iff, zero_iff]
  constructor
  · rintro ⟨h1, h2⟩ j hj hb
    have e1 := h1 j hj
    have e2 := h2 j hj
    simp only [BitVec.getLsbD_and, BitVec.getLsbD_or, BitVec.getLsbD_not, BitVec.getLsbD_zero, BitVec.getLsbD_xor, decide_true, Bool.true_and, hj, hb] at e1 e2
    revert e1 e2
    generalize a.v.getLsbD j = p; generalize b.v.getLsbD j = q; generalize a.m.getLsbD j = r
    cases p <;> cases q <;> cases r <;> decide
  · intro h
    constructor
    · intro j hj
      have := h j hj
      simp only [BitVec.getLsbD_and, BitVec.getLsbD_or, BitVec.getLsbD_not, BitVec.getLsbD_zero, BitVec.getLsbD_xor, decide_true, Bool.true_and, hj]
      revert this
      generalize a.v.getLsbD j = p; generalize b.v.getLsbD j = q; generalize a.m.getLsbD j = r; generalize b.m.getLsbD j = s
      cases p <;> cases q <;> cases r <;> cases s <;> decide
    · intro j hj
      have := h j hj
      simp only [BitVec.getLsbD_and, BitVec.getLsbD_or, BitVec.getLsbD_not, BitVec.getLsbD_zero, BitVec.getLsbD_xor, decide_true, Bool.true_and, hj]
      revert this
      generalize a.v.getLsbD j = p; generalize b.v.getLsbD j = q; generalize a.m.getLsbD j = r; generalize b.m.getLsbD j = s
      cases p <;> cases q <;> cases r <;> cases s <;> decide
/-- a cube without a value outside its mask -/
def can (c : Cu) : Prop := ∀ j, j < 64 → c.v.getLsbD j = true → c.m.getLsbD j = true
theorem can_iff {c : Cu} : c.v &&& ~~~ c.m = 0#64 ↔ can c := by
  rw [zero_iff]
  refine forall_congr' fun j => forall_congr' fun hj => ?_
  simp only [BitVec.getLsbD_and, BitVec.getLsbD_or, BitVec.getLsbD_not, BitVec.getLsbD_zero, BitVec.getLsbD_xor, decide_true, Bool.true_and, hj]
  generalize c.v.getLsbD j = p; generalize c.m.getLsbD j = r
  cases p <;> cases r <;> decide
def inW (c : Cu) (w : Nat) : Prop := ∀ j, j < 64 → c.m.getLsbD j = true → j < w
theorem inW_iff {c : Cu} {w : Nat} (hw : w ≤ 64) : c.m &&& ~~~ low w = 0#64 ↔ inW c w := by
  rw [zero_iff]
  refine forall_congr' fun j => forall_congr' fun hj => ?_
  simp only [BitVec.getLsbD_and, BitVec.getLsbD_or, BitVec.getLsbD_not, BitVec.getLsbD_zero, BitVec.getLsbD_xor, decide_true, Bool.true_and, hj, low_bit hw hj]
  generalize c.m.getLsbD j = p
  by_cases h : j < w <;> cases p <;> simp [h]
theorem chk_iff {c : Cu} {k : Nat} (h1 : 1 ≤ k) (h2 : k ≤ 64) : chkC c k = 0 ↔ can c ∧ inW c k := by
  have hok : okW (k : Int) = true := by simp only [okW, Bool.and_eq_true, decide_eq_true_eq]; omega
  rw [chkC, if_pos hok, Int.toNat_natCast, ← can_iff, ← inW_iff h2]
  by_cases ha : c.m &&& ~~~ low k = 0#64 <;> by_cases hb : c.v &&& ~~~ c.m = 0#64 <;> simp [ha, hb]
theorem sub_refl {a : Cu} : sub a a = true := sub_iff.2 fun _ _ h => ⟨h, rfl⟩
theorem sub_trans {a b c : Cu} (h1 : sub a b = true) (h2 : sub b c = true) : sub a c = true :=
  sub_iff.2 fun j hj h => by
    have e := sub_iff.1 h2 j hj h
    have e2 := sub_iff.1 h1 j hj e.1
    exact ⟨e2.1, e2.2.trans e.2⟩
def least (c : Cu) : W64 := c.v &&& c.m
theorem mem_least {c : Cu} : mem c (least c) = true := mem_iff.2 fun j hj h => by simp only [least, BitVec.getLsbD_and, BitVec.getLsbD_or, BitVec.getLsbD_not, BitVec.getLsbD_zero, BitVec.getLsbD_xor, decide_true, Bool.true_and, h, Bool.and_true]
theorem sub_mem {a b : Cu} {n : W64} (h : sub a b = true) (hn : mem a n = true) : mem b n = true :=
  mem_iff.2 fun j hj hb => by
    have e := sub_iff.1 h j hj hb
    exact e.2.symm.trans (mem_iff.1 hn j hj e.1)
theorem not_meet {a b : Cu} {n : W64} (h : (meet a b).2 = false) (h1 : mem a n = true) : mem b n = false := by
  cases hb : mem b n with
  | false => rfl
  | true =>
    have : (meet a b).2 = true := meet_iff.2 fun j hj ha hb' => (mem_iff.1 h1 j hj ha).trans (mem_iff.1 hb j hj hb').symm
    rw [this] at h
    cases h
theorem meet_comm2 {a b : Cu} : (meet b a).2 = (meet a b).2 := by
  rw [Bool.eq_iff_iff, meet_iff, meet_iff]
  exact ⟨fun h j hj h1 h2 => (h j hj h2 h1).symm, fun h j hj h1 h2 => (h j hj h2 h1).symm⟩
theorem meet_none {a b : Cu} (h : (meet a b).2 = false) : (meet a b).1 = ⟨0#64, 0#64⟩ := by
  unfold meet at h ⊢
  split <;> simp_all
theorem meet_some {a b : Cu} (h : (meet a b).2 = true) : (meet a b).1 = ⟨a.v &&& a.m ||| b.v &&& b.m, a.m ||| b.m⟩ := by
  unfold meet at h ⊢
  split <;> simp_all
theorem meet_sub1 {a b : Cu} (h : (meet a b).2 = true) : sub (meet a b).1 a = true := by
  rw [meet_some h]
  refine sub_iff.2 fun j hj ha => ?_
  have := meet_iff.1 h j hj ha
  simp only [BitVec.getLsbD_and, BitVec.getLsbD_or, BitVec.getLsbD_not, BitVec.getLsbD_zero, BitVec.getLsbD_xor, decide_true, Bool.true_and, ha, Bool.true_or, Bool.and_true, true_and]
  revert this
  generalize a.v.getLsbD j = p; generalize b.v.getLsbD j = q; generalize b.m.getLsbD j = s
  cases p <;> cases q <;> cases s <;> decide
theorem meet_sub2 {a b : Cu} (h : (meet a b).2 = true) : sub (meet a b).1 b = true := by
  rw [meet_some h]
  refine sub_iff.2 fun j hj ha => ?_
  have := fun h1 => meet_iff.1 h j hj h1 ha
  simp only [BitVec.getLsbD_and, BitVec.getLsbD_or, BitVec.getLsbD_not, BitVec.getLsbD_zero, BitVec.getLsbD_xor, decide_true, Bool.true_and, ha, Bool.or_true, Bool.and_true, true_and]
  revert this
  generalize a.v.getLsbD j = p; generalize b.v.getLsbD j = q; generalize a.m.getLsbD j = s
  cases p <;> cases q <;> cases s <;> decide
theorem meet_can {a b : Cu} : can (meet a b).1 := by
  unfold meet
  split
  · intro j hj
    simp only [BitVec.getLsbD_and, BitVec.getLsbD_or, BitVec.getLsbD_not, BitVec.getLsbD_zero, BitVec.getLsbD_xor, decide_true, Bool.true_and]
    generalize a.v.getLsbD j = p; generalize b.v.getLsbD j = q; generalize a.m.getLsbD j = s; generalize b.m.getLsbD j = r
    cases p <;> cases q <;> cases s <;> cases r <;> decide
  · intro j hj h
    simp only [BitVec.getLsbD_zero] at h
    cases h
theorem can_and {c : Cu} (h : can c) : c.v &&& c.m = c.v := and_not_zero.1 (can_iff.2 h)
theorem meet_mem {a b : Cu} {n : W64} (h : (meet a b).2 = true) : mem (meet a b).1 n = (mem a n && mem b n) := by
  rw [Bool.eq_iff_iff, Bool.and_eq_true]
  constructor
  · intro hm
    exact ⟨sub_mem (meet_sub1 h) hm, sub_mem (meet_sub2 h) hm⟩
  · rintro ⟨h1, h2⟩
    rw [meet_some h]
    refine mem_iff.2 fun j hj hm => ?_
    have e1 := mem_iff.1 h1 j hj
    have e2 := mem_iff.1 h2 j hj
    have e3 := meet_iff.1 h j hj
    simp only [BitVec.getLsbD_and, BitVec.getLsbD_or, BitVec.getLsbD_not, BitVec.getLsbD_zero, BitVec.getLsbD_xor, decide_true, Bool.true_and] at hm ⊢
    revert e1 e2 e3 hm
    generalize a.v.getLsbD j = p; generalize b.v.getLsbD j = q; generalize a.m.getLsbD j = s; generalize b.m.getLsbD j = r; generalize n.getLsbD j = t
    cases p <;> cases q <;> cases s <;> cases r <;> cases t <;> decide

-- parsing and formatting
end Go.Proofs.YtllfdnbnkncnhaaGreatDoor

/- Chapter 7: plain laws of the difference of two cubes. -/
set_option maxRecDepth 100000
set_option maxHeartbeats 4000000
set_option linter.all false
namespace Go.Proofs.YtllfdnbnkncnhaaGreatDoor
open Go.Vm

theorem piece_v {b r : Cu} {i j : Nat} (hj : j < 64) : (piece b r i).v.getLsbD j = (r.v.getLsbD j || (!b.v.getLsbD j && decide (i = j))) := by
  simp only [piece, BitVec.getLsbD_and, BitVec.getLsbD_or, BitVec.getLsbD_not, BitVec.getLsbD_zero, BitVec.getLsbD_xor, decide_true, Bool.true_and, hj, bit_at hj]
theorem piece_m {b r : Cu} {i j : Nat} (hj : j < 64) : (piece b r i).m.getLsbD j = (r.m.getLsbD j || decide (i = j)) := by
  simp only [piece, BitVec.getLsbD_and, BitVec.getLsbD_or, BitVec.getLsbD_not, BitVec.getLsbD_zero, BitVec.getLsbD_xor, decide_true, Bool.true_and, hj, bit_at hj]
theorem next_v {b r : Cu} {i j : Nat} (hj : j < 64) : (nextR b r i).v.getLsbD j = (r.v.getLsbD j || (b.v.getLsbD j && decide (i = j))) := by
  simp only [nextR, BitVec.getLsbD_and, BitVec.getLsbD_or, BitVec.getLsbD_not, BitVec.getLsbD_zero, BitVec.getLsbD_xor, decide_true, Bool.true_and, hj, bit_at hj]
theorem next_m {b r : Cu} {i j : Nat} (hj : j < 64) : (nextR b r i).m.getLsbD j = (r.m.getLsbD j || decide (i = j)) := by
  simp only [nextR, BitVec.getLsbD_and, BitVec.getLsbD_or, BitVec.getLsbD_not, BitVec.getLsbD_zero, BitVec.getLsbD_xor, decide_true, Bool.true_and, hj, bit_at hj]
theorem piece_can {b r : Cu} {i : Nat} (h : can r) : can (piece b r i) := by
  intro j hj
  rw [piece_v hj, piece_m hj]
  have := h j hj
  revert this
  generalize r.v.getLsbD j = p; generalize r.m.getLsbD j = q; generalize b.v.getLsbD j = s; generalize decide (i = j) = t
  cases p <;> cases q <;> cases s <;> cases t <;> decide
theorem next_can {b r : Cu} {i : Nat} (h : can r) : can (nextR b r i) := by
  intro j hj
  rw [next_v hj, next_m hj]
  have := h j hj
  revert this
  generalize r.v.getLsbD j = p; generalize r.m.getLsbD j = q; generalize b.v.getLsbD j = s; generalize decide (i = j) = t
  cases p <;> cases q <;> cases s <;> cases t <;> decide
theorem piece_inW {b r : Cu} {i w : Nat} (h : inW r w) (hi : i < w) : inW (piece b r i) w := by
  intro j hj
  rw [piece_m hj, Bool.or_eq_true, decide_eq_true_eq]
  rintro (hm | rfl)
  · exact h j hj hm
  · exact hi
theorem next_inW {b r : Cu} {i w : Nat} (h : inW r w) (hi : i < w) : inW (nextR b r i) w := by
  intro j hj
  rw [next_m hj, Bool.or_eq_true, decide_eq_true_eq]
  rintro (hm | rfl)
  · exact h j hj hm
  · exact hi
theorem free_v {r : Cu} {i : Nat} (hr : can r) (hi : i < 64) (h : r.m.getLsbD i = false) : r.v.getLsbD i = false := by
  cases hv : r.v.getLsbD i with
  | false => rfl
  | true => rw [hr i hi hv] at h; cases h
theorem piece_sub {b r : Cu} {i : Nat} (hr : can r) (hi : i < 64) (h : r.m.getLsbD i = false) : sub (piece b r i) r = true := by
  refine sub_iff.2 fun j hj hm => ?_
  rw [piece_v hj, piece_m hj, hm]
  have e : decide (i = j) = false := decide_eq_false fun e => by subst e; rw [hm] at h; cases h
  rw [e]
  simp
theorem next_sub {b r : Cu} {i : Nat} (hr : can r) (hi : i < 64) (h : r.m.getLsbD i = false) : sub (nextR b r i) r = true := by
  refine sub_iff.2 fun j hj hm => ?_
  rw [next_v hj, next_m hj, hm]
  have e : decide (i = j) = false := decide_eq_false fun e => by subst e; rw [hm] at h; cases h
  rw [e]
  simp
theorem piece_mem {b r : Cu} {i : Nat} {n : W64} (hr : can r) (hi : i < 64) (h : r.m.getLsbD i = false) : mem (piece b r i) n = (mem r n && !decide (n.getLsbD i = b.v.getLsbD i)) := by
  rw [Bool.eq_iff_iff, Bool.and_eq_true]
  constructor
  · intro hm
    refine ⟨sub_mem (piece_sub hr hi h) hm, ?_⟩
    have := mem_iff.1 hm i hi
    rw [piece_v hi, piece_m hi, h, free_v hr hi h, decide_eq_true rfl] at this
    have := this rfl
    revert this
    cases b.v.getLsbD i <;> cases n.getLsbD i <;> decide
  · rintro ⟨h1, h2⟩
    refine mem_iff.2 fun j hj hm => ?_
    have e := mem_iff.1 h1 j hj
    rw [piece_v hj]
    rw [piece_m hj, Bool.or_eq_true, decide_eq_true_eq] at hm
    by_cases he : i = j
    · subst he
      rw [free_v hr hi h, decide_eq_true rfl]
      revert h2
      cases b.v.getLsbD i <;> cases n.getLsbD i <;> decide
    · rw [decide_eq_false he]
      simp
      exact e (hm.resolve_right he)
theorem next_mem {b r : Cu} {i : Nat} {n : W64} (hr : can r) (hi : i < 64) (h : r.m.getLsbD i = false) : mem (nextR b r i) n = (mem r n && decide (n.getLsbD i = b.v.getLsbD i)) := by
  rw [Bool.eq_iff_iff, Bool.and_eq_true]
  constructor
  · intro hm
    refine ⟨sub_mem (next_sub hr hi h) hm, ?_⟩
    have := mem_iff.1 hm i hi
    rw [next_v hi, next_m hi, h, free_v hr hi h, decide_eq_true rfl] at this
    have := this rfl
    revert this
    cases b.v.getLsbD i <;> cases n.getLsbD i <;> decide
  · rintro ⟨h1, h2⟩
    refine mem_iff.2 fun j hj hm => ?_
    have e := mem_iff.1 h1 j hj
    rw [next_v hj]
    rw [next_m hj, Bool.or_eq_true, decide_eq_true_eq] at hm
    by_cases he : i = j
    · subst he
      rw [free_v hr hi h, decide_eq_true rfl]
      revert h2
      cases b.v.getLsbD i <;> cases n.getLsbD i <;> decide
    · rw [decide_eq_false he]
      simp
      exact e (hm.resolve_right he)
/-- no bit below i parts n from b where r is free -/
def agree (b r : Cu) (n : W64) : Nat → Bool
  | 0 => true
  | i + 1 => (!(b.m.getLsbD i && !r.m.getLsbD i) || decide (n.getLsbD i = b.v.getLsbD i)) && agree b r n i
theorem agree_next {b r : Cu} {n : W64} {k : Nat} (hk : k < 64) : ∀ {i : Nat}, i ≤ k → agree b (nextR b r k) n i = agree b r n i
  | 0, _ => rfl
  | i + 1, h => by
    rw [agree, agree, agree_next hk (by omega), next_m (by omega), decide_eq_false (by omega), Bool.or_false]
theorem agree_iff {b r : Cu} {n : W64} : ∀ {i : Nat}, i ≤ 64 → (agree b r n i = true ↔ ∀ j, j < i → b.m.getLsbD j = true → r.m.getLsbD j = false → n.getLsbD j = b.v.getLsbD j)
  | 0, _ => by simp [agree]
  | i + 1, h => by
    rw [agree, Bool.and_eq_true, agree_iff (by omega)]
    constructor
    · rintro ⟨h1, h2⟩ j hj hb hr
      by_cases e : j = i
      · subst e; rw [hb, hr] at h1; simpa using h1
      · exact h2 j (by omega) hb hr
    · intro h2
      refine ⟨?_, fun j hj => h2 j (by omega)⟩
      have := h2 i (by omega)
      revert this
      generalize n.getLsbD i = p; generalize b.v.getLsbD i = q; generalize b.m.getLsbD i = s; generalize r.m.getLsbD i = t
      cases p <;> cases q <;> cases s <;> cases t <;> decide
def cnt (n : W64) (l : List Cu) : Nat := l.countP fun c => mem c n
theorem subGo_all {b : Cu} {w : Nat} (hw : w ≤ 64) : ∀ {i : Nat} {r : Cu}, i ≤ w → can r → inW r w → ∀ p ∈ subGo b i r, can p ∧ inW p w ∧ sub p r = true
  | 0, _, _, _, _, p, hp => by rw [subGo] at hp; cases hp
  | i + 1, r, hi, hc, hwr, p, hp => by
    rw [subGo] at hp
    split at hp
    · rename_i h
      simp only [Bool.and_eq_true, Bool.not_eq_true'] at h
      rcases List.mem_cons.1 hp with rfl | hp
      · exact ⟨piece_can hc, piece_inW hwr (by omega), piece_sub hc (by omega) h.2⟩
      · have e := subGo_all hw (by omega) (next_can hc) (next_inW hwr (by omega)) p hp
        exact ⟨e.1, e.2.1, sub_trans e.2.2 (next_sub hc (by omega) h.2)⟩
    · exact subGo_all hw (by omega) hc hwr p hp
theorem part_meet {b r p : Cu} {i : Nat} (hr : can r) (hi : i < 64) (h : r.m.getLsbD i = false) (hp : sub p (nextR b r i) = true) : (meet (piece b r i) p).2 = false := by
  cases hm : (meet (piece b r i) p).2 with
  | false => rfl
  | true =>
    have e := sub_iff.1 hp i hi (by rw [next_m hi, decide_eq_true rfl, Bool.or_true])
    have e2 := meet_iff.1 hm i hi (by rw [piece_m hi, decide_eq_true rfl, Bool.or_true]) e.1
    rw [e.2, piece_v hi, next_v hi, free_v hr hi h, decide_eq_true rfl] at e2
    revert e2
    cases b.v.getLsbD i <;> decide
theorem subGo_pairs {b : Cu} {w : Nat} (hw : w ≤ 64) : ∀ {i : Nat} {r : Cu}, i ≤ w → can r → inW r w → (subGo b i r).Pairwise fun p q => (meet p q).2 = false
  | 0, _, _, _, _ => by rw [subGo]; exact List.Pairwise.nil
  | i + 1, r, hi, hc, hwr => by
    rw [subGo]
    split
    · rename_i h
      simp only [Bool.and_eq_true, Bool.not_eq_true'] at h
      refine List.Pairwise.cons (fun q hq => ?_) (subGo_pairs hw (by omega) (next_can hc) (next_inW hwr (by omega)))
      exact part_meet hc (by omega) h.2 (subGo_all hw (by omega) (next_can hc) (next_inW hwr (by omega)) q hq).2.2
    · exact subGo_pairs hw (by omega) hc hwr
theorem subGo_cnt {b : Cu} {n : W64} : ∀ {i : Nat} {r : Cu}, i ≤ 64 → can r → cnt n (subGo b i r) = if mem r n = true ∧ agree b r n i = false then 1 else 0
  | 0, r, _, _ => by simp [subGo, agree, cnt]
  | i + 1, r, hi, hc => by
    rw [subGo, agree]
    split
    · rename_i h
      simp only [Bool.and_eq_true, Bool.not_eq_true'] at h
      have e := subGo_cnt (b := b) (n := n) (i := i) (r := nextR b r i) (by omega) (next_can hc)
      rw [agree_next (by omega) (Nat.le_refl _), next_mem hc (by omega) h.2] at e
      rw [cnt, List.countP_cons, ← cnt, e, piece_mem hc (by omega) h.2, h.1, h.2]
      generalize mem r n = p
      generalize n.getLsbD i = q
      generalize b.v.getLsbD i = s
      generalize agree b r n i = t
      cases p <;> cases q <;> cases s <;> cases t <;> decide
    · rename_i h
      have h' : (b.m.getLsbD i && !r.m.getLsbD i) = false := by simpa using h
      rw [h', subGo_cnt (by omega) hc]
      simp
theorem cut_can {c : Cu} {w : Nat} : can (cutC c w) := by
  intro j hj h
  simp only [cutC, BitVec.getLsbD_and, BitVec.getLsbD_or, BitVec.getLsbD_not, BitVec.getLsbD_zero, BitVec.getLsbD_xor, decide_true, Bool.true_and] at h ⊢
  rw [Bool.and_eq_true] at h
  exact h.2
theorem cut_inW {c : Cu} {w : Nat} (hw : w ≤ 64) : inW (cutC c w) w := by
  intro j hj h
  simp only [cutC, BitVec.getLsbD_and, BitVec.getLsbD_or, BitVec.getLsbD_not, BitVec.getLsbD_zero, BitVec.getLsbD_xor, decide_true, Bool.true_and, low_bit hw hj] at h
  simp only [Bool.and_eq_true, decide_eq_true_eq] at h
  exact h.2
theorem mem_canon {v m n : W64} : mem ⟨v &&& m, m⟩ n = mem ⟨v, m⟩ n := by
  rw [Bool.eq_iff_iff, mem_iff, mem_iff]
  refine forall_congr' fun j => forall_congr' fun hj => forall_congr' fun h => ?_
  simp only [BitVec.getLsbD_and, BitVec.getLsbD_or, BitVec.getLsbD_not, BitVec.getLsbD_zero, BitVec.getLsbD_xor, decide_true, Bool.true_and] at h ⊢
  rw [h, Bool.and_true]
theorem sub_all {a b : Cu} {k : Nat} (h1 : 1 ≤ k) (h2 : k ≤ 64) : ∀ p ∈ subL a b k, chkC p k = 0 := by
  have hok : okW (k : Int) = true := by simp only [okW, Bool.and_eq_true, decide_eq_true_eq]; omega
  intro p hp
  rw [subL, if_pos hok, Int.toNat_natCast] at hp
  split at hp
  · have e := subGo_all (b := cutC b k) h2 (Nat.le_refl _) (cut_can (c := a)) (cut_inW h2) p hp
    exact (chk_iff h1 h2).2 ⟨e.1, e.2.1⟩
  · obtain rfl := List.mem_singleton.1 hp
    exact (chk_iff h1 h2).2 ⟨cut_can, cut_inW h2⟩
theorem sub_pairs {a b : Cu} {k : Nat} (h1 : 1 ≤ k) (h2 : k ≤ 64) : (subL a b k).Pairwise fun p q => (meet p q).2 = false := by
  have hok : okW (k : Int) = true := by simp only [okW, Bool.and_eq_true, decide_eq_true_eq]; omega
  rw [subL, if_pos hok, Int.toNat_natCast]
  split
  · exact subGo_pairs h2 (Nat.le_refl _) cut_can (cut_inW h2)
  · exact List.pairwise_singleton _ _
theorem sub_cnt {a b : Cu} {k : Nat} {n : W64} (h1 : 1 ≤ k) (h2 : k ≤ 64) : cnt n (subL a b k) = if mem (cutC a k) n = true ∧ mem (cutC b k) n = false then 1 else 0 := by
  have hok : okW (k : Int) = true := by simp only [okW, Bool.and_eq_true, decide_eq_true_eq]; omega
  rw [subL, if_pos hok, Int.toNat_natCast]
  split
  · rename_i hm
    rw [subGo_cnt h2 cut_can]
    by_cases ha : mem (cutC a k) n = true
    · have e : agree (cutC b k) (cutC a k) n k = mem (cutC b k) n := by
        rw [Bool.eq_iff_iff, agree_iff h2, mem_iff]
        constructor
        · intro h j hj hb
          cases hma : (cutC a k).m.getLsbD j with
          | false => exact (h j (cut_inW h2 j hj hb) hb hma).symm
          | true => exact (meet_iff.1 hm j hj hma hb).symm.trans (mem_iff.1 ha j hj hma)
        · intro h j hj hb _
          exact (h j (by omega) hb).symm
      rw [e]
    · rw [if_neg (fun h => ha h.1), if_neg (fun h => ha h.1)]
  · rename_i hm
    have hm : (meet (cutC a k) (cutC b k)).2 = false := by simpa using hm
    by_cases ha : mem (cutC a k) n = true
    · rw [if_pos ⟨ha, not_meet hm ha⟩]
      simp [cnt, ha]
    · rw [if_neg (fun h => ha h.1)]
      simp [cnt, ha]
end Go.Proofs.YtllfdnbnkncnhaaGreatDoor

/- Chapter 8: membership in a list of cubes; the small functions. -/
set_option maxRecDepth 100000
set_option maxHeartbeats 4000000
set_option linter.all false
namespace Go.Proofs.YtllfdnbnkncnhaaGreatDoor
open Go.Vm

def anyMem (l : List Cu) (n : W64) : Bool := l.any fun c => mem c n
end Go.Proofs.YtllfdnbnkncnhaaGreatDoor

/- Chapter 8: cubes that a list can do without. -/
set_option maxRecDepth 100000
set_option maxHeartbeats 4000000
set_option linter.all false
namespace Go.Proofs.YtllfdnbnkncnhaaGreatDoor
open Go.Vm

theorem rany_cons {f : Nat → Bool} {n j : Nat} {r : Bool} (h : j < n) (hr : (List.range' j (n - j)).any f = r) : (f j = true → r = true) ∧ (f j = false → (List.range' (j + 1) (n - (j + 1))).any f = r) := by
  rw [show n - j = (n - (j + 1)) + 1 by omega, List.range'_succ, List.any_cons] at hr
  cases hf : f j with
  | true => rw [hf] at hr; exact ⟨fun _ => by simpa using hr.symm, fun h => by simp at h⟩
  | false => rw [hf] at hr; exact ⟨fun h => by simp at h, fun _ => by simpa using hr⟩
theorem rany_end {f : Nat → Bool} {n j : Nat} {r : Bool} (h : ¬ j < n) (hr : (List.range' j (n - j)).any f = r) : r = false := by
  rw [show n - j = 0 by omega] at hr; exact hr.symm
def cat (l : List Cu) (k : Nat) : Cu := l.getD k ⟨0#64, 0#64⟩
theorem cat_at {l : List Cu} {k : Nat} (h : k < l.length) : cat l k = l[k] := lgetD h
/-- cube k makes cube i needless -/
def makes (l : List Cu) (i k : Nat) : Bool := decide (k ≠ i) && (sub (cat l i) (cat l k) && (decide (k < i) || !sub (cat l k) (cat l i)))
def redund (l : List Cu) (i : Nat) : Bool := (List.range' 0 (l.length - 0)).any (makes l i)
theorem pc79 (l : List Cu) (i : Nat) (hi : i < l.length) (hl : l.length ≤ 4000000000000000000) : PC Tryz.prog 79 [slC l, .int .i64 i] (.bool (redund l i)) := by
  refine PC.walk tok mixed cfg0 Tryz.func79 rfl Tryz.call79 (by simp [belC, bel_Cs, bel_slC]) (by first | rfl | simp [belC, bel_Cs, bel_slC]) ?_; simp (config := { maxSteps := 2000000 }) -implicitDefEqProofs +contextual (disch := first | assumption | omega | decide +kernel) only [push_cast, ↓capI, br2_true, br2_false, frk_tt, frk_tf, frk_f, frkD_tt, frkD_tf, frkD_f, pk2_true, pk2_false, imp_true, seval, Nat.reduceLeDiff, Nat.reduceEqDiff, reduceCtorEq, ↓reduceIte, reduceCtorEq, encC, cfg0, slC, get_flat_part lenC, get_flat_drop lenC, len_flat lenC, ib_and, ib_or, ib_xor, ib_andNot, w_ofInt, w_eqb, w_eqb0, w_inj, w_zero, w_wrap, BitVec.reduceOfInt, Tryz.ntmps79]
  refine T.lp tok mixed cfg0 (fun (j : Nat) => kp 2 (dd 5 (kp 2 (sv (.int .i64 j) (dd 29 (nl)))))) (fun H0 (j : Nat) => H0) (fun (j : Nat) => j ≤ l.length ∧ (List.range' j (l.length - j)).any (makes l i) = redund l i) (fun (j : Nat) => l.length - j) (0) ?_ ?_ ?_
  · exact ⟨Nat.zero_le _, rfl⟩
  · exact Gn.canon (J := []) (by first | rfl | (simp [List.append_nil]; done) | (simp [List.append_nil]; rfl)) (by simp [wk, slC, putT, kp, dd, sv, nl]) (by simp [List.length_append]) (by simp [belC, bel_Cs, bel_slC, kp, dd, sv, nl]) (by simp [belC, bel_Cs, bel_slC])
  rintro j ⟨hj, hr⟩
  simp (config := { maxSteps := 2000000 }) -implicitDefEqProofs +contextual (disch := first | assumption | omega | decide +kernel) only [push_cast, ↓capI, br2_true, br2_false, frk_tt, frk_tf, frk_f, frkD_tt, frkD_tf, frkD_f, pk2_true, pk2_false, imp_true, seval, Nat.reduceLeDiff, Nat.reduceEqDiff, reduceCtorEq, ↓reduceIte, reduceCtorEq, encC, cfg0, slC, get_flat_part lenC, get_flat_drop lenC, len_flat lenC, ib_and, ib_or, ib_xor, ib_andNot, w_ofInt, w_eqb, w_eqb0, w_inj, w_zero, w_wrap, BitVec.reduceOfInt]
  refine ⟨fun hlt => ?_, fun hge => ?_⟩
  · have hc := rany_cons hlt hr
    have ei := cat_at hi
    have ej := cat_at hlt
    by_cases he : j = i
    · have hm : makes l i j = false := by simp [makes, he]
      simp (config := { maxSteps := 2000000 }) -implicitDefEqProofs +contextual (disch := first | assumption | omega | decide +kernel) only [push_cast, ↓capI, br2_true, br2_false, frk_tt, frk_tf, frk_f, frkD_tt, frkD_tf, frkD_f, pk2_true, pk2_false, imp_true, seval, Nat.reduceLeDiff, Nat.reduceEqDiff, reduceCtorEq, ↓reduceIte, reduceCtorEq, encC, cfg0, slC, get_flat_part lenC, get_flat_drop lenC, len_flat lenC, ib_and, ib_or, ib_xor, ib_andNot, w_ofInt, w_eqb, w_eqb0, w_inj, w_zero, w_wrap, BitVec.reduceOfInt, he]
      subst he
      refine ⟨j + 1, ⟨hlt, hc.2 hm⟩, by (try simp only); omega, ?_⟩; exact Gn.canon (by first | rfl | (simp [List.append_nil]; rfl)) (by simp [wk, slC]) (by simp [List.length_append]) (by simp [belC, bel_Cs, bel_slC]) (by simp [belC, bel_Cs, bel_slC])
    have hin : ¬ (j : Int) = i := by omega
    have em : makes l i j = (sub l[i] l[j] && (decide (j < i) || !sub l[j] l[i])) := by simp [makes, he, ei, ej]
    simp (config := { maxSteps := 2000000 }) -implicitDefEqProofs +contextual (disch := first | assumption | omega | decide +kernel) only [push_cast, ↓capI, br2_true, br2_false, frk_tt, frk_tf, frk_f, frkD_tt, frkD_tf, frkD_f, pk2_true, pk2_false, imp_true, seval, Nat.reduceLeDiff, Nat.reduceEqDiff, reduceCtorEq, ↓reduceIte, reduceCtorEq, encC, cfg0, slC, get_flat_part lenC, get_flat_drop lenC, len_flat lenC, ib_and, ib_or, ib_xor, ib_andNot, w_ofInt, w_eqb, w_eqb0, w_inj, w_zero, w_wrap, BitVec.reduceOfInt, hin]
    refine callG.pc1 (pc87 l[i] l[j]) ?_
    cases h1 : sub l[i] l[j]
    · have hm : makes l i j = false := by rw [em, h1]; rfl
      simp (config := { maxSteps := 2000000 }) -implicitDefEqProofs +contextual (disch := first | assumption | omega | decide +kernel) only [push_cast, ↓capI, br2_true, br2_false, frk_tt, frk_tf, frk_f, frkD_tt, frkD_tf, frkD_f, pk2_true, pk2_false, imp_true, seval, Nat.reduceLeDiff, Nat.reduceEqDiff, reduceCtorEq, ↓reduceIte, reduceCtorEq, encC, cfg0, slC, get_flat_part lenC, get_flat_drop lenC, len_flat lenC, ib_and, ib_or, ib_xor, ib_andNot, w_ofInt, w_eqb, w_eqb0, w_inj, w_zero, w_wrap, BitVec.reduceOfInt]
      refine ⟨j + 1, ⟨hlt, hc.2 hm⟩, by (try simp only); omega, ?_⟩; exact Gn.canon (by first | rfl | (simp [List.append_nil]; rfl)) (by simp [wk, slC]) (by simp [List.length_append]) (by simp [belC, bel_Cs, bel_slC]) (by simp [belC, bel_Cs, bel_slC])
    simp (config := { maxSteps := 2000000 }) -implicitDefEqProofs +contextual (disch := first | assumption | omega | decide +kernel) only [push_cast, ↓capI, br2_true, br2_false, frk_tt, frk_tf, frk_f, frkD_tt, frkD_tf, frkD_f, pk2_true, pk2_false, imp_true, seval, Nat.reduceLeDiff, Nat.reduceEqDiff, reduceCtorEq, ↓reduceIte, reduceCtorEq, encC, cfg0, slC, get_flat_part lenC, get_flat_drop lenC, len_flat lenC, ib_and, ib_or, ib_xor, ib_andNot, w_ofInt, w_eqb, w_eqb0, w_inj, w_zero, w_wrap, BitVec.reduceOfInt]
    refine callG.pc1 (pc87 l[j] l[i]) ?_
    cases h2 : sub l[j] l[i]
    · have hm : makes l i j = true := by rw [em, h1, h2]; simp
      simp (config := { maxSteps := 2000000 }) -implicitDefEqProofs +contextual (disch := first | assumption | omega | decide +kernel) only [push_cast, ↓capI, br2_true, br2_false, frk_tt, frk_tf, frk_f, frkD_tt, frkD_tf, frkD_f, pk2_true, pk2_false, imp_true, seval, Nat.reduceLeDiff, Nat.reduceEqDiff, reduceCtorEq, ↓reduceIte, reduceCtorEq, encC, cfg0, slC, get_flat_part lenC, get_flat_drop lenC, len_flat lenC, ib_and, ib_or, ib_xor, ib_andNot, w_ofInt, w_eqb, w_eqb0, w_inj, w_zero, w_wrap, BitVec.reduceOfInt]
      refine endK.ret ?_ (by first | rfl | simp [belC, bel_Cs, bel_slC]); simp [evRes, getT, retV, Tryz.f79,  hc.1 hm]
    by_cases h3 : j < i
    · have hm : makes l i j = true := by rw [em, h1, h2]; simp [h3]
      simp (config := { maxSteps := 2000000 }) -implicitDefEqProofs +contextual (disch := first | assumption | omega | decide +kernel) only [push_cast, ↓capI, br2_true, br2_false, frk_tt, frk_tf, frk_f, frkD_tt, frkD_tf, frkD_f, pk2_true, pk2_false, imp_true, seval, Nat.reduceLeDiff, Nat.reduceEqDiff, reduceCtorEq, ↓reduceIte, reduceCtorEq, encC, cfg0, slC, get_flat_part lenC, get_flat_drop lenC, len_flat lenC, ib_and, ib_or, ib_xor, ib_andNot, w_ofInt, w_eqb, w_eqb0, w_inj, w_zero, w_wrap, BitVec.reduceOfInt, h3]
      refine endK.ret ?_ (by first | rfl | simp [belC, bel_Cs, bel_slC]); simp [evRes, getT, retV, Tryz.f79,  hc.1 hm]
    · have hm : makes l i j = false := by rw [em, h1, h2]; simp [h3]
      simp (config := { maxSteps := 2000000 }) -implicitDefEqProofs +contextual (disch := first | assumption | omega | decide +kernel) only [push_cast, ↓capI, br2_true, br2_false, frk_tt, frk_tf, frk_f, frkD_tt, frkD_tf, frkD_f, pk2_true, pk2_false, imp_true, seval, Nat.reduceLeDiff, Nat.reduceEqDiff, reduceCtorEq, ↓reduceIte, reduceCtorEq, encC, cfg0, slC, get_flat_part lenC, get_flat_drop lenC, len_flat lenC, ib_and, ib_or, ib_xor, ib_andNot, w_ofInt, w_eqb, w_eqb0, w_inj, w_zero, w_wrap, BitVec.reduceOfInt, h3]
      refine ⟨j + 1, ⟨hlt, hc.2 hm⟩, by (try simp only); omega, ?_⟩; exact Gn.canon (by first | rfl | (simp [List.append_nil]; rfl)) (by simp [wk, slC]) (by simp [List.length_append]) (by simp [belC, bel_Cs, bel_slC]) (by simp [belC, bel_Cs, bel_slC])
  · refine endK.ret ?_ (by first | rfl | simp [belC, bel_Cs, bel_slC]); simp [evRes, getT, retV, Tryz.f79,  rany_end hge hr]
end Go.Proofs.YtllfdnbnkncnhaaGreatDoor

/- Chapter 8: lists without needless cubes. -/
set_option maxRecDepth 100000
set_option maxHeartbeats 4000000
set_option linter.all false
namespace Go.Proofs.YtllfdnbnkncnhaaGreatDoor
open Go.Vm

def encLE (r : List Cu × Int) : V := .tup [slC r.1, .int .i64 r.2]
theorem bel_encLE {n : Nat} {r : List Cu × Int} : (encLE r).bel n = true := by simp [encLE, bel_tup, bel_int, belAll_cons, belAll_nil, bel_slC]
def simpTo (l : List Cu) : Nat → List Cu
  | 0 => []
  | j + 1 => simpTo l j ++ if redund l j = true then [] else [canon (cat l j)]
def simp8 (l : List Cu) : List Cu := simpTo l l.length
theorem simpTo_len (l : List Cu) : ∀ (j : Nat), (simpTo l j).length ≤ j
  | 0 => Nat.le_refl _
  | j + 1 => by
    have := simpTo_len l j
    rw [simpTo, List.length_append]
    split <;> simp <;> omega
theorem simpTo_yes {l : List Cu} {j : Nat} (h : redund l j = true) : simpTo l (j + 1) = simpTo l j := by rw [simpTo, if_pos h, List.append_nil]
theorem simpTo_no {l : List Cu} {j : Nat} (h : redund l j = false) (hj : j < l.length) : simpTo l (j + 1) = simpTo l j ++ [canon l[j]] := by
  rw [simpTo, if_neg (by rw [h]; simp), cat_at hj]
theorem simp8_len {l : List Cu} : (simp8 l).length ≤ l.length := simpTo_len l _
theorem pcj67 (l : List Cu) (hl : l.length ≤ 4000000000) : PCJ Tryz.prog 67 [slC l] (.buf 0 (simp8 l).length 0 (simp8 l).length 2) [.cells (simp8 l).length ((simp8 l).flatMap encC)] := by
  refine PCJ.walk tok mixed cfg0 Tryz.func67 rfl Tryz.call67 (by simp [belC, bel_Cs, bel_slC, belAll_append, bel_encLE]) ?_; simp (config := { maxSteps := 2000000 }) -implicitDefEqProofs +contextual (disch := first | assumption | omega | decide +kernel) only [push_cast, ↓capI, br2_true, br2_false, frk_tt, frk_tf, frk_f, frkD_tt, frkD_tf, frkD_f, pk2_true, pk2_false, imp_true, seval, Nat.reduceLeDiff, Nat.reduceEqDiff, reduceCtorEq, ↓reduceIte, reduceCtorEq, encC, cfg0, slC, get_flat_part lenC, get_flat_drop lenC, len_flat lenC, ib_and, ib_or, ib_xor, ib_andNot, w_ofInt, w_eqb, w_eqb0, w_inj, w_zero, w_wrap, BitVec.reduceOfInt, Tryz.ntmps67]
  refine T.lp tok mixed cfg0 (fun ((j, L) : Nat × List Cu) => kp 1 (dd 2 (sv (.buf 0 L.length 0 L.length 2) (dd 2 (kp 2 (sv (.int .i64 j) (dd 21 (nl)))))))) (fun H0 ((j, L) : Nat × List Cu) => [.cells L.length (L.flatMap encC)]) (fun ((j, L) : Nat × List Cu) => j ≤ l.length ∧ L = simpTo l j) (fun ((j, L) : Nat × List Cu) => l.length - j) ((0, [])) ?_ ?_ ?_
  · exact ⟨Nat.zero_le _, rfl⟩
  · refine (Gn.ownNil (t := 3) (sz := 2) rfl).trans ?_
    exact Gn.canon (J := []) (by first | rfl | (simp [List.append_nil]; done) | (simp [List.append_nil]; rfl)) (by simp [wk, slC, putT, kp, dd, sv, nl]) (by simp [List.length_append]) (by simp [belC, bel_Cs, bel_slC, belAll_append, bel_encLE, kp, dd, sv, nl]) (by simp [belC, bel_Cs, bel_slC, belAll_append, bel_encLE])
  rintro ⟨j, L⟩ ⟨hj, hL⟩
  have hlen : L.length ≤ j := by rw [hL]; exact simpTo_len l j
  simp (config := { maxSteps := 2000000 }) -implicitDefEqProofs +contextual (disch := first | assumption | omega | decide +kernel) only [push_cast, ↓capI, br2_true, br2_false, frk_tt, frk_tf, frk_f, frkD_tt, frkD_tf, frkD_f, pk2_true, pk2_false, imp_true, seval, Nat.reduceLeDiff, Nat.reduceEqDiff, reduceCtorEq, ↓reduceIte, reduceCtorEq, encC, cfg0, slC, get_flat_part lenC, get_flat_drop lenC, len_flat lenC, ib_and, ib_or, ib_xor, ib_andNot, w_ofInt, w_eqb, w_eqb0, w_inj, w_zero, w_wrap, BitVec.reduceOfInt]
  refine ⟨fun hlt => ?_, fun hge => ?_⟩
  · refine callO.pc (pc79 l j hlt (by omega)) ?_
    cases hr : redund l j
    · have e := simpTo_no hr hlt
      rw [← hL] at e
      simp (config := { maxSteps := 2000000 }) -implicitDefEqProofs +contextual (disch := first | assumption | omega | decide +kernel) only [push_cast, ↓capI, br2_true, br2_false, frk_tt, frk_tf, frk_f, frkD_tt, frkD_tf, frkD_f, pk2_true, pk2_false, imp_true, seval, Nat.reduceLeDiff, Nat.reduceEqDiff, reduceCtorEq, ↓reduceIte, reduceCtorEq, encC, cfg0, slC, get_flat_part lenC, get_flat_drop lenC, len_flat lenC, ib_and, ib_or, ib_xor, ib_andNot, w_ofInt, w_eqb, w_eqb0, w_inj, w_zero, w_wrap, BitVec.reduceOfInt]
      refine ⟨(j + 1, L ++ [canon l[j]]), ⟨by simp only; omega, e.symm⟩, by (try simp only); omega, ?_⟩; exact Gn.canon (by first | rfl | (simp [List.append_nil, canon, encC]; rfl)) (by simp [wk, slC, canon, encC]) (by simp [List.length_append]) (by simp [belC, bel_Cs, bel_slC, belAll_append, bel_encLE]) (by simp [belC, bel_Cs, bel_slC, belAll_append, bel_encLE])
    · have e := simpTo_yes hr
      rw [← hL] at e
      simp (config := { maxSteps := 2000000 }) -implicitDefEqProofs +contextual (disch := first | assumption | omega | decide +kernel) only [push_cast, ↓capI, br2_true, br2_false, frk_tt, frk_tf, frk_f, frkD_tt, frkD_tf, frkD_f, pk2_true, pk2_false, imp_true, seval, Nat.reduceLeDiff, Nat.reduceEqDiff, reduceCtorEq, ↓reduceIte, reduceCtorEq, encC, cfg0, slC, get_flat_part lenC, get_flat_drop lenC, len_flat lenC, ib_and, ib_or, ib_xor, ib_andNot, w_ofInt, w_eqb, w_eqb0, w_inj, w_zero, w_wrap, BitVec.reduceOfInt]
      refine ⟨(j + 1, L), ⟨by simp only; omega, e.symm⟩, by (try simp only); omega, ?_⟩; exact Gn.canon (by first | rfl | (simp [List.append_nil]; rfl)) (by simp [wk, slC]) (by simp [List.length_append]) (by simp [belC, bel_Cs, bel_slC, belAll_append, bel_encLE]) (by simp [belC, bel_Cs, bel_slC, belAll_append, bel_encLE])
  · have e : L = simp8 l := by rw [hL, simp8, show j = l.length by omega]
    refine endJ.ret ([]) (by simp [belC, bel_Cs, bel_slC, belAll_append, bel_encLE, fzs_ok, getO, setO, fzs, fz, fzH, Nat.beq, tt_56, tt_43, tt_3, tt_4, tt_5, tt_26, tt_25, tt_9, encC, cfg0, slC, get_flat_part lenC, get_flat_drop lenC, len_flat lenC, ib_and, ib_or, ib_xor, ib_andNot, w_ofInt, w_eqb, w_eqb0, w_inj, w_zero, w_wrap, BitVec.reduceOfInt, e]) (by simp [belC, bel_Cs, bel_slC, belAll_append, bel_encLE, fzs_ok, imp, lenOK_iff, List.take_of_length_le, evRes, getT, getO, setO, fzs, fz, fzH, Nat.beq, retV, Res.then, ldT, ldR, mkV, getV, tt_56, tt_43, tt_3, tt_4, tt_5, tt_26, tt_25, tt_9, encC, cfg0, slC, get_flat_part lenC, get_flat_drop lenC, len_flat lenC, ib_and, ib_or, ib_xor, ib_andNot, w_ofInt, w_eqb, w_eqb0, w_inj, w_zero, w_wrap, BitVec.reduceOfInt, Tryz.f67, e]) (by first | rfl | simp [belC, bel_Cs, bel_slC, belAll_append, bel_encLE, e]) (by first | rfl | simp [belC, bel_Cs, bel_slC, belAll_append, bel_encLE, e])
theorem shs_C {k : Nat} {L : List Cu} : shs k (L.flatMap encC) = L.flatMap encC := shs_ok (bel_Cs L)
def fin8 (l : List Cu) : List Cu × Int := if 1024 < (simp8 l).length then ([], 12) else (simp8 l, 0)
def bufC (k : Nat) (L : List Cu) : V := .buf k L.length 0 L.length 2
theorem pcj56 (l : List Cu) (hl : l.length ≤ 4000000000) (h : (simp8 l).length ≤ 1024) : PCJ Tryz.prog 56 [slC l] (.tup [bufC 0 (simp8 l), .int .i64 0]) [.cells (simp8 l).length ((simp8 l).flatMap encC)] := by
  have h' : ¬ 1024 < (simp8 l).length := by omega
  have h2 : ¬ (1024 : Int) < ((simp8 l).length : Int) := by omega
  refine PCJ.walk tok mixed cfg0 Tryz.func56 rfl Tryz.call56 (by simp [belC, bel_Cs, bel_slC, belAll_append, bel_encLE]) ?_; simp (config := { maxSteps := 2000000 }) -implicitDefEqProofs +contextual (disch := first | assumption | omega | decide +kernel) only [push_cast, ↓capI, br2_true, br2_false, frk_tt, frk_tf, frk_f, frkD_tt, frkD_tf, frkD_f, pk2_true, pk2_false, imp_true, seval, Nat.reduceLeDiff, Nat.reduceEqDiff, reduceCtorEq, ↓reduceIte, reduceCtorEq, encC, cfg0, slC, get_flat_part lenC, get_flat_drop lenC, len_flat lenC, ib_and, ib_or, ib_xor, ib_andNot, w_ofInt, w_eqb, w_eqb0, w_inj, w_zero, w_wrap, BitVec.reduceOfInt, Tryz.ntmps56]
  refine callO.pcj (pcj67 l hl) ?_
  simp (config := { maxSteps := 2000000 }) -implicitDefEqProofs +contextual (disch := first | assumption | omega | decide +kernel) only [push_cast, ↓capI, br2_true, br2_false, frk_tt, frk_tf, frk_f, frkD_tt, frkD_tf, frkD_f, pk2_true, pk2_false, imp_true, seval, Nat.reduceLeDiff, Nat.reduceEqDiff, reduceCtorEq, ↓reduceIte, reduceCtorEq, encC, cfg0, slC, get_flat_part lenC, get_flat_drop lenC, len_flat lenC, ib_and, ib_or, ib_xor, ib_andNot, w_ofInt, w_eqb, w_eqb0, w_inj, w_zero, w_wrap, BitVec.reduceOfInt, shs_C, h', h2]
  refine endJ.ret ([]) (by simp [belC, bel_Cs, bel_slC, belAll_append, bel_encLE, fzs_ok, getO, setO, fzs, fz, fzH, Nat.beq, tt_56, tt_43, tt_3, tt_4, tt_5, tt_26, tt_25, tt_9, encC, cfg0, slC, get_flat_part lenC, get_flat_drop lenC, len_flat lenC, ib_and, ib_or, ib_xor, ib_andNot, w_ofInt, w_eqb, w_eqb0, w_inj, w_zero, w_wrap, BitVec.reduceOfInt, bufC]) (by simp [belC, bel_Cs, bel_slC, belAll_append, bel_encLE, fzs_ok, imp, lenOK_iff, List.take_of_length_le, evRes, getT, getO, setO, fzs, fz, fzH, Nat.beq, retV, Res.then, ldT, ldR, mkV, getV, tt_56, tt_43, tt_3, tt_4, tt_5, tt_26, tt_25, tt_9, encC, cfg0, slC, get_flat_part lenC, get_flat_drop lenC, len_flat lenC, ib_and, ib_or, ib_xor, ib_andNot, w_ofInt, w_eqb, w_eqb0, w_inj, w_zero, w_wrap, BitVec.reduceOfInt, Tryz.f56, bufC]) (by first | rfl | simp [belC, bel_Cs, bel_slC, belAll_append, bel_encLE, bufC]) (by first | rfl | simp [belC, bel_Cs, bel_slC, belAll_append, bel_encLE, bufC])
theorem pc56 (l : List Cu) (hl : l.length ≤ 4000000000) : PC Tryz.prog 56 [slC l] (encLE (fin8 l)) := by
  by_cases h : 1024 < (simp8 l).length
  · have h2 : (1024 : Int) < ((simp8 l).length : Int) := by omega
    rw [fin8, if_pos h]
    refine PC.laxr (v := .tup [.sl true [] 0, .int .i64 12]) ?_
    refine PC.walk tok mixed cfg0 Tryz.func56 rfl Tryz.call56 (by simp [belC, bel_Cs, bel_slC, belAll_append, bel_encLE]) (by first | rfl | simp [belC, bel_Cs, bel_slC, belAll_append, bel_encLE]) ?_; simp (config := { maxSteps := 2000000 }) -implicitDefEqProofs +contextual (disch := first | assumption | omega | decide +kernel) only [push_cast, ↓capI, br2_true, br2_false, frk_tt, frk_tf, frk_f, frkD_tt, frkD_tf, frkD_f, pk2_true, pk2_false, imp_true, seval, Nat.reduceLeDiff, Nat.reduceEqDiff, reduceCtorEq, ↓reduceIte, reduceCtorEq, encC, cfg0, slC, get_flat_part lenC, get_flat_drop lenC, len_flat lenC, ib_and, ib_or, ib_xor, ib_andNot, w_ofInt, w_eqb, w_eqb0, w_inj, w_zero, w_wrap, BitVec.reduceOfInt, Tryz.ntmps56]
    refine callO.pcj (pcj67 l hl) ?_
    simp (config := { maxSteps := 2000000 }) -implicitDefEqProofs +contextual (disch := first | assumption | omega | decide +kernel) only [push_cast, ↓capI, br2_true, br2_false, frk_tt, frk_tf, frk_f, frkD_tt, frkD_tf, frkD_f, pk2_true, pk2_false, imp_true, seval, Nat.reduceLeDiff, Nat.reduceEqDiff, reduceCtorEq, ↓reduceIte, reduceCtorEq, encC, cfg0, slC, get_flat_part lenC, get_flat_drop lenC, len_flat lenC, ib_and, ib_or, ib_xor, ib_andNot, w_ofInt, w_eqb, w_eqb0, w_inj, w_zero, w_wrap, BitVec.reduceOfInt, shs_C, h, h2]
    refine endK.ret ?_ (by first | rfl | simp [belC, bel_Cs, bel_slC, belAll_append, bel_encLE]); simp [evRes, getT, retV, Tryz.f56]
  · have h2 : ¬ (1024 : Int) < ((simp8 l).length : Int) := by omega
    rw [fin8, if_neg h]
    refine PC.walk tok mixed cfg0 Tryz.func56 rfl Tryz.call56 (by simp [belC, bel_Cs, bel_slC, belAll_append, bel_encLE]) (by first | rfl | simp [belC, bel_Cs, bel_slC, belAll_append, bel_encLE]) ?_; simp (config := { maxSteps := 2000000 }) -implicitDefEqProofs +contextual (disch := first | assumption | omega | decide +kernel) only [push_cast, ↓capI, br2_true, br2_false, frk_tt, frk_tf, frk_f, frkD_tt, frkD_tf, frkD_f, pk2_true, pk2_false, imp_true, seval, Nat.reduceLeDiff, Nat.reduceEqDiff, reduceCtorEq, ↓reduceIte, reduceCtorEq, encC, cfg0, slC, get_flat_part lenC, get_flat_drop lenC, len_flat lenC, ib_and, ib_or, ib_xor, ib_andNot, w_ofInt, w_eqb, w_eqb0, w_inj, w_zero, w_wrap, BitVec.reduceOfInt, Tryz.ntmps56]
    refine callO.pcj (pcj67 l hl) ?_
    simp (config := { maxSteps := 2000000 }) -implicitDefEqProofs +contextual (disch := first | assumption | omega | decide +kernel) only [push_cast, ↓capI, br2_true, br2_false, frk_tt, frk_tf, frk_f, frkD_tt, frkD_tf, frkD_f, pk2_true, pk2_false, imp_true, seval, Nat.reduceLeDiff, Nat.reduceEqDiff, reduceCtorEq, ↓reduceIte, reduceCtorEq, encC, cfg0, slC, get_flat_part lenC, get_flat_drop lenC, len_flat lenC, ib_and, ib_or, ib_xor, ib_andNot, w_ofInt, w_eqb, w_eqb0, w_inj, w_zero, w_wrap, BitVec.reduceOfInt, shs_C, h, h2]
    refine endK.gn (Gn.freeze (id := 0) rfl) ?_; refine endK.ret ?_ (by first | rfl | simp [belC, bel_Cs, bel_slC, belAll_append, bel_encLE]); simp [belC, bel_Cs, bel_slC, belAll_append, bel_encLE, fzs_ok, imp, lenOK_iff, List.take_of_length_le, evRes, getT, getO, setO, fzs, fz, fzH, Nat.beq, retV, Res.then, ldT, ldR, mkV, getV, tt_56, tt_43, tt_3, tt_4, tt_5, tt_26, tt_25, tt_9, encC, cfg0, slC, get_flat_part lenC, get_flat_drop lenC, len_flat lenC, ib_and, ib_or, ib_xor, ib_andNot, w_ofInt, w_eqb, w_eqb0, w_inj, w_zero, w_wrap, BitVec.reduceOfInt, Tryz.f56,  encLE, slC, take_flat lenC]
end Go.Proofs.YtllfdnbnkncnhaaGreatDoor

/- Chapter 8: unions. -/
set_option maxRecDepth 100000
set_option maxHeartbeats 4000000
set_option linter.all false
namespace Go.Proofs.YtllfdnbnkncnhaaGreatDoor
open Go.Vm

theorem pur_C : ∀ {xs : List Cu}, purs (xs.flatMap encC) = true
  | [] => rfl
  | x :: xs => by simp only [List.flatMap_cons, encC, List.cons_append, List.nil_append, purs, V.pur, Bool.true_and]; exact pur_C
theorem brw_ab {a b : List Cu} {ver : Nat} : brws [.cells ver (a.flatMap encC ++ b.flatMap encC)] [.buf 0 ver 0 (a.length + b.length) 2] = [slC (a ++ b)] := by
  have e : a.flatMap encC ++ b.flatMap encC = (a ++ b).flatMap encC := by rw [List.flatMap_append]
  have e2 : ((a ++ b).flatMap encC).take ((a ++ b).length * 2) = (a ++ b).flatMap encC := take_C
  have hb : Nat.beq ver ver = true := Nat.beq_refl ver
  simp only [brws, brw, getO, hb, List.drop_zero]
  rw [e, ← List.length_append, e2]
  rfl
theorem pcE56 (l : List Cu) (hl : l.length ≤ 4000000000) (h : 1024 < (simp8 l).length) : PC Tryz.prog 56 [slC l] (.tup [.sl true [] 0, .int .i64 12]) := by
  have h2 : (1024 : Int) < ((simp8 l).length : Int) := by omega
  refine PC.walk tok mixed cfg0 Tryz.func56 rfl Tryz.call56 (by simp [belC, bel_Cs, bel_slC, belAll_append, bel_encLE]) (by first | rfl | simp [belC, bel_Cs, bel_slC, belAll_append, bel_encLE]) ?_; simp (config := { maxSteps := 2000000 }) -implicitDefEqProofs +contextual (disch := first | assumption | omega | decide +kernel) only [push_cast, ↓capI, br2_true, br2_false, frk_tt, frk_tf, frk_f, frkD_tt, frkD_tf, frkD_f, pk2_true, pk2_false, imp_true, seval, Nat.reduceLeDiff, Nat.reduceEqDiff, reduceCtorEq, ↓reduceIte, reduceCtorEq, encC, cfg0, slC, get_flat_part lenC, get_flat_drop lenC, len_flat lenC, ib_and, ib_or, ib_xor, ib_andNot, w_ofInt, w_eqb, w_eqb0, w_inj, w_zero, w_wrap, BitVec.reduceOfInt, ones_C, take_C, Tryz.ntmps56]
  refine callO.pcj (pcj67 l hl) ?_
  simp (config := { maxSteps := 2000000 }) -implicitDefEqProofs +contextual (disch := first | assumption | omega | decide +kernel) only [push_cast, ↓capI, br2_true, br2_false, frk_tt, frk_tf, frk_f, frkD_tt, frkD_tf, frkD_f, pk2_true, pk2_false, imp_true, seval, Nat.reduceLeDiff, Nat.reduceEqDiff, reduceCtorEq, ↓reduceIte, reduceCtorEq, encC, cfg0, slC, get_flat_part lenC, get_flat_drop lenC, len_flat lenC, ib_and, ib_or, ib_xor, ib_andNot, w_ofInt, w_eqb, w_eqb0, w_inj, w_zero, w_wrap, BitVec.reduceOfInt, ones_C, take_C, shs_C, h, h2]
  refine endK.ret ?_ (by first | rfl | simp [belC, bel_Cs, bel_slC, belAll_append, bel_encLE]); simp [evRes, getT, retV, Tryz.f56]
theorem pc34 (a b : List Cu) (ha : a.length ≤ 1000000) (hb : b.length ≤ 1000000) : PC Tryz.prog 34 [slC a, slC b] (encLE (fin8 (a ++ b))) := by
  have hl : (a ++ b).length ≤ 4000000000 := by rw [List.length_append]; omega
  by_cases h : 1024 < (simp8 (a ++ b)).length
  · rw [fin8, if_pos h]
    refine PC.laxr (v := .tup [.sl true [] 0, .int .i64 12]) ?_
    refine PC.walk tok mixed cfg0 Tryz.func34 rfl Tryz.call34 (by simp [belC, bel_Cs, bel_slC, belAll_append, bel_encLE]) (by first | rfl | simp [belC, bel_Cs, bel_slC, belAll_append, bel_encLE]) ?_; simp (config := { maxSteps := 2000000 }) -implicitDefEqProofs +contextual (disch := first | assumption | omega | decide +kernel) only [push_cast, ↓capI, br2_true, br2_false, frk_tt, frk_tf, frk_f, frkD_tt, frkD_tf, frkD_f, pk2_true, pk2_false, imp_true, seval, Nat.reduceLeDiff, Nat.reduceEqDiff, reduceCtorEq, ↓reduceIte, reduceCtorEq, encC, cfg0, slC, get_flat_part lenC, get_flat_drop lenC, len_flat lenC, ib_and, ib_or, ib_xor, ib_andNot, w_ofInt, w_eqb, w_eqb0, w_inj, w_zero, w_wrap, BitVec.reduceOfInt, ones_C, take_C, Tryz.ntmps34]
    refine callO.lent (J := []) (by rw [List.nil_append, List.append_nil, brw_ab]; exact (pcE56 (a ++ b) hl h).toJ rfl) (by rw [List.nil_append, List.append_nil, brw_ab]; simp [belC, bel_Cs, bel_slC, belAll_append, bel_encLE]) rfl rfl ?_
    simp (config := { maxSteps := 2000000 }) -implicitDefEqProofs +contextual (disch := first | assumption | omega | decide +kernel) only [push_cast, ↓capI, br2_true, br2_false, frk_tt, frk_tf, frk_f, frkD_tt, frkD_tf, frkD_f, pk2_true, pk2_false, imp_true, seval, Nat.reduceLeDiff, Nat.reduceEqDiff, reduceCtorEq, ↓reduceIte, reduceCtorEq, encC, cfg0, slC, get_flat_part lenC, get_flat_drop lenC, len_flat lenC, ib_and, ib_or, ib_xor, ib_andNot, w_ofInt, w_eqb, w_eqb0, w_inj, w_zero, w_wrap, BitVec.reduceOfInt, ones_C, take_C, V.sh, shs, shOs]
    refine endK.ret ?_ (by first | rfl | simp [belC, bel_Cs, bel_slC, belAll_append, bel_encLE]); simp [evRes, getT, retV, Tryz.f34]
  · rw [fin8, if_neg h]
    refine PC.walk tok mixed cfg0 Tryz.func34 rfl Tryz.call34 (by simp [belC, bel_Cs, bel_slC, belAll_append, bel_encLE]) (by first | rfl | simp [belC, bel_Cs, bel_slC, belAll_append, bel_encLE]) ?_; simp (config := { maxSteps := 2000000 }) -implicitDefEqProofs +contextual (disch := first | assumption | omega | decide +kernel) only [push_cast, ↓capI, br2_true, br2_false, frk_tt, frk_tf, frk_f, frkD_tt, frkD_tf, frkD_f, pk2_true, pk2_false, imp_true, seval, Nat.reduceLeDiff, Nat.reduceEqDiff, reduceCtorEq, ↓reduceIte, reduceCtorEq, encC, cfg0, slC, get_flat_part lenC, get_flat_drop lenC, len_flat lenC, ib_and, ib_or, ib_xor, ib_andNot, w_ofInt, w_eqb, w_eqb0, w_inj, w_zero, w_wrap, BitVec.reduceOfInt, ones_C, take_C, Tryz.ntmps34]
    refine callO.lent (by rw [List.nil_append, List.append_nil, brw_ab]; exact pcj56 (a ++ b) hl (by omega)) (by rw [List.nil_append, List.append_nil, brw_ab]; simp [belC, bel_Cs, bel_slC, belAll_append, bel_encLE]) rfl (by simp [pursO, Ob.pur, pur_C]) ?_
    simp (config := { maxSteps := 2000000 }) -implicitDefEqProofs +contextual (disch := first | assumption | omega | decide +kernel) only [push_cast, ↓capI, br2_true, br2_false, frk_tt, frk_tf, frk_f, frkD_tt, frkD_tf, frkD_f, pk2_true, pk2_false, imp_true, seval, Nat.reduceLeDiff, Nat.reduceEqDiff, reduceCtorEq, ↓reduceIte, reduceCtorEq, encC, cfg0, slC, get_flat_part lenC, get_flat_drop lenC, len_flat lenC, ib_and, ib_or, ib_xor, ib_andNot, w_ofInt, w_eqb, w_eqb0, w_inj, w_zero, w_wrap, BitVec.reduceOfInt, ones_C, take_C, V.sh, shs, shOs, bufC, Ob.sh, shs_C]
    refine endK.gn (Gn.freeze (id := 1) rfl) ?_; refine endK.ret ?_ (by first | rfl | simp [belC, bel_Cs, bel_slC, belAll_append, bel_encLE]); simp [belC, bel_Cs, bel_slC, belAll_append, bel_encLE, fzs_ok, imp, lenOK_iff, List.take_of_length_le, evRes, getT, getO, setO, fzs, fz, fzH, Nat.beq, retV, Res.then, ldT, ldR, mkV, getV, tt_56, tt_43, tt_3, tt_4, tt_5, tt_26, tt_25, tt_9, encC, cfg0, slC, get_flat_part lenC, get_flat_drop lenC, len_flat lenC, ib_and, ib_or, ib_xor, ib_andNot, w_ofInt, w_eqb, w_eqb0, w_inj, w_zero, w_wrap, BitVec.reduceOfInt, ones_C, take_C, Tryz.f34,  encLE, slC, take_flat lenC]
end Go.Proofs.YtllfdnbnkncnhaaGreatDoor

/- Chapter 8: intersections. -/
set_option maxRecDepth 100000
set_option maxHeartbeats 4000000
set_option linter.all false
namespace Go.Proofs.YtllfdnbnkncnhaaGreatDoor
open Go.Vm

/-- what x has in common with each of b -/
def meets (x : Cu) (b : List Cu) : List Cu := b.flatMap fun y => if (meet x y).2 = true then [(meet x y).1] else []
def interGo (b : List Cu) : List Cu → List Cu → List Cu × Int
  | [], out => (out, 0)
  | x :: xs, out => if 1024 < (simp8 (out ++ meets x b)).length then ([], 12) else interGo b xs (simp8 (out ++ meets x b))
def inter8 (a b : List Cu) : List Cu × Int := interGo b a []
theorem meets_take {x : Cu} {b : List Cu} {k : Nat} (h : k < b.length) : meets x (b.take (k + 1)) = meets x (b.take k) ++ if (meet x b[k]).2 = true then [(meet x b[k]).1] else [] := by
  rw [List.take_succ_eq_append_getElem h, meets, List.flatMap_append, ← meets]
  simp
theorem meets_len {x : Cu} : ∀ {b : List Cu}, (meets x b).length ≤ b.length
  | [] => Nat.le_refl _
  | y :: b => by
    have := meets_len (x := x) (b := b)
    rw [meets, List.flatMap_cons, List.length_append, ← meets, List.length_cons]
    split <;> simp <;> omega
theorem rns_C {q : Nat → Nat} {L : List Cu} : rns q (L.flatMap encC) = L.flatMap encC := rns_ok (bel_Cs L)
theorem brw_a {a : List Cu} {ver : Nat} {os : List Ob} : brws (.cells ver (a.flatMap encC) :: os) [.buf 0 ver 0 a.length 2] = [slC a] := by
  have hb : Nat.beq ver ver = true := Nat.beq_refl ver
  simp only [brws, brw, getO, hb, List.drop_zero]
  rw [take_C]
  rfl
theorem pcX33 (a b : List Cu) (ha : a.length ≤ 1000000) (hb : b.length ≤ 1000000) (v : V) (hv : (inter8 a b).2 = 0 → v = encLE (inter8 a b)) (hv2 : inter8 a b = ([], 12) → v = .tup [.sl true [] 0, .int .i64 12]) (hbel : ∀ n, v.bel n = true) :
    PC Tryz.prog 33 [slC a, slC b] v := by
  refine PC.walk tok mixed cfg0 Tryz.func33 rfl Tryz.call33 (by simp [belC, bel_Cs, bel_slC, belAll_append, bel_encLE, hbel]) (by first | rfl | simp [belC, bel_Cs, bel_slC, belAll_append, bel_encLE, hbel]) ?_; simp (config := { maxSteps := 2000000 }) -implicitDefEqProofs +contextual (disch := first | assumption | omega | decide +kernel) only [push_cast, ↓capI, br2_true, br2_false, frk_tt, frk_tf, frk_f, frkD_tt, frkD_tf, frkD_f, pk2_true, pk2_false, imp_true, seval, Nat.reduceLeDiff, Nat.reduceEqDiff, reduceCtorEq, ↓reduceIte, reduceCtorEq, encC, cfg0, slC, get_flat_part lenC, get_flat_drop lenC, len_flat lenC, ib_and, ib_or, ib_xor, ib_andNot, w_ofInt, w_eqb, w_eqb0, w_inj, w_zero, w_wrap, BitVec.reduceOfInt, encCB, Tryz.ntmps33]
  refine T.lp tok mixed cfg0 (fun ((i, L) : Nat × List Cu) => dd 1 (kp 1 (dd 4 (sv (.buf 0 L.length 0 L.length 2) (dd 7 (kp 2 (sv (.int .i64 i) (dd 31 (nl))))))))) (fun H0 ((i, L) : Nat × List Cu) => [.cells L.length (L.flatMap encC)]) (fun ((i, L) : Nat × List Cu) => i ≤ a.length ∧ L.length ≤ 1024 ∧ interGo b (a.drop i) L = inter8 a b) (fun ((i, L) : Nat × List Cu) => a.length - i) ((0, [])) ?_ ?_ ?_
  · exact ⟨Nat.zero_le _, Nat.zero_le _, rfl⟩
  · refine (Gn.ownNil (t := 6) (sz := 2) rfl).trans ?_
    exact Gn.canon (J := []) (by first | rfl | (simp [List.append_nil]; done) | (simp [List.append_nil]; rfl)) (by simp [wk, slC, putT, kp, dd, sv, nl]) (by simp [List.length_append]) (by simp [belC, bel_Cs, bel_slC, belAll_append, bel_encLE, hbel, kp, dd, sv, nl]) (by simp [belC, bel_Cs, bel_slC, belAll_append, bel_encLE, hbel])
  rintro ⟨i, L⟩ ⟨hi, hL, hr⟩
  simp (config := { maxSteps := 2000000 }) -implicitDefEqProofs +contextual (disch := first | assumption | omega | decide +kernel) only [push_cast, ↓capI, br2_true, br2_false, frk_tt, frk_tf, frk_f, frkD_tt, frkD_tf, frkD_f, pk2_true, pk2_false, imp_true, seval, Nat.reduceLeDiff, Nat.reduceEqDiff, reduceCtorEq, ↓reduceIte, reduceCtorEq, encC, cfg0, slC, get_flat_part lenC, get_flat_drop lenC, len_flat lenC, ib_and, ib_or, ib_xor, ib_andNot, w_ofInt, w_eqb, w_eqb0, w_inj, w_zero, w_wrap, BitVec.reduceOfInt, encCB]
  refine ⟨fun hlt => ?_, fun hge => ?_⟩
  case refine_2 =>
    rw [List.drop_of_length_le (by omega), interGo] at hr
    rw [hv (by rw [← hr]), ← hr]
    refine endK.gn (Gn.freeze (id := 0) rfl) ?_; refine endK.ret ?_ (by first | rfl | simp [belC, bel_Cs, bel_slC, belAll_append, bel_encLE, hbel]); simp [belC, bel_Cs, bel_slC, belAll_append, bel_encLE, hbel, fzs_ok, imp, lenOK_iff, List.take_of_length_le, evRes, getT, getO, setO, fzs, fz, fzH, Nat.beq, retV, Res.then, ldT, ldR, mkV, getV, tt_56, tt_43, tt_3, tt_4, tt_5, tt_26, tt_25, tt_9, encC, cfg0, slC, get_flat_part lenC, get_flat_drop lenC, len_flat lenC, ib_and, ib_or, ib_xor, ib_andNot, w_ofInt, w_eqb, w_eqb0, w_inj, w_zero, w_wrap, BitVec.reduceOfInt, encCB, Tryz.f33,  encLE, slC, take_flat lenC]
  refine T.lp tok mixed cfg0 (fun ((k, M) : Nat × List Cu) => dd 1 (kp 1 (dd 4 (sv (.buf 0 M.length 0 M.length 2) (dd 1 (kp 1 (dd 5 (kp 3 (dd 3 (kp 2 (sv (.int .i64 k) (dd 25 (nl))))))))))))) (fun H0 ((k, M) : Nat × List Cu) => [.cells M.length (M.flatMap encC), .cells 0 (encC a[i])]) (fun ((k, M) : Nat × List Cu) => k ≤ b.length ∧ M = L ++ meets a[i] (b.take k)) (fun ((k, M) : Nat × List Cu) => b.length - k) ((0, L)) ?_ ?_ ?_
  · exact ⟨Nat.zero_le _, by simp [meets]⟩
  · exact Gn.canon (J := []) (by first | rfl | (simp [List.append_nil]; done) | (simp [List.append_nil]; rfl)) (by simp [wk, slC, putT, kp, dd, sv, nl]) (by simp [List.length_append]) (by simp [belC, bel_Cs, bel_slC, belAll_append, bel_encLE, hbel, kp, dd, sv, nl]) (by simp [belC, bel_Cs, bel_slC, belAll_append, bel_encLE, hbel])
  rintro ⟨k, M⟩ ⟨hk, hM⟩
  have hMl : M.length ≤ 1001024 := by
    have := meets_len (x := a[i]) (b := b.take k)
    rw [hM, List.length_append]
    rw [List.length_take] at this
    omega
  simp (config := { maxSteps := 2000000 }) -implicitDefEqProofs +contextual (disch := first | assumption | omega | decide +kernel) only [push_cast, ↓capI, br2_true, br2_false, frk_tt, frk_tf, frk_f, frkD_tt, frkD_tf, frkD_f, pk2_true, pk2_false, imp_true, seval, Nat.reduceLeDiff, Nat.reduceEqDiff, reduceCtorEq, ↓reduceIte, reduceCtorEq, encC, cfg0, slC, get_flat_part lenC, get_flat_drop lenC, len_flat lenC, ib_and, ib_or, ib_xor, ib_andNot, w_ofInt, w_eqb, w_eqb0, w_inj, w_zero, w_wrap, BitVec.reduceOfInt, encCB]
  refine ⟨fun hlt2 => ?_, fun hge2 => ?_⟩
  · refine callO.pc (pc55 a[i] b[k]) ?_
    have e := meets_take (x := a[i]) hlt2
    cases hm : (meet a[i] b[k]).2
    · rw [hm] at e
      simp (config := { maxSteps := 2000000 }) -implicitDefEqProofs +contextual (disch := first | assumption | omega | decide +kernel) only [push_cast, ↓capI, br2_true, br2_false, frk_tt, frk_tf, frk_f, frkD_tt, frkD_tf, frkD_f, pk2_true, pk2_false, imp_true, seval, Nat.reduceLeDiff, Nat.reduceEqDiff, reduceCtorEq, ↓reduceIte, reduceCtorEq, encC, cfg0, slC, get_flat_part lenC, get_flat_drop lenC, len_flat lenC, ib_and, ib_or, ib_xor, ib_andNot, w_ofInt, w_eqb, w_eqb0, w_inj, w_zero, w_wrap, BitVec.reduceOfInt, encCB, hm]
      refine ⟨(k + 1, M), ⟨by simp only; omega, by simp [hM, e]⟩, by (try simp only); omega, ?_⟩; exact Gn.canon (by first | rfl | (simp [List.append_nil]; rfl)) (by simp [wk, slC]) (by simp [List.length_append]) (by simp [belC, bel_Cs, bel_slC, belAll_append, bel_encLE, hbel]) (by simp [belC, bel_Cs, bel_slC, belAll_append, bel_encLE, hbel])
    · rw [hm] at e
      simp (config := { maxSteps := 2000000 }) -implicitDefEqProofs +contextual (disch := first | assumption | omega | decide +kernel) only [push_cast, ↓capI, br2_true, br2_false, frk_tt, frk_tf, frk_f, frkD_tt, frkD_tf, frkD_f, pk2_true, pk2_false, imp_true, seval, Nat.reduceLeDiff, Nat.reduceEqDiff, reduceCtorEq, ↓reduceIte, reduceCtorEq, encC, cfg0, slC, get_flat_part lenC, get_flat_drop lenC, len_flat lenC, ib_and, ib_or, ib_xor, ib_andNot, w_ofInt, w_eqb, w_eqb0, w_inj, w_zero, w_wrap, BitVec.reduceOfInt, encCB, hm]
      refine ⟨(k + 1, M ++ [(meet a[i] b[k]).1]), ⟨by simp only; omega, by simp [hM, e]⟩, by (try simp only); omega, ?_⟩; exact Gn.canon (by first | rfl | (simp [List.append_nil, encC]; rfl)) (by simp [wk, slC, encC]) (by simp [List.length_append]) (by simp [belC, bel_Cs, bel_slC, belAll_append, bel_encLE, hbel]) (by simp [belC, bel_Cs, bel_slC, belAll_append, bel_encLE, hbel])
  have hMe : M = L ++ meets a[i] b := by rw [hM, List.take_of_length_le (by omega)]
  have hMl2 : M.length ≤ 4000000000 := by omega
  rw [List.drop_eq_getElem_cons hlt, interGo, ← hMe] at hr
  by_cases h : 1024 < (simp8 M).length
  · rw [if_pos h] at hr
    rw [hv2 hr.symm]
    refine callO.lent (J := []) (by rw [List.nil_append, List.append_nil, brw_a]; exact (pcE56 M hMl2 h).toJ rfl) (by rw [List.nil_append, List.append_nil, brw_a]; simp [belAll_cons, belAll_nil, bel_slC]) rfl rfl ?_
    simp (config := { maxSteps := 2000000 }) -implicitDefEqProofs +contextual (disch := first | assumption | omega | decide +kernel) only [push_cast, ↓capI, br2_true, br2_false, frk_tt, frk_tf, frk_f, frkD_tt, frkD_tf, frkD_f, pk2_true, pk2_false, imp_true, seval, Nat.reduceLeDiff, Nat.reduceEqDiff, reduceCtorEq, ↓reduceIte, reduceCtorEq, encC, cfg0, slC, get_flat_part lenC, get_flat_drop lenC, len_flat lenC, ib_and, ib_or, ib_xor, ib_andNot, w_ofInt, w_eqb, w_eqb0, w_inj, w_zero, w_wrap, BitVec.reduceOfInt, encCB, V.sh, shs, shOs]
    refine endK.ret ?_ (by first | rfl | simp [belC, bel_Cs, bel_slC, belAll_append, bel_encLE, hbel]); simp [evRes, getT, retV, Tryz.f33]
  · rw [if_neg h] at hr
    refine callO.lent (by rw [List.nil_append, List.append_nil, brw_a]; exact pcj56 M hMl2 (by omega)) (by rw [List.nil_append, List.append_nil, brw_a]; simp [belAll_cons, belAll_nil, bel_slC]) rfl (by simp [pursO, Ob.pur, pur_C]) ?_
    simp (config := { maxSteps := 2000000 }) -implicitDefEqProofs +contextual (disch := first | assumption | omega | decide +kernel) only [push_cast, ↓capI, br2_true, br2_false, frk_tt, frk_tf, frk_f, frkD_tt, frkD_tf, frkD_f, pk2_true, pk2_false, imp_true, seval, Nat.reduceLeDiff, Nat.reduceEqDiff, reduceCtorEq, ↓reduceIte, reduceCtorEq, encC, cfg0, slC, get_flat_part lenC, get_flat_drop lenC, len_flat lenC, ib_and, ib_or, ib_xor, ib_andNot, w_ofInt, w_eqb, w_eqb0, w_inj, w_zero, w_wrap, BitVec.reduceOfInt, encCB, V.sh, shs, shOs, bufC, Ob.sh, shs_C]
    refine ⟨(i + 1, simp8 M), ⟨by simp only; omega, by simp only; omega, hr⟩, by simp only; omega, (Gn.swap (i := 0) (j := 2) (Nat.zero_le _) (Nat.zero_le _) (by simp) (by simp)).trans ?_⟩
    exact Gn.canon (J := [.cells 0 (encC a[i]), .cells M.length (M.flatMap encC)]) (by simp [swpH, rnOs, setO, getO, Ob.rn, rns_C, encC, rns, V.rn]) (by simp [wk, slC, rns, V.rn, swp, rns_C, Nat.beq]) (by simp) (by simp [belC, bel_Cs, bel_slC, belAll_append, bel_encLE, hbel]) (by simp [belC, bel_Cs, bel_slC, belAll_append, bel_encLE, hbel])
theorem inter8_bad {a b : List Cu} (h : ¬ (inter8 a b).2 = 0) : inter8 a b = ([], 12) := by
  have key : ∀ (xs out : List Cu), ¬ (interGo b xs out).2 = 0 → interGo b xs out = ([], 12) := by
    intro xs
    induction xs with
    | nil => intro out h; exact absurd rfl h
    | cons x xs ih =>
      intro out h
      rw [interGo] at h ⊢
      split
      · rfl
      · rename_i h1
        rw [if_neg h1] at h
        exact ih _ h
  exact key _ _ h
theorem pc33 (a b : List Cu) (ha : a.length ≤ 1000000) (hb : b.length ≤ 1000000) : PC Tryz.prog 33 [slC a, slC b] (encLE (inter8 a b)) := by
  by_cases h : (inter8 a b).2 = 0
  · exact pcX33 a b ha hb _ (fun _ => rfl) (fun e => by rw [e] at h; cases h) (fun _ => bel_encLE)
  · have e := inter8_bad h
    have := PC.laxr (pcX33 a b ha hb (.tup [.sl true [] 0, .int .i64 12]) (fun h1 => absurd h1 h) (fun _ => rfl) (fun _ => rfl))
    rw [e]
    exact this
end Go.Proofs.YtllfdnbnkncnhaaGreatDoor

/- Chapter 8: lists of cubes cut to a width. -/
set_option maxRecDepth 100000
set_option maxHeartbeats 4000000
set_option linter.all false
namespace Go.Proofs.YtllfdnbnkncnhaaGreatDoor
open Go.Vm

theorem pc65 (a : List Cu) (k : Nat) (ha : a.length ≤ 1000000) (h1 : 1 ≤ k) (h2 : k ≤ 64) : PC Tryz.prog 65 [slC a, .int .i64 k] (slC (a.map fun c => cutC c k)) := by
  have hlow := low_shr h2
  refine PC.walk tok mixed cfg0 Tryz.func65 rfl Tryz.call65 (by simp [belC, bel_Cs, bel_slC, belAll_append, bel_encLE]) (by first | rfl | simp [belC, bel_Cs, bel_slC, belAll_append, bel_encLE]) ?_; simp (config := { maxSteps := 2000000 }) -implicitDefEqProofs +contextual (disch := first | assumption | omega | decide +kernel) only [push_cast, ↓capI, br2_true, br2_false, frk_tt, frk_tf, frk_f, frkD_tt, frkD_tf, frkD_f, pk2_true, pk2_false, imp_true, seval, Nat.reduceLeDiff, Nat.reduceEqDiff, reduceCtorEq, ↓reduceIte, reduceCtorEq, encC, cfg0, slC, get_flat_part lenC, get_flat_drop lenC, len_flat lenC, ib_and, ib_or, ib_xor, ib_andNot, w_ofInt, w_eqb, w_eqb0, w_inj, w_zero, w_wrap, BitVec.reduceOfInt, Tryz.ntmps65]
  refine T.lp tok mixed cfg0 (fun ((i, L) : Nat × List Cu) => dd 5 (sv (.int .u64 (low k).toNat) (sv (.buf 0 L.length 0 L.length 2) (dd 6 (kp 2 (sv (.int .i64 i) (dd 18 (nl)))))))) (fun H0 ((i, L) : Nat × List Cu) => [.cells L.length (L.flatMap encC)]) (fun ((i, L) : Nat × List Cu) => i ≤ a.length ∧ L = (a.take i).map (fun c => cutC c k)) (fun ((i, L) : Nat × List Cu) => a.length - i) ((0, [])) ?_ ?_ ?_
  · exact ⟨Nat.zero_le _, rfl⟩
  · refine (Gn.ownNil (t := 6) (sz := 2) rfl).trans ?_
    exact Gn.canon (J := []) rfl (by simp [wk, putT, kp, dd, sv, nl, hlow]) (by simp) (by simp [belC, bel_Cs, bel_slC, belAll_append, bel_encLE, kp, dd, sv, nl]) (by simp [belC, bel_Cs, bel_slC, belAll_append, bel_encLE])
  rintro ⟨i, L⟩ ⟨hi, hL⟩
  have hlen : L.length ≤ i := by rw [hL, List.length_map, List.length_take]; omega
  simp (config := { maxSteps := 2000000 }) -implicitDefEqProofs +contextual (disch := first | assumption | omega | decide +kernel) only [push_cast, ↓capI, br2_true, br2_false, frk_tt, frk_tf, frk_f, frkD_tt, frkD_tf, frkD_f, pk2_true, pk2_false, imp_true, seval, Nat.reduceLeDiff, Nat.reduceEqDiff, reduceCtorEq, ↓reduceIte, reduceCtorEq, encC, cfg0, slC, get_flat_part lenC, get_flat_drop lenC, len_flat lenC, ib_and, ib_or, ib_xor, ib_andNot, w_ofInt, w_eqb, w_eqb0, w_inj, w_zero, w_wrap, BitVec.reduceOfInt]
  refine ⟨fun hlt => ?_, fun hge => ?_⟩
  · refine ⟨(i + 1, L ++ [cutC a[i] k]), ⟨by simp only; omega, by rw [List.take_succ_eq_append_getElem hlt, List.map_append, hL]; rfl⟩, by (try simp only); omega, ?_⟩; exact Gn.canon (by first | rfl | (simp [List.append_nil, cutC, encC]; rfl)) (by simp [wk, slC, cutC, encC]) (by simp [List.length_append]) (by simp [belC, bel_Cs, bel_slC, belAll_append, bel_encLE]) (by simp [belC, bel_Cs, bel_slC, belAll_append, bel_encLE])
  · have e : L = a.map fun c => cutC c k := by rw [hL, List.take_of_length_le (by omega)]
    have e2 : L.length = a.length := by rw [e, List.length_map]
    refine endK.gn (Gn.freeze (id := 0) rfl) ?_; refine endK.ret ?_ (by first | rfl | simp [belC, bel_Cs, bel_slC, belAll_append, bel_encLE]); simp [belC, bel_Cs, bel_slC, belAll_append, bel_encLE, fzs_ok, imp, lenOK_iff, List.take_of_length_le, evRes, getT, getO, setO, fzs, fz, fzH, Nat.beq, retV, Res.then, ldT, ldR, mkV, getV, tt_56, tt_43, tt_3, tt_4, tt_5, tt_26, tt_25, tt_9, encC, cfg0, slC, get_flat_part lenC, get_flat_drop lenC, len_flat lenC, ib_and, ib_or, ib_xor, ib_andNot, w_ofInt, w_eqb, w_eqb0, w_inj, w_zero, w_wrap, BitVec.reduceOfInt, Tryz.f65,  slC, ← e, e2, take_flat lenC]
end Go.Proofs.YtllfdnbnkncnhaaGreatDoor

/- Chapter 8: what simplified lists are, in plain words. -/
set_option maxRecDepth 100000
set_option maxHeartbeats 4000000
set_option linter.all false
namespace Go.Proofs.YtllfdnbnkncnhaaGreatDoor
open Go.Vm

theorem canon_canon {c : Cu} : canon (canon c) = canon c := by
  simp only [canon, BitVec.and_assoc, BitVec.and_self]
theorem sub_canon {a b : Cu} : sub (canon a) (canon b) = sub a b := by
  rw [Bool.eq_iff_iff, sub_iff, sub_iff]
  refine forall_congr' fun j => forall_congr' fun hj => forall_congr' fun hb => and_congr_right fun ha => ?_
  simp only [canon] at ha hb ⊢
  simp only [BitVec.getLsbD_and, BitVec.getLsbD_or, BitVec.getLsbD_not, BitVec.getLsbD_zero, BitVec.getLsbD_xor, decide_true, Bool.true_and, ha, hb, Bool.and_true]
theorem cat_canon {l : List Cu} {k : Nat} : cat (l.map canon) k = canon (cat l k) := by
  simp only [cat, List.getD_eq_getElem?_getD, List.getElem?_map]
  cases l[k]? <;> rfl
theorem redund_canon {l : List Cu} {i : Nat} : redund (l.map canon) i = redund l i := by
  have e : makes (l.map canon) i = makes l i := by
    funext k
    simp only [makes, cat_canon, sub_canon]
  rw [redund, redund, e, List.length_map]
theorem simpTo_canon {l : List Cu} : ∀ {j : Nat}, simpTo (l.map canon) j = simpTo l j
  | 0 => rfl
  | j + 1 => by rw [simpTo, simpTo, simpTo_canon, redund_canon, cat_canon, canon_canon]
theorem simp8_canon {l : List Cu} : simp8 (l.map canon) = simp8 l := by rw [simp8, simp8, List.length_map, simpTo_canon]
def cut0 (k : Nat) (c : Cu) : Cu := ⟨c.v, c.m &&& low k⟩
theorem canon_cut0 {c : Cu} {k : Nat} : canon (cut0 k c) = cutC c k := rfl
theorem simp8_cut0 {l : List Cu} {k : Nat} : simp8 (l.map (cut0 k)) = simp8 (l.map fun c => cutC c k) := by
  rw [← simp8_canon (l := l.map (cut0 k)), List.map_map]
  rfl
end Go.Proofs.YtllfdnbnkncnhaaGreatDoor

/- Chapter 8: differences of lists of cubes. -/
set_option maxRecDepth 100000
set_option maxHeartbeats 4000000
set_option linter.all false
namespace Go.Proofs.YtllfdnbnkncnhaaGreatDoor
open Go.Vm

def outs (l : List Cu) (y : Cu) (k : Nat) : List Cu := l.flatMap fun x => subL x y k
def subt8Go (k : Nat) : List Cu → List Cu → List Cu × Int
  | [], l => (l, 0)
  | y :: ys, l => if 1024 < (simp8 (outs l y k)).length then ([], 12) else subt8Go k ys (simp8 (outs l y k))
def subt8 (a b : List Cu) (w : Int) : List Cu × Int :=
  if okW w = true then (if 1024 < (simp8 (a.map fun c => cutC c w.toNat)).length then ([], 12) else subt8Go w.toNat b (simp8 (a.map fun c => cutC c w.toNat))) else ([], 10)
theorem outs_take {l : List Cu} {y : Cu} {k j : Nat} (h : j < l.length) : outs (l.take (j + 1)) y k = outs (l.take j) y k ++ subL l[j] y k := by
  rw [List.take_succ_eq_append_getElem h, outs, List.flatMap_append, ← outs]
  simp
theorem outs_len {y : Cu} {k : Nat} : ∀ {l : List Cu}, (outs l y k).length ≤ l.length * 64
  | [] => Nat.le_refl _
  | x :: l => by
    have := outs_len (y := y) (k := k) (l := l)
    have h := subL_len (a := x) (b := y) (w := k)
    rw [outs, List.flatMap_cons, List.length_append, ← outs, List.length_cons]
    omega
theorem putV_all : ∀ (l cs : List V), l.length = cs.length → putV l 0 cs = cs
  | [], [], _ => rfl
  | x :: l, c :: cs, h => by simp only [putV, putV_all l cs (by simpa using h)]
  | [], c :: cs, h => by simp at h
  | x :: l, [], h => by simp at h
theorem put_zC {D : List Cu} (h : D.length ≤ 64) : putV (zerosC.flatMap encC) 0 (D.flatMap encC) = D.flatMap encC ++ (zerosC.drop D.length).flatMap encC := by
  have e : zerosC.flatMap encC = (zerosC.take D.length).flatMap encC ++ (zerosC.drop D.length).flatMap encC := by rw [← List.flatMap_append, List.take_append_drop]
  have hl : ((zerosC.take D.length).flatMap encC).length = (D.flatMap encC).length := by rw [len_flat lenC, len_flat lenC, List.length_take, zerosC_len]; congr 1; omega
  rw [e, putV_left _ _ _ _ (by omega)]
  congr 1
  exact putV_all _ _ hl
theorem len_zC {D : List Cu} (h : D.length ≤ 64) : (D.flatMap encC ++ (zerosC.drop D.length).flatMap encC).length = 128 := by
  rw [List.length_append, len_flat lenC, len_flat lenC, List.length_drop, zerosC_len]; omega
theorem take_zC {D : List Cu} : (D.flatMap encC ++ (zerosC.drop D.length).flatMap encC).take (D.length * 2) = D.flatMap encC := by
  rw [List.take_append_of_le_length (by rw [len_flat lenC]; exact Nat.le_refl _), take_C]
theorem brw_1 {o : Ob} {a : List Cu} {ver : Nat} {os : List Ob} : brws (o :: .cells ver (a.flatMap encC) :: os) [.buf 1 ver 0 a.length 2] = [slC a] := by
  have hb : Nat.beq ver ver = true := Nat.beq_refl ver
  simp only [brws, brw, getO, hb, List.drop_zero]
  rw [take_C]
  rfl
theorem pcX54 (a b : List Cu) (k : Nat) (h1 : 1 ≤ k) (h2 : k ≤ 64) (ha : a.length ≤ 1000000) (hb : b.length ≤ 1000000) (v : V) (hv : (subt8 a b k).2 = 0 → v = encLE (subt8 a b k)) (hv2 : subt8 a b k = ([], 12) → v = .tup [.sl true [] 0, .int .i64 12]) (hbel : ∀ n, v.bel n = true) :
    PC Tryz.prog 54 [slC a, slC b, .int .i64 k] v := by
  have hw : okW (k : Int) = true := by simp only [okW, Bool.and_eq_true, decide_eq_true_eq]; omega
  have e0 : subt8 a b k = if 1024 < (simp8 (a.map fun c => cutC c k)).length then ([], 12) else subt8Go k b (simp8 (a.map fun c => cutC c k)) := by simp [subt8, hw]
  have hn1 : ¬ (k : Int) < 1 := by omega
  have hn2 : ¬ 64 < (k : Int) := by omega
  have hml : (a.map fun c => cutC c k).length ≤ 4000000000 := by rw [List.length_map]; omega
  by_cases h0 : 1024 < (simp8 (a.map fun c => cutC c k)).length
  · rw [if_pos h0] at e0
    rw [hv2 e0]
    refine PC.walk tok mixed cfg0 Tryz.func54 rfl Tryz.call54 (by simp [belC, bel_Cs, bel_slC, belAll_append, bel_encLE, hbel]) (by first | rfl | simp [belC, bel_Cs, bel_slC, belAll_append, bel_encLE, hbel]) ?_; simp (config := { maxSteps := 2000000 }) -implicitDefEqProofs +contextual (disch := first | assumption | omega | decide +kernel) only [push_cast, ↓capI, br2_true, br2_false, frk_tt, frk_tf, frk_f, frkD_tt, frkD_tf, frkD_f, pk2_true, pk2_false, imp_true, seval, Nat.reduceLeDiff, Nat.reduceEqDiff, reduceCtorEq, ↓reduceIte, reduceCtorEq, encC, cfg0, slC, get_flat_part lenC, get_flat_drop lenC, len_flat lenC, ib_and, ib_or, ib_xor, ib_andNot, w_ofInt, w_eqb, w_eqb0, w_inj, w_zero, w_wrap, BitVec.reduceOfInt, encLE, zeros_C, Tryz.ntmps54]
    refine callO.pc (pc65 a k ha h1 h2) ?_
    generalize (a.map fun c => cutC c k) = l0 at e0 hml h0 ⊢
    simp (config := { maxSteps := 2000000 }) -implicitDefEqProofs +contextual (disch := first | assumption | omega | decide +kernel) only [push_cast, ↓capI, br2_true, br2_false, frk_tt, frk_tf, frk_f, frkD_tt, frkD_tf, frkD_f, pk2_true, pk2_false, imp_true, seval, Nat.reduceLeDiff, Nat.reduceEqDiff, reduceCtorEq, ↓reduceIte, reduceCtorEq, encC, cfg0, slC, get_flat_part lenC, get_flat_drop lenC, len_flat lenC, ib_and, ib_or, ib_xor, ib_andNot, w_ofInt, w_eqb, w_eqb0, w_inj, w_zero, w_wrap, BitVec.reduceOfInt, encLE, zeros_C]
    refine callO.pc (pc56 l0 hml) ?_
    rw [fin8, if_pos h0]
    simp (config := { maxSteps := 2000000 }) -implicitDefEqProofs +contextual (disch := first | assumption | omega | decide +kernel) only [push_cast, ↓capI, br2_true, br2_false, frk_tt, frk_tf, frk_f, frkD_tt, frkD_tf, frkD_f, pk2_true, pk2_false, imp_true, seval, Nat.reduceLeDiff, Nat.reduceEqDiff, reduceCtorEq, ↓reduceIte, reduceCtorEq, encC, cfg0, slC, get_flat_part lenC, get_flat_drop lenC, len_flat lenC, ib_and, ib_or, ib_xor, ib_andNot, w_ofInt, w_eqb, w_eqb0, w_inj, w_zero, w_wrap, BitVec.reduceOfInt, encLE, zeros_C]
    refine endK.ret ?_ (by first | rfl | simp [belC, bel_Cs, bel_slC, belAll_append, bel_encLE, hbel]); simp [evRes, getT, retV, Tryz.f54]
  refine PC.walk tok mixed cfg0 Tryz.func54 rfl Tryz.call54 (by simp [belC, bel_Cs, bel_slC, belAll_append, bel_encLE, hbel]) (by first | rfl | simp [belC, bel_Cs, bel_slC, belAll_append, bel_encLE, hbel]) ?_; simp (config := { maxSteps := 2000000 }) -implicitDefEqProofs +contextual (disch := first | assumption | omega | decide +kernel) only [push_cast, ↓capI, br2_true, br2_false, frk_tt, frk_tf, frk_f, frkD_tt, frkD_tf, frkD_f, pk2_true, pk2_false, imp_true, seval, Nat.reduceLeDiff, Nat.reduceEqDiff, reduceCtorEq, ↓reduceIte, reduceCtorEq, encC, cfg0, slC, get_flat_part lenC, get_flat_drop lenC, len_flat lenC, ib_and, ib_or, ib_xor, ib_andNot, w_ofInt, w_eqb, w_eqb0, w_inj, w_zero, w_wrap, BitVec.reduceOfInt, encLE, zeros_C, Tryz.ntmps54]
  refine callO.pc (pc65 a k ha h1 h2) ?_
  generalize (a.map fun c => cutC c k) = l0 at e0 hml h0 ⊢
  simp (config := { maxSteps := 2000000 }) -implicitDefEqProofs +contextual (disch := first | assumption | omega | decide +kernel) only [push_cast, ↓capI, br2_true, br2_false, frk_tt, frk_tf, frk_f, frkD_tt, frkD_tf, frkD_f, pk2_true, pk2_false, imp_true, seval, Nat.reduceLeDiff, Nat.reduceEqDiff, reduceCtorEq, ↓reduceIte, reduceCtorEq, encC, cfg0, slC, get_flat_part lenC, get_flat_drop lenC, len_flat lenC, ib_and, ib_or, ib_xor, ib_andNot, w_ofInt, w_eqb, w_eqb0, w_inj, w_zero, w_wrap, BitVec.reduceOfInt, encLE, zeros_C]
  refine callO.pc (pc56 l0 hml) ?_
  rw [if_neg h0] at e0
  rw [fin8, if_neg h0]
  simp (config := { maxSteps := 2000000 }) -implicitDefEqProofs +contextual (disch := first | assumption | omega | decide +kernel) only [push_cast, ↓capI, br2_true, br2_false, frk_tt, frk_tf, frk_f, frkD_tt, frkD_tf, frkD_f, pk2_true, pk2_false, imp_true, seval, Nat.reduceLeDiff, Nat.reduceEqDiff, reduceCtorEq, ↓reduceIte, reduceCtorEq, encC, cfg0, slC, get_flat_part lenC, get_flat_drop lenC, len_flat lenC, ib_and, ib_or, ib_xor, ib_andNot, w_ofInt, w_eqb, w_eqb0, w_inj, w_zero, w_wrap, BitVec.reduceOfInt, encLE, zeros_C]
  refine T.lp tok mixed cfg0 (fun ((i, L) : Nat × List Cu) => dd 2 (kp 1 (dd 5 (sv (slC L) (dd 24 (kp 2 (sv (.int .i64 i) (dd 31 (nl))))))))) (fun H0 ((i, L) : Nat × List Cu) => H0) (fun ((i, L) : Nat × List Cu) => i ≤ b.length ∧ L.length ≤ 1024 ∧ subt8Go k (b.drop i) L = subt8 a b k) (fun ((i, L) : Nat × List Cu) => b.length - i) ((0, simp8 l0)) ?_ ?_ ?_
  · exact ⟨Nat.zero_le _, by (try simp only); omega, e0.symm⟩
  · exact Gn.canon (J := []) (by first | rfl | (simp [List.append_nil]; done) | (simp [List.append_nil]; rfl)) (by simp [wk, slC, putT, kp, dd, sv, nl]) (by simp [List.length_append]) (by simp [belC, bel_Cs, bel_slC, belAll_append, bel_encLE, hbel, kp, dd, sv, nl]) (by simp [belC, bel_Cs, bel_slC, belAll_append, bel_encLE, hbel])
  rintro ⟨i, L⟩ ⟨hi, hL, hr⟩
  simp (config := { maxSteps := 2000000 }) -implicitDefEqProofs +contextual (disch := first | assumption | omega | decide +kernel) only [push_cast, ↓capI, br2_true, br2_false, frk_tt, frk_tf, frk_f, frkD_tt, frkD_tf, frkD_f, pk2_true, pk2_false, imp_true, seval, Nat.reduceLeDiff, Nat.reduceEqDiff, reduceCtorEq, ↓reduceIte, reduceCtorEq, encC, cfg0, slC, get_flat_part lenC, get_flat_drop lenC, len_flat lenC, ib_and, ib_or, ib_xor, ib_andNot, w_ofInt, w_eqb, w_eqb0, w_inj, w_zero, w_wrap, BitVec.reduceOfInt, encLE, zeros_C]
  refine ⟨fun hlt => ?_, fun hge => ?_⟩
  case refine_2 =>
    rw [List.drop_of_length_le (by omega), subt8Go] at hr
    rw [hv (by rw [← hr]), ← hr]
    refine endK.ret ?_ (by first | rfl | simp [belC, bel_Cs, bel_slC, belAll_append, bel_encLE, hbel]); simp [belC, bel_Cs, bel_slC, belAll_append, bel_encLE, hbel, fzs_ok, imp, lenOK_iff, List.take_of_length_le, evRes, getT, getO, setO, fzs, fz, fzH, Nat.beq, retV, Res.then, ldT, ldR, mkV, getV, tt_56, tt_43, tt_3, tt_4, tt_5, tt_26, tt_25, tt_9, tt_93, encC, cfg0, slC, get_flat_part lenC, get_flat_drop lenC, len_flat lenC, ib_and, ib_or, ib_xor, ib_andNot, w_ofInt, w_eqb, w_eqb0, w_inj, w_zero, w_wrap, BitVec.reduceOfInt, encLE, zeros_C, Tryz.f54,  encLE, slC, take_flat lenC]
  refine T.lp tok mixed cfg0 (fun ((j, M) : Nat × List Cu) => dd 2 (kp 1 (dd 8 (kp 1 (sv (.buf 1 j 0 M.length 2) (dd 20 (kp 3 (dd 3 (kp 2 (sv (.int .i64 j) (dd 25 (nl)))))))))))) (fun H0 ((j, M) : Nat × List Cu) => [.cells 0 (encC b[i]), .cells j (M.flatMap encC)]) (fun ((j, M) : Nat × List Cu) => j ≤ L.length ∧ M = outs (L.take j) b[i] k) (fun ((j, M) : Nat × List Cu) => L.length - j) ((0, [])) ?_ ?_ ?_
  · exact ⟨Nat.zero_le _, rfl⟩
  · refine (Gn.ownNil (t := 12) (sz := 2) rfl).trans ?_
    exact Gn.canon (J := []) (by first | rfl | (simp [List.append_nil]; done) | (simp [List.append_nil]; rfl)) (by simp [wk, slC, putT, kp, dd, sv, nl]) (by simp [List.length_append]) (by simp [belC, bel_Cs, bel_slC, belAll_append, bel_encLE, hbel, kp, dd, sv, nl]) (by simp [belC, bel_Cs, bel_slC, belAll_append, bel_encLE, hbel])
  rintro ⟨j, M⟩ ⟨hj, hM⟩
  have hMl : M.length ≤ 65536 := by
    have := outs_len (y := b[i]) (k := k) (l := L.take j)
    rw [hM]
    rw [List.length_take] at this
    omega
  simp (config := { maxSteps := 2000000 }) -implicitDefEqProofs +contextual (disch := first | assumption | omega | decide +kernel) only [push_cast, ↓capI, br2_true, br2_false, frk_tt, frk_tf, frk_f, frkD_tt, frkD_tf, frkD_f, pk2_true, pk2_false, imp_true, seval, Nat.reduceLeDiff, Nat.reduceEqDiff, reduceCtorEq, ↓reduceIte, reduceCtorEq, encC, cfg0, slC, get_flat_part lenC, get_flat_drop lenC, len_flat lenC, ib_and, ib_or, ib_xor, ib_andNot, w_ofInt, w_eqb, w_eqb0, w_inj, w_zero, w_wrap, BitVec.reduceOfInt, encLE, zeros_C]
  refine ⟨fun hlt2 => ?_, fun hge2 => ?_⟩
  · refine callG.pc1 (pc66 L[j] b[i] k) ?_
    have hD := subL_len (a := L[j]) (b := b[i]) (w := k)
    have e := outs_take (y := b[i]) (k := k) hlt2
    generalize subL L[j] b[i] (k : Int) = D at hD e ⊢
    have hmin : min D.length 64 = D.length := by omega
    have hz := put_zC hD
    have hzl := len_zC hD
    have hle : M.length + D.length ≤ 68719476736 := by omega
    simp (config := { maxSteps := 2000000 }) -implicitDefEqProofs +contextual (disch := first | assumption | omega | decide +kernel) only [push_cast, ↓capI, br2_true, br2_false, frk_tt, frk_tf, frk_f, frkD_tt, frkD_tf, frkD_f, pk2_true, pk2_false, imp_true, seval, Nat.reduceLeDiff, Nat.reduceEqDiff, reduceCtorEq, ↓reduceIte, reduceCtorEq, encC, cfg0, slC, get_flat_part lenC, get_flat_drop lenC, len_flat lenC, ib_and, ib_or, ib_xor, ib_andNot, w_ofInt, w_eqb, w_eqb0, w_inj, w_zero, w_wrap, BitVec.reduceOfInt, encLE, zeros_C, take_C, hmin, hz, hzl, take_zC, ones_C, Nat.sub_zero, hle]
    refine ⟨(j + 1, M ++ D), ⟨by simp only; omega, by simp [hM, e]⟩, by (try simp only); omega, ?_⟩; exact Gn.canon (by first | rfl | (simp [List.append_nil, encC]; rfl)) (by simp [wk, slC, encC]) (by simp [List.length_append]) (by simp [belC, bel_Cs, bel_slC, belAll_append, bel_encLE, hbel]) (by simp [belC, bel_Cs, bel_slC, belAll_append, bel_encLE, hbel])
  have hMe : M = outs L b[i] k := by rw [hM, List.take_of_length_le (by omega)]
  have hMl2 : M.length ≤ 4000000000 := by omega
  rw [List.drop_eq_getElem_cons hlt, subt8Go, ← hMe] at hr
  by_cases h : 1024 < (simp8 M).length
  · rw [if_pos h] at hr
    rw [hv2 hr.symm]
    refine callO.lent (J := []) (by rw [List.nil_append, List.append_nil, brw_1]; exact (pcE56 M hMl2 h).toJ rfl) (by rw [List.nil_append, List.append_nil, brw_1]; simp [belAll_cons, belAll_nil, bel_slC]) rfl rfl ?_
    simp (config := { maxSteps := 2000000 }) -implicitDefEqProofs +contextual (disch := first | assumption | omega | decide +kernel) only [push_cast, ↓capI, br2_true, br2_false, frk_tt, frk_tf, frk_f, frkD_tt, frkD_tf, frkD_f, pk2_true, pk2_false, imp_true, seval, Nat.reduceLeDiff, Nat.reduceEqDiff, reduceCtorEq, ↓reduceIte, reduceCtorEq, encC, cfg0, slC, get_flat_part lenC, get_flat_drop lenC, len_flat lenC, ib_and, ib_or, ib_xor, ib_andNot, w_ofInt, w_eqb, w_eqb0, w_inj, w_zero, w_wrap, BitVec.reduceOfInt, encLE, zeros_C, V.sh, shs, shOs]
    refine endK.ret ?_ (by first | rfl | simp [belC, bel_Cs, bel_slC, belAll_append, bel_encLE, hbel]); simp [evRes, getT, retV, Tryz.f54]
  · rw [if_neg h] at hr
    refine callO.lent (by rw [List.nil_append, List.append_nil, brw_1]; exact pcj56 M hMl2 (by omega)) (by rw [List.nil_append, List.append_nil, brw_1]; simp [belAll_cons, belAll_nil, bel_slC]) rfl (by simp [pursO, Ob.pur, pur_C]) ?_
    simp (config := { maxSteps := 2000000 }) -implicitDefEqProofs +contextual (disch := first | assumption | omega | decide +kernel) only [push_cast, ↓capI, br2_true, br2_false, frk_tt, frk_tf, frk_f, frkD_tt, frkD_tf, frkD_f, pk2_true, pk2_false, imp_true, seval, Nat.reduceLeDiff, Nat.reduceEqDiff, reduceCtorEq, ↓reduceIte, reduceCtorEq, encC, cfg0, slC, get_flat_part lenC, get_flat_drop lenC, len_flat lenC, ib_and, ib_or, ib_xor, ib_andNot, w_ofInt, w_eqb, w_eqb0, w_inj, w_zero, w_wrap, BitVec.reduceOfInt, encLE, zeros_C, V.sh, shs, shOs, bufC, Ob.sh, shs_C]
    refine ⟨(i + 1, simp8 M), ⟨by (try simp only); omega, by (try simp only); omega, hr⟩, by (try simp only); omega, ?_⟩; refine (Gn.freeze (id := 2) rfl).trans ?_; exact Gn.canon (by first | rfl | (simp [List.append_nil, fzs, fz, fzs_ok, fzH, setO, getO, Nat.beq, List.take_of_length_le, belC, bel_Cs, bel_slC, belAll_append, bel_encLE, hbel, take_C]; done) | (simp [List.append_nil, fzs, fz, fzs_ok, fzH, setO, getO, Nat.beq, List.take_of_length_le, belC, bel_Cs, bel_slC, belAll_append, bel_encLE, hbel, take_C]; rfl)) (by simp [wk, slC, fzs, fz, fzs_ok, fzH, setO, getO, Nat.beq, List.take_of_length_le, belC, bel_Cs, bel_slC, belAll_append, bel_encLE, hbel, take_C, tt_56, tt_43, tt_3, tt_4, tt_5, tt_26, tt_25, tt_9, tt_93, encC, cfg0, slC, get_flat_part lenC, get_flat_drop lenC, len_flat lenC, ib_and, ib_or, ib_xor, ib_andNot, w_ofInt, w_eqb, w_eqb0, w_inj, w_zero, w_wrap, BitVec.reduceOfInt, encLE, zeros_C]) (by simp [List.length_append]) (by simp [belC, bel_Cs, bel_slC, belAll_append, bel_encLE, hbel]) (by simp [belC, bel_Cs, bel_slC, belAll_append, bel_encLE, hbel])
theorem subt8_bad {a b : List Cu} {k : Nat} (h1 : 1 ≤ k) (h2 : k ≤ 64) (h : ¬ (subt8 a b k).2 = 0) : subt8 a b k = ([], 12) := by
  have key : ∀ (ys l : List Cu), ¬ (subt8Go k ys l).2 = 0 → subt8Go k ys l = ([], 12) := by
    intro ys
    induction ys with
    | nil => intro out h; exact absurd rfl h
    | cons y ys ih =>
      intro out h
      rw [subt8Go] at h ⊢
      split
      · rfl
      · rename_i h1
        rw [if_neg h1] at h
        exact ih _ h
  have hw : okW (k : Int) = true := by simp only [okW, Bool.and_eq_true, decide_eq_true_eq]; omega
  rw [subt8, if_pos hw] at h ⊢
  split
  · rfl
  · rename_i h1
    rw [if_neg h1] at h
    exact key _ _ h
theorem okW_not {w : Int} (h : ¬ okW w = true) : w < 1 ∨ 64 < w := by
  simp only [okW, Bool.and_eq_true, decide_eq_true_eq] at h
  omega
theorem pc54 (a b : List Cu) (w : Int) (ha : a.length ≤ 1000000) (hb : b.length ≤ 1000000) : PC Tryz.prog 54 [slC a, slC b, .int .i64 w] (encLE (subt8 a b w)) := by
  by_cases hw : okW w = true
  · obtain ⟨k, rfl, h1, h2⟩ := okW_nat hw
    by_cases h : (subt8 a b k).2 = 0
    · exact pcX54 a b k h1 h2 ha hb _ (fun _ => rfl) (fun e => by rw [e] at h; cases h) (fun _ => bel_encLE)
    · have e := subt8_bad h1 h2 h
      have := PC.laxr (pcX54 a b k h1 h2 ha hb (.tup [.sl true [] 0, .int .i64 12]) (fun h1 => absurd h1 h) (fun _ => rfl) (fun _ => rfl))
      rw [e]
      exact this
  · have e : subt8 a b w = ([], 10) := by simp [subt8, hw]
    rw [e]
    refine PC.laxr (v := .tup [.sl true [] 0, .int .i64 10]) ?_
    have hw' := okW_not hw
    have hbel := True.intro
    by_cases h1 : w < 1
    · refine PC.walk tok mixed cfg0 Tryz.func54 rfl Tryz.call54 (by simp [belC, bel_Cs, bel_slC, belAll_append, bel_encLE, hbel]) (by first | rfl | simp [belC, bel_Cs, bel_slC, belAll_append, bel_encLE, hbel]) ?_; simp (config := { maxSteps := 2000000 }) -implicitDefEqProofs +contextual (disch := first | assumption | omega | decide +kernel) only [push_cast, ↓capI, br2_true, br2_false, frk_tt, frk_tf, frk_f, frkD_tt, frkD_tf, frkD_f, pk2_true, pk2_false, imp_true, seval, Nat.reduceLeDiff, Nat.reduceEqDiff, reduceCtorEq, ↓reduceIte, reduceCtorEq, encC, cfg0, slC, get_flat_part lenC, get_flat_drop lenC, len_flat lenC, ib_and, ib_or, ib_xor, ib_andNot, w_ofInt, w_eqb, w_eqb0, w_inj, w_zero, w_wrap, BitVec.reduceOfInt, encLE, zeros_C, Tryz.ntmps54]
      refine endK.ret ?_ (by first | rfl | simp [belC, bel_Cs, bel_slC, belAll_append, bel_encLE, hbel]); simp [evRes, getT, retV, Tryz.f54]
    · have h2 : 64 < w := by omega
      refine PC.walk tok mixed cfg0 Tryz.func54 rfl Tryz.call54 (by simp [belC, bel_Cs, bel_slC, belAll_append, bel_encLE, hbel]) (by first | rfl | simp [belC, bel_Cs, bel_slC, belAll_append, bel_encLE, hbel]) ?_; simp (config := { maxSteps := 2000000 }) -implicitDefEqProofs +contextual (disch := first | assumption | omega | decide +kernel) only [push_cast, ↓capI, br2_true, br2_false, frk_tt, frk_tf, frk_f, frkD_tt, frkD_tf, frkD_f, pk2_true, pk2_false, imp_true, seval, Nat.reduceLeDiff, Nat.reduceEqDiff, reduceCtorEq, ↓reduceIte, reduceCtorEq, encC, cfg0, slC, get_flat_part lenC, get_flat_drop lenC, len_flat lenC, ib_and, ib_or, ib_xor, ib_andNot, w_ofInt, w_eqb, w_eqb0, w_inj, w_zero, w_wrap, BitVec.reduceOfInt, encLE, zeros_C, Tryz.ntmps54]
      refine endK.ret ?_ (by first | rfl | simp [belC, bel_Cs, bel_slC, belAll_append, bel_encLE, hbel]); simp [evRes, getT, retV, Tryz.f54]
end Go.Proofs.YtllfdnbnkncnhaaGreatDoor

/- Chapter 8 in chapter 44: complements. -/
set_option maxRecDepth 100000
set_option maxHeartbeats 4000000
set_option linter.all false
namespace Go.Proofs.YtllfdnbnkncnhaaGreatDoor
open Go.Vm

def compl8 (b : List Cu) (w : Int) : List Cu × Int := subt8 [⟨0#64, 0#64⟩] b w
theorem pc32 (b : List Cu) (w : Int) (hb : b.length ≤ 1000000) : PC Tryz.prog 32 [slC b, .int .i64 w] (encLE (compl8 b w)) := by
  refine PC.walk tok mixed cfg0 Tryz.func32 rfl Tryz.call32 (by simp [belC, bel_Cs, bel_slC, belAll_append, bel_encLE]) (by first | rfl | simp [belC, bel_Cs, bel_slC, belAll_append, bel_encLE]) ?_; simp (config := { maxSteps := 2000000 }) -implicitDefEqProofs +contextual (disch := first | assumption | omega | decide +kernel) only [push_cast, ↓capI, br2_true, br2_false, frk_tt, frk_tf, frk_f, frkD_tt, frkD_tf, frkD_f, pk2_true, pk2_false, imp_true, seval, Nat.reduceLeDiff, Nat.reduceEqDiff, reduceCtorEq, ↓reduceIte, reduceCtorEq, encC, cfg0, slC, get_flat_part lenC, get_flat_drop lenC, len_flat lenC, encLE, Tryz.ntmps32]
  refine callO.pc (pc54 [⟨0#64, 0#64⟩] b w (by decide) hb) ?_
  simp (config := { maxSteps := 2000000 }) -implicitDefEqProofs +contextual (disch := first | assumption | omega | decide +kernel) only [push_cast, ↓capI, br2_true, br2_false, frk_tt, frk_tf, frk_f, frkD_tt, frkD_tf, frkD_f, pk2_true, pk2_false, imp_true, seval, Nat.reduceLeDiff, Nat.reduceEqDiff, reduceCtorEq, ↓reduceIte, reduceCtorEq, encC, cfg0, slC, get_flat_part lenC, get_flat_drop lenC, len_flat lenC, encLE]
  refine endK.ret ?_ (by first | rfl | simp [belC, bel_Cs, bel_slC, belAll_append, bel_encLE]); simp [evRes, getT, retV, Tryz.f32,  encLE, slC, compl8]
end Go.Proofs.YtllfdnbnkncnhaaGreatDoor


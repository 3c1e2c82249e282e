/-
  Joined by a program from the texts Types Base Bits Scan Nod Bld Chk Lg.
-/
import Derived.Test.YtginpkchjeooeaaDoorProg
import Derived.KernelRfl
import Derived.Test.YtginpkchjeooeaaDoorVm5
import Derived.Test.YtginpkchjeooeaaDoorVm4
import Derived.Test.YtginpkchjeooeaaDoorVm6
import Derived.Test.YtginpkchjeooeaaDoorVm7
/- The table of types of this program, for the library Vm, and that it is true. Printed by a program (types.py). -/
set_option linter.all false
set_option maxRecDepth 100000
namespace Go.Proofs.YtginpkchjeooeaaDoor
open Go.Vm

instance gtab : GlobTab := ⟨fun g => match g with | 0 => some [(.u64, 1), (.u64, 10), (.u64, 100), (.u64, 1000), (.u64, 10000), (.u64, 100000), (.u64, 1000000), (.u64, 10000000), (.u64, 100000000), (.u64, 1000000000), (.u64, 10000000000), (.u64, 100000000000), (.u64, 1000000000000), (.u64, 10000000000000), (.u64, 100000000000000), (.u64, 1000000000000000), (.u64, 10000000000000000), (.u64, 100000000000000000), (.u64, 1000000000000000000), (.u64, 10000000000000000000)] | _ => none⟩
def ty2 : TI := ⟨1, 8, false, .int .i64 0, .int .i64, []⟩
def ty3 : TI := ⟨1, 8, false, .int .i64 0, .int .i64, []⟩
def ty4 : TI := ⟨1, 1, false, .bool false, .bool, []⟩
def ty5 : TI := ⟨1, 1, false, .int .u8 0, .int .u8, []⟩
def ty9 : TI := ⟨1, 16, false, .str [], .str, []⟩
def ty21 : TI := ⟨1, 4, false, .int .i32 0, .int .i32, []⟩
def ty22 : TI := ⟨1, 24, false, .sl true [] 0, .slice 45, []⟩
def ty24 : TI := ⟨1, 8, false, .int .i64 0, .int .i64, []⟩
def ty27 : TI := ⟨1, 24, false, .sl true [] 0, .slice 3, []⟩
def ty39 : TI := ⟨3, 72, true, .agg [.sl true [] 0, .sl true [] 0, .sl true [] 0], .arr 3 22, []⟩
def ty45 : TI := ⟨2, 16, true, .agg [.int .i64 0, .int .i64 0], .struct [(0, 3), (1, 3)], [.int .i64, .int .i64]⟩
def ty47 : TI := ⟨1, 16, false, .nili, .iface, []⟩
def ty55 : TI := ⟨1, 24, false, .sl true [] 0, .slice 4, []⟩
def ty57 : TI := ⟨1, 24, false, .sl true [] 0, .slice 58, []⟩
def ty58 : TI := ⟨1, 24, false, .sl true [] 0, .slice 55, []⟩
def ty62 : TI := ⟨1, 8, false, .nilp, .ptr 64, []⟩
def ty64 : TI := ⟨1, 16, true, .agg [.str []], .struct [(0, 9)], []⟩
def ty66 : TI := ⟨1, 8, false, .nilf, .func, []⟩
def ty68 : TI := ⟨3, 48, true, .agg [.sl true [] 0, .str [], .bool false], .struct [(0, 22), (1, 9), (2, 4)], []⟩
def ty74 : TI := ⟨2, 16, true, .agg [.int .i64 0, .int .i64 0], .struct [(0, 45)], [.int .i64, .int .i64]⟩
def ty76 : TI := ⟨1, 16, true, .agg [.nili], .struct [(0, 47)], []⟩
def ty78 : TI := ⟨3, 40, true, .agg [.int .i64 0, .nili, .nili], .struct [(0, 3), (1, 47), (2, 47)], []⟩
def ty91 : TI := ⟨1, 8, false, .int .u64 0, .int .u64, []⟩
def ty93 : TI := ⟨1, 24, false, .sl true [] 0, .slice 5, []⟩
def ty99 : TI := ⟨24, 24, true, .agg [.int .u8 0, .int .u8 0, .int .u8 0, .int .u8 0, .int .u8 0, .int .u8 0, .int .u8 0, .int .u8 0, .int .u8 0, .int .u8 0, .int .u8 0, .int .u8 0, .int .u8 0, .int .u8 0, .int .u8 0, .int .u8 0, .int .u8 0, .int .u8 0, .int .u8 0, .int .u8 0, .int .u8 0, .int .u8 0, .int .u8 0, .int .u8 0], .arr 24 5, []⟩
def ty107 : TI := ⟨256, 256, true, .agg (tab 256 fun _ => .bool false), .arr 256 4, []⟩
def ty111 : TI := ⟨1, 8, false, .nilp, .ptr 107, []⟩
def ty112 : TI := ⟨1, 8, false, .nilp, .ptr 117, []⟩
def ty115 : TI := ⟨2, 24, true, .agg [.str [], .int .i64 0], .struct [(0, 9), (1, 3)], []⟩
def ty117 : TI := ⟨3, 32, true, .agg [.str [], .int .i64 0, .int .i64 0], .struct [(0, 115), (2, 3)], []⟩
def ty123 : TI := ⟨20, 160, true, .agg [.int .u64 0, .int .u64 0, .int .u64 0, .int .u64 0, .int .u64 0, .int .u64 0, .int .u64 0, .int .u64 0, .int .u64 0, .int .u64 0, .int .u64 0, .int .u64 0, .int .u64 0, .int .u64 0, .int .u64 0, .int .u64 0, .int .u64 0, .int .u64 0, .int .u64 0, .int .u64 0], .arr 20 91, []⟩
def ty124 : TI := ⟨1, 4, false, .int .u32 0, .int .u32, []⟩
def ty125 : TI := ⟨65, 65, true, .agg (tab 65 fun _ => .int .u8 0), .arr 65 5, []⟩
def ty127 : TI := ⟨1, 8, false, .int .u64 0, .int .u64, []⟩
def ty133 : TI := ⟨1, 8, false, .nilp, .ptr 115, []⟩
def ty138 : TI := ⟨32, 32, true, .agg (tab 32 fun _ => .int .u8 0), .arr 32 5, []⟩
def ty139 : TI := ⟨64, 64, true, .agg (tab 64 fun _ => .int .u8 0), .arr 64 5, []⟩
def ty140 : TI := ⟨256, 256, true, .agg (tab 256 fun _ => .int .u8 0), .arr 256 5, []⟩
def ty142 : TI := ⟨2, 2, true, .agg [.int .u8 0, .int .u8 0], .struct [(0, 5), (1, 5)], [.int .u8, .int .u8]⟩
def ty143 : TI := ⟨32, 32, true, .agg (tab 32 fun _ => .int .u8 0), .arr 16 142, []⟩
def ttL : List TI := [TI.none, TI.none, ty2, ty3, ty4, ty5, TI.none, TI.none, TI.none, ty9, TI.none, TI.none, TI.none, TI.none, TI.none, TI.none, TI.none, TI.none, TI.none, TI.none, TI.none, ty21, ty22, TI.none, ty24, TI.none, TI.none, ty27, TI.none, TI.none, TI.none, TI.none, TI.none, TI.none, TI.none, TI.none, TI.none, TI.none, TI.none, ty39, TI.none, TI.none, TI.none, TI.none, TI.none, ty45, TI.none, ty47, TI.none, TI.none, TI.none, TI.none, TI.none, TI.none, TI.none, ty55, TI.none, ty57, ty58, TI.none, TI.none, TI.none, ty62, TI.none, ty64, TI.none, ty66, TI.none, ty68, TI.none, TI.none, TI.none, TI.none, TI.none, ty74, TI.none, ty76, TI.none, ty78, TI.none, TI.none, TI.none, TI.none, TI.none, TI.none, TI.none, TI.none, TI.none, TI.none, TI.none, TI.none, ty91, TI.none, ty93, TI.none, TI.none, TI.none, TI.none, TI.none, ty99, TI.none, TI.none, TI.none, TI.none, TI.none, TI.none, TI.none, ty107, TI.none, TI.none, TI.none, ty111, ty112, TI.none, TI.none, ty115, TI.none, ty117, TI.none, TI.none, TI.none, TI.none, TI.none, ty123, ty124, ty125, TI.none, ty127, TI.none, TI.none, TI.none, TI.none, TI.none, ty133, TI.none, TI.none, TI.none, TI.none, ty138, ty139, ty140, TI.none, ty142, ty143, TI.none, TI.none, TI.none, TI.none, TI.none, TI.none, TI.none, TI.none, TI.none, TI.none, TI.none, TI.none, TI.none, TI.none, TI.none, TI.none, TI.none, TI.none]
def tt (t : Nat) : TI := ttOf ttL t
theorem tt_2 : tt 2 = ⟨1, 8, false, .int .i64 0, .int .i64, []⟩ := rfl
theorem tt_3 : tt 3 = ⟨1, 8, false, .int .i64 0, .int .i64, []⟩ := rfl
theorem tt_4 : tt 4 = ⟨1, 1, false, .bool false, .bool, []⟩ := rfl
theorem tt_5 : tt 5 = ⟨1, 1, false, .int .u8 0, .int .u8, []⟩ := rfl
theorem tt_9 : tt 9 = ⟨1, 16, false, .str [], .str, []⟩ := rfl
theorem tt_21 : tt 21 = ⟨1, 4, false, .int .i32 0, .int .i32, []⟩ := rfl
theorem tt_22 : tt 22 = ⟨1, 24, false, .sl true [] 0, .slice 45, []⟩ := rfl
theorem tt_24 : tt 24 = ⟨1, 8, false, .int .i64 0, .int .i64, []⟩ := rfl
theorem tt_27 : tt 27 = ⟨1, 24, false, .sl true [] 0, .slice 3, []⟩ := rfl
theorem tt_39 : tt 39 = ⟨3, 72, true, .agg [.sl true [] 0, .sl true [] 0, .sl true [] 0], .arr 3 22, []⟩ := rfl
theorem tt_45 : tt 45 = ⟨2, 16, true, .agg [.int .i64 0, .int .i64 0], .struct [(0, 3), (1, 3)], [.int .i64, .int .i64]⟩ := rfl
theorem tt_47 : tt 47 = ⟨1, 16, false, .nili, .iface, []⟩ := rfl
theorem tt_55 : tt 55 = ⟨1, 24, false, .sl true [] 0, .slice 4, []⟩ := rfl
theorem tt_57 : tt 57 = ⟨1, 24, false, .sl true [] 0, .slice 58, []⟩ := rfl
theorem tt_58 : tt 58 = ⟨1, 24, false, .sl true [] 0, .slice 55, []⟩ := rfl
theorem tt_62 : tt 62 = ⟨1, 8, false, .nilp, .ptr 64, []⟩ := rfl
theorem tt_64 : tt 64 = ⟨1, 16, true, .agg [.str []], .struct [(0, 9)], []⟩ := rfl
theorem tt_66 : tt 66 = ⟨1, 8, false, .nilf, .func, []⟩ := rfl
theorem tt_68 : tt 68 = ⟨3, 48, true, .agg [.sl true [] 0, .str [], .bool false], .struct [(0, 22), (1, 9), (2, 4)], []⟩ := rfl
theorem tt_74 : tt 74 = ⟨2, 16, true, .agg [.int .i64 0, .int .i64 0], .struct [(0, 45)], [.int .i64, .int .i64]⟩ := rfl
theorem tt_76 : tt 76 = ⟨1, 16, true, .agg [.nili], .struct [(0, 47)], []⟩ := rfl
theorem tt_78 : tt 78 = ⟨3, 40, true, .agg [.int .i64 0, .nili, .nili], .struct [(0, 3), (1, 47), (2, 47)], []⟩ := rfl
theorem tt_91 : tt 91 = ⟨1, 8, false, .int .u64 0, .int .u64, []⟩ := rfl
theorem tt_93 : tt 93 = ⟨1, 24, false, .sl true [] 0, .slice 5, []⟩ := rfl
theorem tt_99 : tt 99 = ⟨24, 24, true, .agg [.int .u8 0, .int .u8 0, .int .u8 0, .int .u8 0, .int .u8 0, .int .u8 0, .int .u8 0, .int .u8 0, .int .u8 0, .int .u8 0, .int .u8 0, .int .u8 0, .int .u8 0, .int .u8 0, .int .u8 0, .int .u8 0, .int .u8 0, .int .u8 0, .int .u8 0, .int .u8 0, .int .u8 0, .int .u8 0, .int .u8 0, .int .u8 0], .arr 24 5, []⟩ := rfl
theorem tt_107 : tt 107 = ⟨256, 256, true, .agg (tab 256 fun _ => .bool false), .arr 256 4, []⟩ := rfl
theorem tt_111 : tt 111 = ⟨1, 8, false, .nilp, .ptr 107, []⟩ := rfl
theorem tt_112 : tt 112 = ⟨1, 8, false, .nilp, .ptr 117, []⟩ := rfl
theorem tt_115 : tt 115 = ⟨2, 24, true, .agg [.str [], .int .i64 0], .struct [(0, 9), (1, 3)], []⟩ := rfl
theorem tt_117 : tt 117 = ⟨3, 32, true, .agg [.str [], .int .i64 0, .int .i64 0], .struct [(0, 115), (2, 3)], []⟩ := rfl
theorem tt_123 : tt 123 = ⟨20, 160, true, .agg [.int .u64 0, .int .u64 0, .int .u64 0, .int .u64 0, .int .u64 0, .int .u64 0, .int .u64 0, .int .u64 0, .int .u64 0, .int .u64 0, .int .u64 0, .int .u64 0, .int .u64 0, .int .u64 0, .int .u64 0, .int .u64 0, .int .u64 0, .int .u64 0, .int .u64 0, .int .u64 0], .arr 20 91, []⟩ := rfl
theorem tt_124 : tt 124 = ⟨1, 4, false, .int .u32 0, .int .u32, []⟩ := rfl
theorem tt_125 : tt 125 = ⟨65, 65, true, .agg (tab 65 fun _ => .int .u8 0), .arr 65 5, []⟩ := rfl
theorem tt_127 : tt 127 = ⟨1, 8, false, .int .u64 0, .int .u64, []⟩ := rfl
theorem tt_133 : tt 133 = ⟨1, 8, false, .nilp, .ptr 115, []⟩ := rfl
theorem tt_138 : tt 138 = ⟨32, 32, true, .agg (tab 32 fun _ => .int .u8 0), .arr 32 5, []⟩ := rfl
theorem tt_139 : tt 139 = ⟨64, 64, true, .agg (tab 64 fun _ => .int .u8 0), .arr 64 5, []⟩ := rfl
theorem tt_140 : tt 140 = ⟨256, 256, true, .agg (tab 256 fun _ => .int .u8 0), .arr 256 5, []⟩ := rfl
theorem tt_142 : tt 142 = ⟨2, 2, true, .agg [.int .u8 0, .int .u8 0], .struct [(0, 5), (1, 5)], [.int .u8, .int .u8]⟩ := rfl
theorem tt_143 : tt 143 = ⟨32, 32, true, .agg (tab 32 fun _ => .int .u8 0), .arr 16 142, []⟩ := rfl
attribute [push_cast] tt_2 tt_3 tt_4 tt_5 tt_9 tt_21 tt_22 tt_24 tt_27 tt_39 tt_45 tt_47 tt_55 tt_57 tt_58 tt_62 tt_64 tt_66 tt_68 tt_74 tt_76 tt_78 tt_91 tt_93 tt_99 tt_107 tt_111 tt_112 tt_115 tt_117 tt_123 tt_124 tt_125 tt_127 tt_133 tt_138 tt_139 tt_140 tt_142 tt_143
theorem row_2 : TIok Tryd.prog 2 ty2 := TIok.of_row (by kernel_rfl) (z := .int .i64 0) (by kernel_rfl) (fun _ _ _ => ofConst_sound (.int .i64 0)) (by kernel_rfl) (by kernel_rfl) (fun h => absurd h (by decide))
theorem row_3 : TIok Tryd.prog 3 ty3 := TIok.of_row (by kernel_rfl) (z := .int .i64 0) (by kernel_rfl) (fun _ _ _ => ofConst_sound (.int .i64 0)) (by kernel_rfl) (by kernel_rfl) (fun h => absurd h (by decide))
theorem row_4 : TIok Tryd.prog 4 ty4 := TIok.of_row (by kernel_rfl) (z := .bool false) (by kernel_rfl) (fun _ _ _ => ofConst_sound (.bool false)) (by kernel_rfl) (by kernel_rfl) (fun h => absurd h (by decide))
theorem row_5 : TIok Tryd.prog 5 ty5 := TIok.of_row (by kernel_rfl) (z := .int .u8 0) (by kernel_rfl) (fun _ _ _ => ofConst_sound (.int .u8 0)) (by kernel_rfl) (by kernel_rfl) (fun h => absurd h (by decide))
theorem row_9 : TIok Tryd.prog 9 ty9 := TIok.of_row (by kernel_rfl) (z := .string ByteArray.empty) (by kernel_rfl) (fun _ _ _ => ofConst_sound (.string ByteArray.empty)) (by kernel_rfl) (by kernel_rfl) (fun h => absurd h (by decide))
theorem row_21 : TIok Tryd.prog 21 ty21 := TIok.of_row (by kernel_rfl) (z := .int .i32 0) (by kernel_rfl) (fun _ _ _ => ofConst_sound (.int .i32 0)) (by kernel_rfl) (by kernel_rfl) (fun h => absurd h (by decide))
theorem row_22 : TIok Tryd.prog 22 ty22 := TIok.of_row (by kernel_rfl) (z := .slice none 0 0) (by kernel_rfl) (fun _ _ _ => ofConst_sound (.slice none 0 0)) (by kernel_rfl) (by kernel_rfl) (fun h => absurd h (by decide))
theorem row_24 : TIok Tryd.prog 24 ty24 := TIok.of_row (by kernel_rfl) (z := .int .i64 0) (by kernel_rfl) (fun _ _ _ => ofConst_sound (.int .i64 0)) (by kernel_rfl) (by kernel_rfl) (fun h => absurd h (by decide))
theorem row_27 : TIok Tryd.prog 27 ty27 := TIok.of_row (by kernel_rfl) (z := .slice none 0 0) (by kernel_rfl) (fun _ _ _ => ofConst_sound (.slice none 0 0)) (by kernel_rfl) (by kernel_rfl) (fun h => absurd h (by decide))
theorem row_39 : TIok Tryd.prog 39 ty39 := TIok.of_row (by kernel_rfl) (z := .agg #[.slice none 0 0, .slice none 0 0, .slice none 0 0]) (by kernel_rfl) (fun _ _ _ => ofConst_sound (.agg #[.slice none 0 0, .slice none 0 0, .slice none 0 0])) (by kernel_rfl) (by kernel_rfl) (fun _ => .inl rfl)
theorem row_45 : TIok Tryd.prog 45 ty45 := TIok.of_row (by kernel_rfl) (z := .agg #[.int .i64 0, .int .i64 0]) (by kernel_rfl) (fun _ _ _ => ofConst_sound (.agg #[.int .i64 0, .int .i64 0])) (by kernel_rfl) (by kernel_rfl) (fun _ => .inr (by kernel_rfl))
theorem row_47 : TIok Tryd.prog 47 ty47 := TIok.of_row (by kernel_rfl) (z := .nilIface) (by kernel_rfl) (fun _ _ _ => ofConst_sound (.nilIface)) (by kernel_rfl) (by kernel_rfl) (fun h => absurd h (by decide))
theorem row_55 : TIok Tryd.prog 55 ty55 := TIok.of_row (by kernel_rfl) (z := .slice none 0 0) (by kernel_rfl) (fun _ _ _ => ofConst_sound (.slice none 0 0)) (by kernel_rfl) (by kernel_rfl) (fun h => absurd h (by decide))
theorem row_57 : TIok Tryd.prog 57 ty57 := TIok.of_row (by kernel_rfl) (z := .slice none 0 0) (by kernel_rfl) (fun _ _ _ => ofConst_sound (.slice none 0 0)) (by kernel_rfl) (by kernel_rfl) (fun h => absurd h (by decide))
theorem row_58 : TIok Tryd.prog 58 ty58 := TIok.of_row (by kernel_rfl) (z := .slice none 0 0) (by kernel_rfl) (fun _ _ _ => ofConst_sound (.slice none 0 0)) (by kernel_rfl) (by kernel_rfl) (fun h => absurd h (by decide))
theorem row_62 : TIok Tryd.prog 62 ty62 := TIok.of_row (by kernel_rfl) (z := .pointer none) (by kernel_rfl) (fun _ _ _ => ofConst_sound (.pointer none)) (by kernel_rfl) (by kernel_rfl) (fun h => absurd h (by decide))
theorem row_64 : TIok Tryd.prog 64 ty64 := TIok.of_row (by kernel_rfl) (z := .agg #[.string ByteArray.empty]) (by kernel_rfl) (fun _ _ _ => ofConst_sound (.agg #[.string ByteArray.empty])) (by kernel_rfl) (by kernel_rfl) (fun _ => .inl rfl)
theorem row_66 : TIok Tryd.prog 66 ty66 := TIok.of_row (by kernel_rfl) (z := .nilFunc) (by kernel_rfl) (fun _ _ _ => ofConst_sound (.nilFunc)) (by kernel_rfl) (by kernel_rfl) (fun h => absurd h (by decide))
theorem row_68 : TIok Tryd.prog 68 ty68 := TIok.of_row (by kernel_rfl) (z := .agg #[.slice none 0 0, .string ByteArray.empty, .bool false]) (by kernel_rfl) (fun _ _ _ => ofConst_sound (.agg #[.slice none 0 0, .string ByteArray.empty, .bool false])) (by kernel_rfl) (by kernel_rfl) (fun _ => .inl rfl)
theorem row_74 : TIok Tryd.prog 74 ty74 := TIok.of_row (by kernel_rfl) (z := .agg #[.int .i64 0, .int .i64 0]) (by kernel_rfl) (fun _ _ _ => ofConst_sound (.agg #[.int .i64 0, .int .i64 0])) (by kernel_rfl) (by kernel_rfl) (fun _ => .inr (by kernel_rfl))
theorem row_76 : TIok Tryd.prog 76 ty76 := TIok.of_row (by kernel_rfl) (z := .agg #[.nilIface]) (by kernel_rfl) (fun _ _ _ => ofConst_sound (.agg #[.nilIface])) (by kernel_rfl) (by kernel_rfl) (fun _ => .inl rfl)
theorem row_78 : TIok Tryd.prog 78 ty78 := TIok.of_row (by kernel_rfl) (z := .agg #[.int .i64 0, .nilIface, .nilIface]) (by kernel_rfl) (fun _ _ _ => ofConst_sound (.agg #[.int .i64 0, .nilIface, .nilIface])) (by kernel_rfl) (by kernel_rfl) (fun _ => .inl rfl)
theorem row_91 : TIok Tryd.prog 91 ty91 := TIok.of_row (by kernel_rfl) (z := .int .u64 0) (by kernel_rfl) (fun _ _ _ => ofConst_sound (.int .u64 0)) (by kernel_rfl) (by kernel_rfl) (fun h => absurd h (by decide))
theorem row_93 : TIok Tryd.prog 93 ty93 := TIok.of_row (by kernel_rfl) (z := .slice none 0 0) (by kernel_rfl) (fun _ _ _ => ofConst_sound (.slice none 0 0)) (by kernel_rfl) (by kernel_rfl) (fun h => absurd h (by decide))
theorem row_99 : TIok Tryd.prog 99 ty99 := TIok.of_row (by kernel_rfl) (z := .agg #[.int .u8 0, .int .u8 0, .int .u8 0, .int .u8 0, .int .u8 0, .int .u8 0, .int .u8 0, .int .u8 0, .int .u8 0, .int .u8 0, .int .u8 0, .int .u8 0, .int .u8 0, .int .u8 0, .int .u8 0, .int .u8 0, .int .u8 0, .int .u8 0, .int .u8 0, .int .u8 0, .int .u8 0, .int .u8 0, .int .u8 0, .int .u8 0]) (by kernel_rfl) (fun _ _ _ => ofConst_sound (.agg #[.int .u8 0, .int .u8 0, .int .u8 0, .int .u8 0, .int .u8 0, .int .u8 0, .int .u8 0, .int .u8 0, .int .u8 0, .int .u8 0, .int .u8 0, .int .u8 0, .int .u8 0, .int .u8 0, .int .u8 0, .int .u8 0, .int .u8 0, .int .u8 0, .int .u8 0, .int .u8 0, .int .u8 0, .int .u8 0, .int .u8 0, .int .u8 0])) (by kernel_rfl) (by kernel_rfl) (fun _ => .inl rfl)
theorem row_107 : TIok Tryd.prog 107 ty107 := TIok.of_row (by kernel_rfl) (z := .agg (Array.replicate 256 (.bool false))) (by kernel_rfl) (fun _ _ _ => by rw [show ty107.zero = ofConst (.agg (Array.replicate 256 (.bool false))) by kernel_rfl]; exact ofConst_sound _) (by kernel_rfl) (by kernel_rfl) (fun _ => .inl rfl)
theorem row_111 : TIok Tryd.prog 111 ty111 := TIok.of_row (by kernel_rfl) (z := .pointer none) (by kernel_rfl) (fun _ _ _ => ofConst_sound (.pointer none)) (by kernel_rfl) (by kernel_rfl) (fun h => absurd h (by decide))
theorem row_112 : TIok Tryd.prog 112 ty112 := TIok.of_row (by kernel_rfl) (z := .pointer none) (by kernel_rfl) (fun _ _ _ => ofConst_sound (.pointer none)) (by kernel_rfl) (by kernel_rfl) (fun h => absurd h (by decide))
theorem row_115 : TIok Tryd.prog 115 ty115 := TIok.of_row (by kernel_rfl) (z := .agg #[.string ByteArray.empty, .int .i64 0]) (by kernel_rfl) (fun _ _ _ => ofConst_sound (.agg #[.string ByteArray.empty, .int .i64 0])) (by kernel_rfl) (by kernel_rfl) (fun _ => .inl rfl)
theorem row_117 : TIok Tryd.prog 117 ty117 := TIok.of_row (by kernel_rfl) (z := .agg #[.string ByteArray.empty, .int .i64 0, .int .i64 0]) (by kernel_rfl) (fun _ _ _ => ofConst_sound (.agg #[.string ByteArray.empty, .int .i64 0, .int .i64 0])) (by kernel_rfl) (by kernel_rfl) (fun _ => .inl rfl)
theorem row_123 : TIok Tryd.prog 123 ty123 := TIok.of_row (by kernel_rfl) (z := .agg #[.int .u64 0, .int .u64 0, .int .u64 0, .int .u64 0, .int .u64 0, .int .u64 0, .int .u64 0, .int .u64 0, .int .u64 0, .int .u64 0, .int .u64 0, .int .u64 0, .int .u64 0, .int .u64 0, .int .u64 0, .int .u64 0, .int .u64 0, .int .u64 0, .int .u64 0, .int .u64 0]) (by kernel_rfl) (fun _ _ _ => ofConst_sound (.agg #[.int .u64 0, .int .u64 0, .int .u64 0, .int .u64 0, .int .u64 0, .int .u64 0, .int .u64 0, .int .u64 0, .int .u64 0, .int .u64 0, .int .u64 0, .int .u64 0, .int .u64 0, .int .u64 0, .int .u64 0, .int .u64 0, .int .u64 0, .int .u64 0, .int .u64 0, .int .u64 0])) (by kernel_rfl) (by kernel_rfl) (fun _ => .inl rfl)
theorem row_124 : TIok Tryd.prog 124 ty124 := TIok.of_row (by kernel_rfl) (z := .int .u32 0) (by kernel_rfl) (fun _ _ _ => ofConst_sound (.int .u32 0)) (by kernel_rfl) (by kernel_rfl) (fun h => absurd h (by decide))
theorem row_125 : TIok Tryd.prog 125 ty125 := TIok.of_row (by kernel_rfl) (z := .agg (Array.replicate 65 (.int .u8 0))) (by kernel_rfl) (fun _ _ _ => by rw [show ty125.zero = ofConst (.agg (Array.replicate 65 (.int .u8 0))) by kernel_rfl]; exact ofConst_sound _) (by kernel_rfl) (by kernel_rfl) (fun _ => .inl rfl)
theorem row_127 : TIok Tryd.prog 127 ty127 := TIok.of_row (by kernel_rfl) (z := .int .u64 0) (by kernel_rfl) (fun _ _ _ => ofConst_sound (.int .u64 0)) (by kernel_rfl) (by kernel_rfl) (fun h => absurd h (by decide))
theorem row_133 : TIok Tryd.prog 133 ty133 := TIok.of_row (by kernel_rfl) (z := .pointer none) (by kernel_rfl) (fun _ _ _ => ofConst_sound (.pointer none)) (by kernel_rfl) (by kernel_rfl) (fun h => absurd h (by decide))
theorem row_138 : TIok Tryd.prog 138 ty138 := TIok.of_row (by kernel_rfl) (z := .agg (Array.replicate 32 (.int .u8 0))) (by kernel_rfl) (fun _ _ _ => by rw [show ty138.zero = ofConst (.agg (Array.replicate 32 (.int .u8 0))) by kernel_rfl]; exact ofConst_sound _) (by kernel_rfl) (by kernel_rfl) (fun _ => .inl rfl)
theorem row_139 : TIok Tryd.prog 139 ty139 := TIok.of_row (by kernel_rfl) (z := .agg (Array.replicate 64 (.int .u8 0))) (by kernel_rfl) (fun _ _ _ => by rw [show ty139.zero = ofConst (.agg (Array.replicate 64 (.int .u8 0))) by kernel_rfl]; exact ofConst_sound _) (by kernel_rfl) (by kernel_rfl) (fun _ => .inl rfl)
theorem row_140 : TIok Tryd.prog 140 ty140 := TIok.of_row (by kernel_rfl) (z := .agg (Array.replicate 256 (.int .u8 0))) (by kernel_rfl) (fun _ _ _ => by rw [show ty140.zero = ofConst (.agg (Array.replicate 256 (.int .u8 0))) by kernel_rfl]; exact ofConst_sound _) (by kernel_rfl) (by kernel_rfl) (fun _ => .inl rfl)
theorem row_142 : TIok Tryd.prog 142 ty142 := TIok.of_row (by kernel_rfl) (z := .agg #[.int .u8 0, .int .u8 0]) (by kernel_rfl) (fun _ _ _ => ofConst_sound (.agg #[.int .u8 0, .int .u8 0])) (by kernel_rfl) (by kernel_rfl) (fun _ => .inr (by kernel_rfl))
theorem row_143 : TIok Tryd.prog 143 ty143 := TIok.of_row (by kernel_rfl) (z := .agg (Array.replicate 32 (.int .u8 0))) (by kernel_rfl) (fun _ _ _ => by rw [show ty143.zero = ofConst (.agg (Array.replicate 32 (.int .u8 0))) by kernel_rfl]; exact ofConst_sound _) (by kernel_rfl) (by kernel_rfl) (fun _ => .inl rfl)
theorem allOK : AllOK Tryd.prog 0 ttL := ⟨fun h => absurd rfl h, fun h => absurd rfl h, fun _ => row_2, fun _ => row_3, fun _ => row_4, fun _ => row_5, fun h => absurd rfl h, fun h => absurd rfl h, fun h => absurd rfl h, fun _ => row_9, fun h => absurd rfl h, fun h => absurd rfl h, fun h => absurd rfl h, fun h => absurd rfl h, fun h => absurd rfl h, fun h => absurd rfl h, fun h => absurd rfl h, fun h => absurd rfl h, fun h => absurd rfl h, fun h => absurd rfl h, fun h => absurd rfl h, fun _ => row_21, fun _ => row_22, fun h => absurd rfl h, fun _ => row_24, fun h => absurd rfl h, fun h => absurd rfl h, fun _ => row_27, fun h => absurd rfl h, fun h => absurd rfl h, fun h => absurd rfl h, fun h => absurd rfl h, fun h => absurd rfl h, fun h => absurd rfl h, fun h => absurd rfl h, fun h => absurd rfl h, fun h => absurd rfl h, fun h => absurd rfl h, fun h => absurd rfl h, fun _ => row_39, fun h => absurd rfl h, fun h => absurd rfl h, fun h => absurd rfl h, fun h => absurd rfl h, fun h => absurd rfl h, fun _ => row_45, fun h => absurd rfl h, fun _ => row_47, fun h => absurd rfl h, fun h => absurd rfl h, fun h => absurd rfl h, fun h => absurd rfl h, fun h => absurd rfl h, fun h => absurd rfl h, fun h => absurd rfl h, fun _ => row_55, fun h => absurd rfl h, fun _ => row_57, fun _ => row_58, fun h => absurd rfl h, fun h => absurd rfl h, fun h => absurd rfl h, fun _ => row_62, fun h => absurd rfl h, fun _ => row_64, fun h => absurd rfl h, fun _ => row_66, fun h => absurd rfl h, fun _ => row_68, fun h => absurd rfl h, fun h => absurd rfl h, fun h => absurd rfl h, fun h => absurd rfl h, fun h => absurd rfl h, fun _ => row_74, fun h => absurd rfl h, fun _ => row_76, fun h => absurd rfl h, fun _ => row_78, fun h => absurd rfl h, fun h => absurd rfl h, fun h => absurd rfl h, fun h => absurd rfl h, fun h => absurd rfl h, fun h => absurd rfl h, fun h => absurd rfl h, fun h => absurd rfl h, fun h => absurd rfl h, fun h => absurd rfl h, fun h => absurd rfl h, fun h => absurd rfl h, fun _ => row_91, fun h => absurd rfl h, fun _ => row_93, fun h => absurd rfl h, fun h => absurd rfl h, fun h => absurd rfl h, fun h => absurd rfl h, fun h => absurd rfl h, fun _ => row_99, fun h => absurd rfl h, fun h => absurd rfl h, fun h => absurd rfl h, fun h => absurd rfl h, fun h => absurd rfl h, fun h => absurd rfl h, fun h => absurd rfl h, fun _ => row_107, fun h => absurd rfl h, fun h => absurd rfl h, fun h => absurd rfl h, fun _ => row_111, fun _ => row_112, fun h => absurd rfl h, fun h => absurd rfl h, fun _ => row_115, fun h => absurd rfl h, fun _ => row_117, fun h => absurd rfl h, fun h => absurd rfl h, fun h => absurd rfl h, fun h => absurd rfl h, fun h => absurd rfl h, fun _ => row_123, fun _ => row_124, fun _ => row_125, fun h => absurd rfl h, fun _ => row_127, fun h => absurd rfl h, fun h => absurd rfl h, fun h => absurd rfl h, fun h => absurd rfl h, fun h => absurd rfl h, fun _ => row_133, fun h => absurd rfl h, fun h => absurd rfl h, fun h => absurd rfl h, fun h => absurd rfl h, fun _ => row_138, fun _ => row_139, fun _ => row_140, fun h => absurd rfl h, fun _ => row_142, fun _ => row_143, fun h => absurd rfl h, fun h => absurd rfl h, fun h => absurd rfl h, fun h => absurd rfl h, fun h => absurd rfl h, fun h => absurd rfl h, fun h => absurd rfl h, fun h => absurd rfl h, fun h => absurd rfl h, fun h => absurd rfl h, fun h => absurd rfl h, fun h => absurd rfl h, fun h => absurd rfl h, fun h => absurd rfl h, fun h => absurd rfl h, fun h => absurd rfl h, fun h => absurd rfl h, fun h => absurd rfl h, trivial⟩
theorem tok : TOK Tryd.prog tt := fun t h => by have := tok_of allOK t h; rwa [Nat.zero_add] at this
end Go.Proofs.YtginpkchjeooeaaDoor

/- Chapters 7 and 8: cubes as pairs of words, their cells, what the functions answer. -/
set_option maxRecDepth 100000
set_option linter.all false
namespace Go.Proofs.YtginpkchjeooeaaDoor
open Go.Vm

structure Cu where
  v : W64
  m : W64
  deriving DecidableEq
instance : Inhabited Cu := ⟨⟨0#64, 0#64⟩⟩
def encC (c : Cu) : List V := [.int .u64 c.v.toNat, .int .u64 c.m.toNat]
def slC (l : List Cu) : V := .sl false (l.flatMap encC) l.length
theorem lenC (x : Cu) : (encC x).length = 2 := rfl
theorem belC {n : Nat} (x : Cu) : belAll n (encC x) = true := rfl
theorem bel_Cs {n : Nat} (xs : List Cu) : belAll n (xs.flatMap encC) = true := belAll_flat belC xs
theorem bel_slC {n : Nat} (l : List Cu) : (slC l).bel n = true := by unfold slC; rw [bel_sl]; exact bel_Cs l
theorem mixed : Tryd.prog.follows .mixedOrders = true := by kernel_rfl
def cfg0 : Cfg := { lv := [], ef := [], ord := [], em := [] }
theorem ones_C {g : Bool} {p : Prop} : ∀ {xs : List Cu}, ones g (xs.flatMap encC) p = p
  | [] => rfl
  | x :: xs => by simp only [List.flatMap_cons, encC, List.cons_append, List.nil_append, ones, V.one]; exact ones_C
theorem take_C {xs : List Cu} : (xs.flatMap encC).take (xs.length * 2) = xs.flatMap encC := by
  rw [List.take_of_length_le (by rw [len_flat lenC]; exact Nat.le_refl _)]

/-- the w lowest bits -/
def low (w : Nat) : W64 := BitVec.allOnes 64 >>> (64 - w)
theorem low_bit {w i : Nat} (hw : w ≤ 64) (hi : i < 64) : (low w).getLsbD i = decide (i < w) := by
  simp only [low, BitVec.getLsbD_ushiftRight, BitVec.getLsbD_allOnes]
  congr 1
  apply propext
  omega
def okW (w : Int) : Bool := decide (1 ≤ w) && decide (w ≤ 64)
def chkC (c : Cu) (w : Int) : Int := if okW w then (if c.m &&& ~~~ low w.toNat = 0#64 then (if c.v &&& ~~~ c.m = 0#64 then 0 else 5) else 9) else 10
def mem (c : Cu) (n : W64) : Bool := decide ((c.v ^^^ n) &&& c.m = 0#64)
def meet (a b : Cu) : Cu × Bool := if (a.v ^^^ b.v) &&& a.m &&& b.m = 0#64 then (⟨a.v &&& a.m ||| b.v &&& b.m, a.m ||| b.m⟩, true) else (⟨0#64, 0#64⟩, false)
def sub (a b : Cu) : Bool := decide (b.m &&& ~~~ a.m = 0#64) && decide ((a.v ^^^ b.v) &&& b.m = 0#64)
def canon (c : Cu) : Cu := ⟨c.v &&& c.m, c.m⟩
def encCB (r : Cu × Bool) : V := .tup [.agg (encC r.1), .bool r.2]

theorem bit_ext {x y : W64} (h : ∀ i, i < 64 → x.getLsbD i = y.getLsbD i) : x = y := BitVec.eq_of_getLsbD_eq h
theorem and_not_zero {x y : W64} : x &&& ~~~ y = 0#64 ↔ x &&& y = x := by
  constructor
  · intro h
    refine bit_ext fun i hi => ?_
    have := congrArg (fun z => z.getLsbD i) h
    simp only [BitVec.getLsbD_and, BitVec.getLsbD_or, BitVec.getLsbD_not, BitVec.getLsbD_zero, BitVec.getLsbD_xor, decide_true, Bool.true_and, hi] at this ⊢
    generalize x.getLsbD i = a at this ⊢
    generalize y.getLsbD i = b at this ⊢
    revert this
    cases a <;> cases b <;> decide
  · intro h
    refine bit_ext fun i hi => ?_
    have := congrArg (fun z => z.getLsbD i) h
    simp only [BitVec.getLsbD_and, BitVec.getLsbD_or, BitVec.getLsbD_not, BitVec.getLsbD_zero, BitVec.getLsbD_xor, decide_true, Bool.true_and, hi] at this ⊢
    generalize x.getLsbD i = a at this ⊢
    generalize y.getLsbD i = b at this ⊢
    revert this
    cases a <;> cases b <;> decide
theorem xor_and_zero {x y m : W64} : (x ^^^ y) &&& m = 0#64 ↔ x &&& m = y &&& m := by
  constructor
  · intro h
    refine bit_ext fun i hi => ?_
    have := congrArg (fun z => z.getLsbD i) h
    simp only [BitVec.getLsbD_and, BitVec.getLsbD_or, BitVec.getLsbD_not, BitVec.getLsbD_zero, BitVec.getLsbD_xor, decide_true, Bool.true_and, hi] at this ⊢
    generalize x.getLsbD i = a at this ⊢
    generalize y.getLsbD i = b at this ⊢
    generalize m.getLsbD i = c at this ⊢
    revert this
    cases a <;> cases b <;> cases c <;> decide
  · intro h
    refine bit_ext fun i hi => ?_
    have := congrArg (fun z => z.getLsbD i) h
    simp only [BitVec.getLsbD_and, BitVec.getLsbD_or, BitVec.getLsbD_not, BitVec.getLsbD_zero, BitVec.getLsbD_xor, decide_true, Bool.true_and, hi] at this ⊢
    generalize x.getLsbD i = a at this ⊢
    generalize y.getLsbD i = b at this ⊢
    generalize m.getLsbD i = c at this ⊢
    revert this
    cases a <;> cases b <;> cases c <;> decide
end Go.Proofs.YtginpkchjeooeaaDoor

/- Chapter 7: the length of a word, the number of its bits that are set. -/
set_option maxRecDepth 100000
set_option maxHeartbeats 4000000
set_option linter.all false
namespace Go.Proofs.YtginpkchjeooeaaDoor
open Go.Vm

theorem shr_lit {n : Int} {k : Nat} (hk : k ≤ 64) : ishr .u64 n (k : Int) = n / 2 ^ k := by
  simp only [ishr, Int.toNat_natCast]
  have hb : IntKind.u64.bits = 64 := rfl
  rw [hb, Nat.min_eq_left hk, Int.fdiv_eq_ediv_of_nonneg _ (Int.pow_nonneg (by decide))]
theorem shr32 {n : Int} : ishr .u64 n 32 = n / 4294967296 := shr_lit (k := 32) (by decide)
theorem shr16 {n : Int} : ishr .u64 n 16 = n / 65536 := shr_lit (k := 16) (by decide)
theorem shr8 {n : Int} : ishr .u64 n 8 = n / 256 := shr_lit (k := 8) (by decide)
def tab8 : List UInt8 := [0, 1, 2, 2] ++ List.replicate 4 3 ++ List.replicate 8 4 ++ List.replicate 16 5 ++ List.replicate 32 6 ++ List.replicate 64 7 ++ List.replicate 128 8
def l8 (k : Nat) : Nat := (tab8.getD k 0).toNat
theorem l8_spec : ∀ k, k < 256 → l8 k ≤ 8 ∧ (k = 0 → l8 k = 0) ∧ (k ≠ 0 → 1 ≤ l8 k ∧ 2 ^ (l8 k - 1) ≤ k ∧ k < 2 ^ l8 k) := by decide +kernel
/-- the number of binary digits -/
def len64 (x : Nat) : Nat := if x = 0 then 0 else Nat.log2 x + 1
theorem log2_is {x k : Nat} (h1 : 2 ^ k ≤ x) (h2 : x < 2 ^ (k + 1)) : Nat.log2 x = k := by
  have hx : x ≠ 0 := by
    have : 0 < 2 ^ k := Nat.two_pow_pos k
    omega
  have h3 := (Nat.le_log2 hx).2 h1
  have h4 := (Nat.log2_lt hx).2 h2
  omega
theorem len_shift {x s y : Nat} (hy : y = x / 2 ^ s) (h0 : y ≠ 0) (h8 : y < 256) : len64 x = s + l8 y := by
  obtain ⟨_, _, h⟩ := l8_spec y h8
  obtain ⟨h1, h2, h3⟩ := h h0
  have hx : x ≠ 0 := by rintro rfl; rw [Nat.zero_div] at hy; omega
  have e : l8 y - 1 + 1 = l8 y := by omega
  unfold len64
  rw [if_neg hx, log2_is (k := s + (l8 y - 1))]
  · omega
  · rw [Nat.pow_add]
    have := Nat.div_mul_le_self x (2 ^ s)
    rw [← hy] at this
    have h4 : 2 ^ s * 2 ^ (l8 y - 1) ≤ 2 ^ s * y := Nat.mul_le_mul_left _ h2
    rw [Nat.mul_comm y] at this
    omega
  · have h5 : x < 2 ^ s * (y + 1) := by
      rw [hy]
      exact Nat.lt_mul_div_succ x (Nat.two_pow_pos s)
    have h6 : 2 ^ s * (y + 1) ≤ 2 ^ s * 2 ^ l8 y := Nat.mul_le_mul_left _ h3
    rw [show s + (l8 y - 1) + 1 = s + l8 y by omega, Nat.pow_add]
    omega
theorem len_small {x : Nat} (h8 : x < 256) : len64 x = l8 x := by
  by_cases h0 : x = 0
  · subst h0; rfl
  · have := len_shift (x := x) (s := 0) (y := x) (by simp) h0 h8
    omega
theorem fin64 {x s y : Nat} {z c : Int} (hz : z = y) (hc : c = s) (hs : s ≤ 56) (h8 : y < 256) (h : len64 x = s + l8 y) : IntKind.i64.wrap (c + IntKind.i64.wrap ((tab8.getD z.toNat 0).toNat : Int)) = (len64 x : Int) := by
  subst hz hc
  have := (l8_spec y h8).1
  rw [Int.toNat_natCast, show (tab8.getD y 0).toNat = l8 y from rfl, i64_ok (n := (l8 y : Int)) (by omega) (by omega), i64_ok (by omega) (by omega), h]
  omega
theorem pc85 (x : Nat) (hx : x < 2 ^ 64) : PC Tryd.prog 85 [.int .u64 x] (.int .i64 (len64 x)) := by
  refine PC.walk tok mixed cfg0 Tryd.func85 rfl Tryd.call85 (by simp [belC, bel_Cs, bel_slC]) (by first | rfl | simp [belC, bel_Cs, bel_slC]) ?_; simp (maxSteps := 2000000) -implicitDefEqProofs +contextual (disch := first | assumption | omega | decide +kernel) only [push_cast, ↓capI, br2_true, br2_false, frk_tt, frk_tf, frk_f, frkD_tt, frkD_tf, frkD_f, pk2_true, pk2_false, imp_true, seval, Nat.reduceLeDiff, Nat.reduceEqDiff, reduceCtorEq, ↓reduceIte, encC, cfg0, shr32, shr16, shr8, Tryd.ntmps85]
  by_cases h1 : 4294967296 ≤ x <;> by_cases h2 : 65536 ≤ (if 4294967296 ≤ x then x / 4294967296 else x) <;> by_cases h3 : 256 ≤ (if 65536 ≤ (if 4294967296 ≤ x then x / 4294967296 else x) then (if 4294967296 ≤ x then x / 4294967296 else x) / 65536 else (if 4294967296 ≤ x then x / 4294967296 else x))
  all_goals simp only [h1, if_true, if_false] at h2 h3
  all_goals simp only [h2, if_true, if_false] at h3
  all_goals simp (maxSteps := 2000000) -implicitDefEqProofs +contextual (disch := first | assumption | omega | decide +kernel) only [push_cast, ↓capI, br2_true, br2_false, frk_tt, frk_tf, frk_f, frkD_tt, frkD_tf, frkD_f, pk2_true, pk2_false, imp_true, seval, Nat.reduceLeDiff, Nat.reduceEqDiff, reduceCtorEq, ↓reduceIte, encC, cfg0, shr32, shr16, shr8]
  all_goals
    generalize hl : List.append (List.append _ _) (List.append _ _) = tl
    have ht : tl = tab8 := by rw [← hl]; rfl
    rw [ht]
    have h256 : tab8.length = 256 := rfl
    rw [h256]
    refine ⟨by omega, fun _ => endK.ret ?_ rfl⟩
    simp only [evRes, getT, retV, Tryd.f85]
    congr 1
  · exact fin64 (s := 56) (y := x / 4294967296 / 65536 / 256) (by omega) rfl (by decide) (by omega) (len_shift (by rw [Nat.div_div_eq_div_mul, Nat.div_div_eq_div_mul]) (by omega) (by omega))
  · exact fin64 (s := 48) (y := x / 4294967296 / 65536) (by omega) rfl (by decide) (by omega) (len_shift (by rw [Nat.div_div_eq_div_mul]) (by omega) (by omega))
  · exact fin64 (s := 40) (y := x / 4294967296 / 256) (by omega) rfl (by decide) (by omega) (len_shift (by rw [Nat.div_div_eq_div_mul]) (by omega) (by omega))
  · exact fin64 (s := 32) (y := x / 4294967296) (by omega) rfl (by decide) (by omega) (len_shift rfl (by omega) (by omega))
  · exact fin64 (s := 24) (y := x / 65536 / 256) (by omega) rfl (by decide) (by omega) (len_shift (by rw [Nat.div_div_eq_div_mul]) (by omega) (by omega))
  · exact fin64 (s := 16) (y := x / 65536) (by omega) rfl (by decide) (by omega) (len_shift rfl (by omega) (by omega))
  · exact fin64 (s := 8) (y := x / 256) (by omega) rfl (by decide) (by omega) (len_shift rfl (by omega) (by omega))
  · exact fin64 (s := 0) (y := x) (z := (x : Int)) rfl rfl (by decide) (by omega) (by rw [len_small (by omega)]; omega)
end Go.Proofs.YtginpkchjeooeaaDoor

/- Chapter 44: the scanners' small steps. -/
set_option maxRecDepth 100000
set_option maxHeartbeats 4000000
set_option linter.all false
namespace Go.Proofs.YtginpkchjeooeaaDoor
open Go.Vm

theorem take_rest {α : Type} {l : List α} {i : Nat} : (l.drop i).take (l.length - i) = l.drop i := List.take_of_length_le (by rw [List.length_drop]; exact Nat.le_refl _)
theorem ibeq_dec {a b : Int} : (a == b) = decide (a = b) := by rw [Bool.eq_iff_iff, beq_iff_eq, decide_eq_true_eq]
/-- whether s begins with p -/
def begins (s p : List UInt8) : Bool := decide (p.length ≤ s.length) && (s.take p.length == p)
def cutP (s p : List UInt8) : List UInt8 × Bool := if begins s p = true then (s.drop p.length, true) else (s, false)
def encSB (r : List UInt8 × Bool) : V := .tup [.str r.1, .bool r.2]
theorem begins_le {s p : List UInt8} (h : begins s p = true) : p.length ≤ s.length := by
  simp only [begins, Bool.and_eq_true, decide_eq_true_eq] at h; exact h.1
theorem pc74 (s p : List UInt8) : PC Tryd.prog 74 [.str s, .str p] (.bool (begins s p)) := by
  refine PC.walk tok mixed cfg0 Tryd.func74 rfl Tryd.call74 (by simp ) (by first | rfl | simp ) ?_; simp (maxSteps := 2000000) -implicitDefEqProofs +contextual (disch := first | assumption | omega | decide +kernel) only [push_cast, ↓capI, br2_true, br2_false, frk_tt, frk_tf, frk_f, frkD_tt, frkD_tf, frkD_f, pk2_true, pk2_false, imp_true, seval, Nat.reduceLeDiff, Nat.reduceEqDiff, reduceCtorEq, ↓reduceIte, cfg0, take_rest, ibeq_dec, Tryd.ntmps74]
  refine ⟨fun h => ?_, fun h => ?_⟩
  · refine endK.ret ?_ (by first | rfl | simp ); simp [evRes, getT, retV, Tryd.f74,  begins, h]
  · refine endK.ret ?_ (by first | rfl | simp ); simp [evRes, getT, retV, Tryd.f74,  begins, h]
theorem pc92 (s p : List UInt8) : PC Tryd.prog 92 [.str s, .str p] (.bool (begins s p)) := by
  refine PC.walk tok mixed cfg0 Tryd.func92 rfl Tryd.call92 (by simp ) (by first | rfl | simp ) ?_; simp (maxSteps := 2000000) -implicitDefEqProofs +contextual (disch := first | assumption | omega | decide +kernel) only [push_cast, ↓capI, br2_true, br2_false, frk_tt, frk_tf, frk_f, frkD_tt, frkD_tf, frkD_f, pk2_true, pk2_false, imp_true, seval, Nat.reduceLeDiff, Nat.reduceEqDiff, reduceCtorEq, ↓reduceIte, cfg0, take_rest, ibeq_dec, Tryd.ntmps92]
  refine callO.pc (pc74 s p) ?_
  simp (maxSteps := 2000000) -implicitDefEqProofs +contextual (disch := first | assumption | omega | decide +kernel) only [push_cast, ↓capI, br2_true, br2_false, frk_tt, frk_tf, frk_f, frkD_tt, frkD_tf, frkD_f, pk2_true, pk2_false, imp_true, seval, Nat.reduceLeDiff, Nat.reduceEqDiff, reduceCtorEq, ↓reduceIte, cfg0, take_rest, ibeq_dec]
  refine endK.ret ?_ (by first | rfl | simp ); simp [evRes, getT, retV, Tryd.f92]
theorem pc66 (s p : List UInt8) : PC Tryd.prog 66 [.str s, .str p] (encSB (cutP s p)) := by
  refine PC.walk tok mixed cfg0 Tryd.func66 rfl Tryd.call66 (by simp ) (by first | rfl | simp ) ?_; simp (maxSteps := 2000000) -implicitDefEqProofs +contextual (disch := first | assumption | omega | decide +kernel) only [push_cast, ↓capI, br2_true, br2_false, frk_tt, frk_tf, frk_f, frkD_tt, frkD_tf, frkD_f, pk2_true, pk2_false, imp_true, seval, Nat.reduceLeDiff, Nat.reduceEqDiff, reduceCtorEq, ↓reduceIte, cfg0, take_rest, ibeq_dec, Tryd.ntmps66]
  refine callO.pc (pc74 s p) ?_
  cases h : begins s p
  · simp (maxSteps := 2000000) -implicitDefEqProofs +contextual (disch := first | assumption | omega | decide +kernel) only [push_cast, ↓capI, br2_true, br2_false, frk_tt, frk_tf, frk_f, frkD_tt, frkD_tf, frkD_f, pk2_true, pk2_false, imp_true, seval, Nat.reduceLeDiff, Nat.reduceEqDiff, reduceCtorEq, ↓reduceIte, cfg0, take_rest, ibeq_dec]
    refine endK.ret ?_ (by first | rfl | simp ); simp [evRes, getT, retV, Tryd.f66,  encSB, cutP, h]
  · have hl := begins_le h
    simp (maxSteps := 2000000) -implicitDefEqProofs +contextual (disch := first | assumption | omega | decide +kernel) only [push_cast, ↓capI, br2_true, br2_false, frk_tt, frk_tf, frk_f, frkD_tt, frkD_tf, frkD_f, pk2_true, pk2_false, imp_true, seval, Nat.reduceLeDiff, Nat.reduceEqDiff, reduceCtorEq, ↓reduceIte, cfg0, take_rest, ibeq_dec]
    refine endK.ret ?_ (by first | rfl | simp ); simp [evRes, getT, retV, Tryd.f66,  encSB, cutP, h]
theorem pc62 (s p : List UInt8) : PC Tryd.prog 62 [.str s, .str p] (encSB (cutP s p)) := by
  refine PC.walk tok mixed cfg0 Tryd.func62 rfl Tryd.call62 (by simp ) (by first | rfl | simp ) ?_; simp (maxSteps := 2000000) -implicitDefEqProofs +contextual (disch := first | assumption | omega | decide +kernel) only [push_cast, ↓capI, br2_true, br2_false, frk_tt, frk_tf, frk_f, frkD_tt, frkD_tf, frkD_f, pk2_true, pk2_false, imp_true, seval, Nat.reduceLeDiff, Nat.reduceEqDiff, reduceCtorEq, ↓reduceIte, cfg0, take_rest, ibeq_dec, Tryd.ntmps62]
  refine callO.pc (pc66 s p) ?_
  simp (maxSteps := 2000000) -implicitDefEqProofs +contextual (disch := first | assumption | omega | decide +kernel) only [push_cast, ↓capI, br2_true, br2_false, frk_tt, frk_tf, frk_f, frkD_tt, frkD_tf, frkD_f, pk2_true, pk2_false, imp_true, seval, Nat.reduceLeDiff, Nat.reduceEqDiff, reduceCtorEq, ↓reduceIte, cfg0, take_rest, ibeq_dec, encSB]
  refine endK.ret ?_ (by first | rfl | simp ); simp [evRes, getT, retV, Tryd.f62,  encSB]
theorem pc58 (s p : List UInt8) : GCall Tryd.prog 58 [.ptr 0 0 0, .str p] [.cells 0 [.str s]] (.bool (begins s p)) [.cells 0 [.str (cutP s p).1]] := by
  refine GC.walk tok mixed cfg0 Tryd.func58 rfl Tryd.call58 ?_; simp (maxSteps := 2000000) -implicitDefEqProofs +contextual (disch := first | assumption | omega | decide +kernel) only [push_cast, ↓capI, br2_true, br2_false, frk_tt, frk_tf, frk_f, frkD_tt, frkD_tf, frkD_f, pk2_true, pk2_false, imp_true, seval, Nat.reduceLeDiff, Nat.reduceEqDiff, reduceCtorEq, ↓reduceIte, cfg0, take_rest, ibeq_dec, Tryd.ntmps58]
  refine callO.pc (pc62 s p) ?_
  cases h : begins s p
  · have e : cutP s p = (s, false) := by simp [cutP, h]
    rw [e]
    simp (maxSteps := 2000000) -implicitDefEqProofs +contextual (disch := first | assumption | omega | decide +kernel) only [push_cast, ↓capI, br2_true, br2_false, frk_tt, frk_tf, frk_f, frkD_tt, frkD_tf, frkD_f, pk2_true, pk2_false, imp_true, seval, Nat.reduceLeDiff, Nat.reduceEqDiff, reduceCtorEq, ↓reduceIte, cfg0, take_rest, ibeq_dec, encSB]
    refine endG.ret ([]) (by first | rfl | simp [fzs_ok, getO, setO, fzs, fz, fzH, Nat.beq, tt_62, tt_64, tt_3, tt_4, tt_5, tt_9, tt_91, tt_112, tt_115, tt_117, tt_133, tt_111, tt_124, cfg0, take_rest, ibeq_dec]) (by simp) (by simp [fzs_ok, imp, lenOK_iff, List.take_of_length_le, evRes, getT, getO, setO, fzs, fz, fzH, Nat.beq, retV, Res.then, ldT, ldR, mkV, getV, tt_62, tt_64, tt_3, tt_4, tt_5, tt_9, tt_91, tt_112, tt_115, tt_117, tt_133, tt_111, tt_124, cfg0, take_rest, ibeq_dec, Tryd.f58]) (by first | rfl | simp ) (by first | rfl | simp )
  · have e : cutP s p = (s.drop p.length, true) := by simp [cutP, h]
    rw [e]
    simp (maxSteps := 2000000) -implicitDefEqProofs +contextual (disch := first | assumption | omega | decide +kernel) only [push_cast, ↓capI, br2_true, br2_false, frk_tt, frk_tf, frk_f, frkD_tt, frkD_tf, frkD_f, pk2_true, pk2_false, imp_true, seval, Nat.reduceLeDiff, Nat.reduceEqDiff, reduceCtorEq, ↓reduceIte, cfg0, take_rest, ibeq_dec, encSB]
    refine endG.ret ([]) (by first | rfl | simp [fzs_ok, getO, setO, fzs, fz, fzH, Nat.beq, tt_62, tt_64, tt_3, tt_4, tt_5, tt_9, tt_91, tt_112, tt_115, tt_117, tt_133, tt_111, tt_124, cfg0, take_rest, ibeq_dec]) (by simp) (by simp [fzs_ok, imp, lenOK_iff, List.take_of_length_le, evRes, getT, getO, setO, fzs, fz, fzH, Nat.beq, retV, Res.then, ldT, ldR, mkV, getV, tt_62, tt_64, tt_3, tt_4, tt_5, tt_9, tt_91, tt_112, tt_115, tt_117, tt_133, tt_111, tt_124, cfg0, take_rest, ibeq_dec, Tryd.f58]) (by first | rfl | simp ) (by first | rfl | simp )
theorem pc94 (s : List UInt8) (i : Int) (r : List V) (hr : belAll 1 r = true) : GCall Tryd.prog 94 [.ptr 0 0 0] [.cells 0 (.str s :: .int .i64 i :: r)] (.bool (decide (i = s.length))) [.cells 0 (.str s :: .int .i64 i :: r)] := by
  refine GC.walk tok mixed cfg0 Tryd.func94 rfl Tryd.call94 ?_; simp (maxSteps := 2000000) -implicitDefEqProofs +contextual (disch := first | assumption | omega | decide +kernel) only [push_cast, ↓capI, br2_true, br2_false, frk_tt, frk_tf, frk_f, frkD_tt, frkD_tf, frkD_f, pk2_true, pk2_false, imp_true, seval, Nat.reduceLeDiff, Nat.reduceEqDiff, reduceCtorEq, ↓reduceIte, cfg0, take_rest, ibeq_dec, Tryd.ntmps94]
  refine endG.ret ([]) (by first | rfl | simp [fzs_ok, getO, setO, fzs, fz, fzH, Nat.beq, tt_62, tt_64, tt_3, tt_4, tt_5, tt_9, tt_91, tt_112, tt_115, tt_117, tt_133, tt_111, tt_124, cfg0, take_rest, ibeq_dec, hr]) (by simp) (by simp [fzs_ok, imp, lenOK_iff, List.take_of_length_le, evRes, getT, getO, setO, fzs, fz, fzH, Nat.beq, retV, Res.then, ldT, ldR, mkV, getV, tt_62, tt_64, tt_3, tt_4, tt_5, tt_9, tt_91, tt_112, tt_115, tt_117, tt_133, tt_111, tt_124, cfg0, take_rest, ibeq_dec, Tryd.f94, hr]) (by first | rfl | simp [hr]) (by first | rfl | simp [hr])
theorem pc80 (s p : List UInt8) (i : Nat) (r : List V) (hr : belAll 1 r = true) (hi : i ≤ s.length) (hs : s.length ≤ 4000000000) (hp : p.length ≤ 4000000000) : GCall Tryd.prog 80 [.ptr 0 0 0, .str p] [.cells 0 (.str s :: .int .i64 i :: r)] (.bool (begins (s.drop i) p))
    [.cells 0 (.str s :: .int .i64 (if begins (s.drop i) p = true then (i : Int) + p.length else i) :: r)] := by
  refine GC.walk tok mixed cfg0 Tryd.func80 rfl Tryd.call80 ?_; simp (maxSteps := 2000000) -implicitDefEqProofs +contextual (disch := first | assumption | omega | decide +kernel) only [push_cast, ↓capI, br2_true, br2_false, frk_tt, frk_tf, frk_f, frkD_tt, frkD_tf, frkD_f, pk2_true, pk2_false, imp_true, seval, Nat.reduceLeDiff, Nat.reduceEqDiff, reduceCtorEq, ↓reduceIte, cfg0, take_rest, ibeq_dec, Tryd.ntmps80]
  refine callG.pc1 (pc92 (s.drop i) p) ?_
  cases h : begins (s.drop i) p
  · simp (maxSteps := 2000000) -implicitDefEqProofs +contextual (disch := first | assumption | omega | decide +kernel) only [push_cast, ↓capI, br2_true, br2_false, frk_tt, frk_tf, frk_f, frkD_tt, frkD_tf, frkD_f, pk2_true, pk2_false, imp_true, seval, Nat.reduceLeDiff, Nat.reduceEqDiff, reduceCtorEq, ↓reduceIte, cfg0, take_rest, ibeq_dec]
    refine endG.ret ([]) (by first | rfl | simp [fzs_ok, getO, setO, fzs, fz, fzH, Nat.beq, tt_62, tt_64, tt_3, tt_4, tt_5, tt_9, tt_91, tt_112, tt_115, tt_117, tt_133, tt_111, tt_124, cfg0, take_rest, ibeq_dec, hr]) (by simp) (by simp [fzs_ok, imp, lenOK_iff, List.take_of_length_le, evRes, getT, getO, setO, fzs, fz, fzH, Nat.beq, retV, Res.then, ldT, ldR, mkV, getV, tt_62, tt_64, tt_3, tt_4, tt_5, tt_9, tt_91, tt_112, tt_115, tt_117, tt_133, tt_111, tt_124, cfg0, take_rest, ibeq_dec, Tryd.f80, hr]) (by first | rfl | simp [hr]) (by first | rfl | simp [hr])
  · simp (maxSteps := 2000000) -implicitDefEqProofs +contextual (disch := first | assumption | omega | decide +kernel) only [push_cast, ↓capI, br2_true, br2_false, frk_tt, frk_tf, frk_f, frkD_tt, frkD_tf, frkD_f, pk2_true, pk2_false, imp_true, seval, Nat.reduceLeDiff, Nat.reduceEqDiff, reduceCtorEq, ↓reduceIte, cfg0, take_rest, ibeq_dec]
    refine endG.ret ([]) (by first | rfl | simp [fzs_ok, getO, setO, fzs, fz, fzH, Nat.beq, tt_62, tt_64, tt_3, tt_4, tt_5, tt_9, tt_91, tt_112, tt_115, tt_117, tt_133, tt_111, tt_124, cfg0, take_rest, ibeq_dec, hr]) (by simp) (by simp [fzs_ok, imp, lenOK_iff, List.take_of_length_le, evRes, getT, getO, setO, fzs, fz, fzH, Nat.beq, retV, Res.then, ldT, ldR, mkV, getV, tt_62, tt_64, tt_3, tt_4, tt_5, tt_9, tt_91, tt_112, tt_115, tt_117, tt_133, tt_111, tt_124, cfg0, take_rest, ibeq_dec, Tryd.f80, hr]) (by first | rfl | simp [hr]) (by first | rfl | simp [hr])
end Go.Proofs.YtginpkchjeooeaaDoor

/- Chapter 41: the nodes of a path expression, its tree, and the tree as the program holds it. -/
set_option maxRecDepth 100000
set_option maxHeartbeats 4000000
set_option linter.all false
namespace Go.Proofs.YtginpkchjeooeaaDoor
open Go.Vm

structure Nd where
  op : Int
  n : Int
  deriving DecidableEq
instance : Inhabited Nd := ⟨⟨0, 0⟩⟩
def encN (x : Nd) : List V := [.int .i64 x.op, .int .i64 x.n]
def slN (l : List Nd) : V := .sl false (l.flatMap encN) l.length
theorem lenN (x : Nd) : (encN x).length = 2 := rfl
theorem belN {n : Nat} (x : Nd) : belAll n (encN x) = true := rfl
theorem bel_Ns {n : Nat} (xs : List Nd) : belAll n (xs.flatMap encN) = true := belAll_flat belN xs
theorem bel_slN {n : Nat} (l : List Nd) : (slN l).bel n = true := by unfold slN; rw [bel_sl]; exact bel_Ns l
theorem fmN (x : Nd) (l : List Nd) : List.flatMap encN (x :: l) = .int .i64 x.op :: .int .i64 x.n :: l.flatMap encN := rfl
theorem fm0 : List.flatMap encN [] = [] := rfl
theorem slN_nil : slN [] = .sl false [] 0 := rfl
theorem take_N {xs : List Nd} : (xs.flatMap encN).take (xs.length * 2) = xs.flatMap encN := by
  rw [List.take_of_length_le (by rw [len_flat lenN]; exact Nat.le_refl _)]
theorem toN1 (n : Nat) : ((n : Int) + 1).toNat - 1 = n := by omega
def op0 (o : Int) : Nd := ⟨o, 0⟩
def nN (x : Nd) : Int := if x.op = 3 then x.n else 0
inductive Pr where
  | leaf (x : Nd)
  | un (x : Nd) (p : Pr)
  | bin (x : Nd) (p q : Pr)
def flat : Pr → List Nd
  | .leaf x => [x]
  | .un x p => x :: flat p
  | .bin x p q => x :: (flat p ++ flat q)
def top : Pr → Nd
  | .leaf x => x
  | .un x _ => x
  | .bin x _ _ => x
theorem flat_top : ∀ p, ∃ t, flat p = top p :: t
  | .leaf x => ⟨[], rfl⟩
  | .un x p => ⟨flat p, rfl⟩
  | .bin x p q => ⟨flat p ++ flat q, rfl⟩
theorem flat_pos (p : Pr) : 0 < (flat p).length := by
  obtain ⟨t, ht⟩ := flat_top p
  rw [ht]
  exact Nat.succ_pos _
def arity (o : Int) : Int := if o = 1 ∨ o = 2 ∨ o = 3 then 0 else if o = 6 then 1 else if o = 4 ∨ o = 5 then 2 else -1
def badN (sw : Int) (x : Nd) : Prop := x.n < 0 ∨ sw ≤ x.n ∨ 999999999 < x.n
instance (sw : Int) (x : Nd) : Decidable (badN sw x) := by unfold badN; infer_instance
def chk1 (sw : Int) (x : Nd) : Int := if arity x.op < 0 then 11 else if x.op = 3 ∧ badN sw x then 9 else 0
def okP (sw : Int) : Pr → Prop
  | .leaf x => (x.op = 1 ∨ x.op = 2 ∨ x.op = 3) ∧ chk1 sw x = 0
  | .un x p => x.op = 6 ∧ okP sw p
  | .bin x p q => (x.op = 4 ∨ x.op = 5) ∧ okP sw p ∧ okP sw q
def tgX : Pr → Nat
  | .leaf _ => 74
  | .un _ _ => 76
  | .bin _ _ _ => 78
def clX : Pr → List V
  | .leaf x => [.int .i64 x.op, .int .i64 (nN x)]
  | .un _ p => [.ifc (tgX p) (.agg (clX p))]
  | .bin x p q => [.int .i64 x.op, .ifc (tgX p) (.agg (clX p)), .ifc (tgX q) (.agg (clX q))]
/-- a tree as the program holds it -/
def encX (p : Pr) : V := .ifc (tgX p) (.agg (clX p))
theorem bel_clX {n : Nat} : ∀ p, belAll n (clX p) = true
  | .leaf x => rfl
  | .un _ p => by rw [clX, belAll_cons, bel_ifc, bel_agg, bel_clX p]; rfl
  | .bin _ p q => by rw [clX, belAll_cons, belAll_cons, belAll_cons, bel_ifc, bel_agg, bel_ifc, bel_agg, bel_clX p, bel_clX q]; rfl
theorem bel_encX {n : Nat} (p : Pr) : (encX p).bel n = true := by rw [encX, bel_ifc, bel_agg, bel_clX]
/-- what stands for a tree where there is none -/
inductive Er where
  | no
  | un (e : Er)
  | bin (o : Int) (p : Pr) (e : Er)
def errX : Er → V
  | .no => .nili
  | .un e => .ifc 76 (.agg [errX e])
  | .bin o p e => .ifc 78 (.agg [.int .i64 o, encX p, errX e])
theorem bel_errX {n : Nat} : ∀ m, (errX m).bel n = true
  | .no => rfl
  | .un m => by rw [errX, bel_ifc, bel_agg, belAll_cons, bel_errX m]; rfl
  | .bin o p m => by rw [errX, bel_ifc, bel_agg, belAll_cons, belAll_cons, belAll_cons, bel_encX, bel_errX m]; rfl
theorem st_errX : ∀ m, (errX m).st = errX m
  | .no => rfl
  | .un _ => rfl
  | .bin _ _ _ => rfl
theorem os_errX {g : Bool} {xs : List V} {p : Prop} : ∀ m, optSide g (errX m :: xs) p = optSide g xs p
  | .no => rfl
  | .un _ => rfl
  | .bin _ _ _ => rfl
def rep (f : List Nd → List Nd × Int) : Nat → List Nd → List Nd × Int
  | 0, l => (l, 0)
  | n + 1, l => if (f l).2 ≠ 0 then ([], (f l).2) else rep f n (f l).1
def chk (sw : Int) : Nat → List Nd → List Nd × Int
  | _, [] => ([], 3)
  | 0, _ :: _ => ([], 3)
  | k + 1, x :: l => if chk1 sw x ≠ 0 then ([], chk1 sw x) else rep (chk sw k) (arity x.op).toNat l
theorem rep_len {f : List Nd → List Nd × Int} (h : ∀ l, (f l).1.length ≤ l.length) : ∀ n l, (rep f n l).1.length ≤ l.length
  | 0, l => Nat.le_refl _
  | n + 1, l => by
    rw [rep]
    split
    · exact Nat.zero_le _
    · exact Nat.le_trans (rep_len h n _) (h l)
theorem chk_len (sw : Int) : ∀ k l, (chk sw k l).1.length ≤ l.length
  | 0, [] => Nat.le_refl _
  | 0, _ :: _ => Nat.zero_le _
  | k + 1, [] => Nat.le_refl _
  | k + 1, x :: l => by
    rw [chk]
    split
    · exact Nat.zero_le _
    · exact Nat.le_trans (rep_len (chk_len sw k) _ _) (Nat.le_succ _)
theorem chk1_op {sw : Int} {x : Nd} (h : x.op = 6 ∨ x.op = 4 ∨ x.op = 5) : chk1 sw x = 0 := by
  have ha : ¬ arity x.op < 0 := by rcases h with h | h | h <;> rw [h] <;> decide
  rw [chk1, if_neg ha, if_neg]
  rintro ⟨h3, _⟩
  omega
/-- a list that the check accepts begins with a tree -/
theorem chk_tree (sw : Int) : ∀ k l, (chk sw k l).2 = 0 → ∃ p, okP sw p ∧ l = flat p ++ (chk sw k l).1
  | 0, [], h => by simp [chk] at h
  | 0, _ :: _, h => by simp [chk] at h
  | _ + 1, [], h => by simp [chk] at h
  | k + 1, x :: l, h => by
    rw [chk] at h ⊢
    by_cases hc : chk1 sw x = 0
    case neg =>
      rw [if_pos hc] at h
      exact absurd h hc
    rw [if_neg (fun g => g hc)] at h ⊢
    by_cases h0 : x.op = 1 ∨ x.op = 2 ∨ x.op = 3
    · have ha : arity x.op = 0 := by rw [arity, if_pos h0]
      rw [ha] at h ⊢
      exact ⟨.leaf x, ⟨h0, hc⟩, rfl⟩
    by_cases h4 : x.op = 6
    · have ha : arity x.op = 1 := by rw [arity, if_neg h0, if_pos h4]
      rw [ha, show (1 : Int).toNat = 0 + 1 from rfl, rep] at h ⊢
      by_cases he : (chk sw k l).2 = 0
      · rw [if_neg (fun g => g he)] at h ⊢
        obtain ⟨p, hp, hl⟩ := chk_tree sw k l he
        refine ⟨.un x p, ⟨h4, hp⟩, ?_⟩
        rw [flat, List.cons_append]
        exact congrArg (x :: ·) hl
      · rw [if_pos he] at h
        exact absurd h he
    by_cases h56 : x.op = 4 ∨ x.op = 5
    · have ha : arity x.op = 2 := by rw [arity, if_neg h0, if_neg h4, if_pos h56]
      rw [ha, show (2 : Int).toNat = 0 + 1 + 1 from rfl, rep] at h ⊢
      by_cases he : (chk sw k l).2 = 0
      · rw [if_neg (fun g => g he)] at h ⊢
        rw [rep] at h ⊢
        by_cases he2 : (chk sw k (chk sw k l).1).2 = 0
        · rw [if_neg (fun g => g he2)] at h ⊢
          obtain ⟨p, hp, hl⟩ := chk_tree sw k l he
          obtain ⟨q, hq, hl2⟩ := chk_tree sw k _ he2
          refine ⟨.bin x p q, ⟨h56, hp, hq⟩, ?_⟩
          rw [flat, List.cons_append, List.append_assoc]
          refine congrArg (x :: ·) ?_
          rw [rep, ← hl2]
          exact hl
        · rw [if_pos he2] at h
          exact absurd h he2
      · rw [if_pos he] at h
        exact absurd h he
    · exfalso
      have ha : arity x.op = -1 := by rw [arity, if_neg h0, if_neg h4, if_neg h56]
      rw [chk1, ha, if_pos (by decide)] at hc
      exact absurd hc (by decide)
end Go.Proofs.YtginpkchjeooeaaDoor

/- Chapter 41: the program's tree of a list of nodes. -/
set_option maxRecDepth 100000
set_option maxHeartbeats 4000000
set_option linter.all false
namespace Go.Proofs.YtginpkchjeooeaaDoor
open Go.Vm

/-- what the program makes of a list -/
def bldR (sw : Int) (k : Nat) (l : List Nd) : Prop :=
  if (chk sw k l).2 = 0 then ∃ p, okP sw p ∧ l = flat p ++ (chk sw k l).1 ∧ PC Tryd.prog 38 [slN l, .int .i64 sw] (.tup [encX p, slN (chk sw k l).1, .int .i64 0])
  else ∃ m, PC Tryd.prog 38 [slN l, .int .i64 sw] (.tup [errX m, .sl true [] 0, .int .i64 (chk sw k l).2])
theorem bld_ok {sw : Int} {k : Nat} {l : List Nd} (p : Pr) (hp : okP sw p) (r : List Nd) (hr : chk sw k l = (r, 0)) (hl : l = flat p ++ r) (h : PC Tryd.prog 38 [slN l, .int .i64 sw] (.tup [encX p, slN r, .int .i64 0])) : bldR sw k l := by
  rw [bldR, hr, if_pos rfl]
  exact ⟨p, hp, hl, h⟩
theorem bld_err {sw : Int} {k : Nat} {l : List Nd} (m : Er) (e : Int) (he : e ≠ 0) (hr : chk sw k l = ([], e)) (h : PC Tryd.prog 38 [slN l, .int .i64 sw] (.tup [errX m, .sl true [] 0, .int .i64 e])) : bldR sw k l := by
  rw [bldR, hr, if_neg he]
  exact ⟨m, h⟩
theorem pc38 (sw : Int) : ∀ (k : Nat) (l : List Nd), l.length ≤ k → l.length ≤ 4000000 → bldR sw k l := by
  intro k
  induction k with
  | zero =>
    intro l hl _
    have hl0 : l = [] := List.length_eq_zero_iff.1 (by omega)
    subst hl0
    refine bld_err .no 3 (by decide) rfl ?_
    refine PC.walk tok mixed cfg0 Tryd.func38 rfl Tryd.call38 (by simp [belN, bel_Ns, bel_slN, bel_clX, bel_encX, bel_errX]) (by first | rfl | simp [belN, bel_Ns, bel_slN, bel_clX, bel_encX, bel_errX]) ?_; simp (maxSteps := 2000000) -implicitDefEqProofs +contextual (disch := first | assumption | omega | decide +kernel) only [push_cast, ↓capI, br2_true, br2_false, frk_tt, frk_tf, frk_f, frkD_tt, frkD_tf, frkD_f, pk2_true, pk2_false, imp_true, seval, Nat.reduceLeDiff, Nat.reduceEqDiff, reduceCtorEq, ↓reduceIte, fmN, fm0, take_N, toN1, slN_nil, encN, slN, cfg0, get_flat_part lenN, get_flat_drop lenN, len_flat lenN, encX, st_errX, os_errX, Tryd.ntmps38]
    refine endK.ret ?_ (by first | rfl | simp [belN, bel_Ns, bel_slN, bel_clX, bel_encX, bel_errX]); simp [evRes, getT, retV, Tryd.f38,  errX]
  | succ k ih =>
    intro l hl hm
    cases l with
    | nil =>
      refine bld_err .no 3 (by decide) rfl ?_
      refine PC.walk tok mixed cfg0 Tryd.func38 rfl Tryd.call38 (by simp [belN, bel_Ns, bel_slN, bel_clX, bel_encX, bel_errX]) (by first | rfl | simp [belN, bel_Ns, bel_slN, bel_clX, bel_encX, bel_errX]) ?_; simp (maxSteps := 2000000) -implicitDefEqProofs +contextual (disch := first | assumption | omega | decide +kernel) only [push_cast, ↓capI, br2_true, br2_false, frk_tt, frk_tf, frk_f, frkD_tt, frkD_tf, frkD_f, pk2_true, pk2_false, imp_true, seval, Nat.reduceLeDiff, Nat.reduceEqDiff, reduceCtorEq, ↓reduceIte, fmN, fm0, take_N, toN1, slN_nil, encN, slN, cfg0, get_flat_part lenN, get_flat_drop lenN, len_flat lenN, encX, st_errX, os_errX, Tryd.ntmps38]
      refine endK.ret ?_ (by first | rfl | simp [belN, bel_Ns, bel_slN, bel_clX, bel_encX, bel_errX]); simp [evRes, getT, retV, Tryd.f38,  errX]
    | cons x l =>
      have hm2 : l.length ≤ 4000000 := by simp only [List.length_cons] at hm; omega
      have hk2 : l.length ≤ k := by simp only [List.length_cons] at hl; omega
      have hL : ((l.length : Int) + 1).toNat - 1 = l.length := by omega
      obtain ⟨o, n⟩ := x
      by_cases h1 : o = 1 ∨ o = 2
      · have hc : chk1 sw ⟨o, n⟩ = 0 := by
          have ha : ¬ arity o < 0 := by rcases h1 with h | h <;> rw [h] <;> decide
          rw [chk1, if_neg ha, if_neg]
          rintro ⟨h3, _⟩
          simp only at h3
          omega
        have ha : arity o = 0 := by rcases h1 with h | h <;> rw [h] <;> rfl
        have hn : ¬ o = 3 := by omega
        refine bld_ok (.leaf ⟨o, n⟩) ⟨by simp only; omega, hc⟩ l (by rw [chk, if_neg (fun g => g hc), ha]; rfl) rfl ?_
        rcases h1 with h1 | h1
        · subst h1
          refine PC.walk tok mixed cfg0 Tryd.func38 rfl Tryd.call38 (by simp [belN, bel_Ns, bel_slN, bel_clX, bel_encX, bel_errX]) (by first | rfl | simp [belN, bel_Ns, bel_slN, bel_clX, bel_encX, bel_errX]) ?_; simp (maxSteps := 2000000) -implicitDefEqProofs +contextual (disch := first | assumption | omega | decide +kernel) only [push_cast, ↓capI, br2_true, br2_false, frk_tt, frk_tf, frk_f, frkD_tt, frkD_tf, frkD_f, pk2_true, pk2_false, imp_true, seval, Nat.reduceLeDiff, Nat.reduceEqDiff, reduceCtorEq, ↓reduceIte, fmN, fm0, take_N, toN1, slN_nil, encN, slN, cfg0, get_flat_part lenN, get_flat_drop lenN, len_flat lenN, encX, st_errX, os_errX, Tryd.ntmps38]
          refine endK.ret ?_ (by first | rfl | simp [belN, bel_Ns, bel_slN, bel_clX, bel_encX, bel_errX]); simp [evRes, getT, retV, Tryd.f38,  encX, tgX, clX, nN]
        · subst h1
          refine PC.walk tok mixed cfg0 Tryd.func38 rfl Tryd.call38 (by simp [belN, bel_Ns, bel_slN, bel_clX, bel_encX, bel_errX]) (by first | rfl | simp [belN, bel_Ns, bel_slN, bel_clX, bel_encX, bel_errX]) ?_; simp (maxSteps := 2000000) -implicitDefEqProofs +contextual (disch := first | assumption | omega | decide +kernel) only [push_cast, ↓capI, br2_true, br2_false, frk_tt, frk_tf, frk_f, frkD_tt, frkD_tf, frkD_f, pk2_true, pk2_false, imp_true, seval, Nat.reduceLeDiff, Nat.reduceEqDiff, reduceCtorEq, ↓reduceIte, fmN, fm0, take_N, toN1, slN_nil, encN, slN, cfg0, get_flat_part lenN, get_flat_drop lenN, len_flat lenN, encX, st_errX, os_errX, Tryd.ntmps38]
          refine endK.ret ?_ (by first | rfl | simp [belN, bel_Ns, bel_slN, bel_clX, bel_encX, bel_errX]); simp [evRes, getT, retV, Tryd.f38,  encX, tgX, clX, nN]
      have n1 : ¬ o = 1 := by omega
      have n2 : ¬ o = 2 := by omega
      by_cases h3 : o = 3
      · subst h3
        have ha : arity 3 = 0 := rfl
        by_cases hb : badN sw ⟨3, n⟩
        · have hc : chk1 sw ⟨3, n⟩ = 9 := by
            rw [chk1]
            simp only [ha]
            rw [if_neg (by decide), if_pos ⟨trivial, hb⟩]
          refine bld_err .no 9 (by decide) (by rw [chk, hc, if_pos (by decide)]) ?_
          by_cases b1 : n < 0
          · refine PC.walk tok mixed cfg0 Tryd.func38 rfl Tryd.call38 (by simp [belN, bel_Ns, bel_slN, bel_clX, bel_encX, bel_errX]) (by first | rfl | simp [belN, bel_Ns, bel_slN, bel_clX, bel_encX, bel_errX]) ?_; simp (maxSteps := 2000000) -implicitDefEqProofs +contextual (disch := first | assumption | omega | decide +kernel) only [push_cast, ↓capI, br2_true, br2_false, frk_tt, frk_tf, frk_f, frkD_tt, frkD_tf, frkD_f, pk2_true, pk2_false, imp_true, seval, Nat.reduceLeDiff, Nat.reduceEqDiff, reduceCtorEq, ↓reduceIte, fmN, fm0, take_N, toN1, slN_nil, encN, slN, cfg0, get_flat_part lenN, get_flat_drop lenN, len_flat lenN, encX, st_errX, os_errX, Tryd.ntmps38]
            (try simp (maxSteps := 2000000) -implicitDefEqProofs +contextual (disch := first | assumption | omega | decide +kernel) only [push_cast, ↓capI, br2_true, br2_false, frk_tt, frk_tf, frk_f, frkD_tt, frkD_tf, frkD_f, pk2_true, pk2_false, imp_true, seval, Nat.reduceLeDiff, Nat.reduceEqDiff, reduceCtorEq, ↓reduceIte, fmN, fm0, take_N, toN1, slN_nil, encN, slN, cfg0, get_flat_part lenN, get_flat_drop lenN, len_flat lenN, encX, st_errX, os_errX, b1])
            refine endK.ret ?_ (by first | rfl | simp [belN, bel_Ns, bel_slN, bel_clX, bel_encX, bel_errX]); simp [evRes, getT, retV, Tryd.f38,  errX]
          by_cases b2 : sw ≤ n
          · refine PC.walk tok mixed cfg0 Tryd.func38 rfl Tryd.call38 (by simp [belN, bel_Ns, bel_slN, bel_clX, bel_encX, bel_errX]) (by first | rfl | simp [belN, bel_Ns, bel_slN, bel_clX, bel_encX, bel_errX]) ?_; simp (maxSteps := 2000000) -implicitDefEqProofs +contextual (disch := first | assumption | omega | decide +kernel) only [push_cast, ↓capI, br2_true, br2_false, frk_tt, frk_tf, frk_f, frkD_tt, frkD_tf, frkD_f, pk2_true, pk2_false, imp_true, seval, Nat.reduceLeDiff, Nat.reduceEqDiff, reduceCtorEq, ↓reduceIte, fmN, fm0, take_N, toN1, slN_nil, encN, slN, cfg0, get_flat_part lenN, get_flat_drop lenN, len_flat lenN, encX, st_errX, os_errX, Tryd.ntmps38]
            (try simp (maxSteps := 2000000) -implicitDefEqProofs +contextual (disch := first | assumption | omega | decide +kernel) only [push_cast, ↓capI, br2_true, br2_false, frk_tt, frk_tf, frk_f, frkD_tt, frkD_tf, frkD_f, pk2_true, pk2_false, imp_true, seval, Nat.reduceLeDiff, Nat.reduceEqDiff, reduceCtorEq, ↓reduceIte, fmN, fm0, take_N, toN1, slN_nil, encN, slN, cfg0, get_flat_part lenN, get_flat_drop lenN, len_flat lenN, encX, st_errX, os_errX, b1, b2])
            refine endK.ret ?_ (by first | rfl | simp [belN, bel_Ns, bel_slN, bel_clX, bel_encX, bel_errX]); simp [evRes, getT, retV, Tryd.f38,  errX]
          have b3 : 999999999 < n := by rcases hb with h | h | h <;> simp only at h <;> omega
          refine PC.walk tok mixed cfg0 Tryd.func38 rfl Tryd.call38 (by simp [belN, bel_Ns, bel_slN, bel_clX, bel_encX, bel_errX]) (by first | rfl | simp [belN, bel_Ns, bel_slN, bel_clX, bel_encX, bel_errX]) ?_; simp (maxSteps := 2000000) -implicitDefEqProofs +contextual (disch := first | assumption | omega | decide +kernel) only [push_cast, ↓capI, br2_true, br2_false, frk_tt, frk_tf, frk_f, frkD_tt, frkD_tf, frkD_f, pk2_true, pk2_false, imp_true, seval, Nat.reduceLeDiff, Nat.reduceEqDiff, reduceCtorEq, ↓reduceIte, fmN, fm0, take_N, toN1, slN_nil, encN, slN, cfg0, get_flat_part lenN, get_flat_drop lenN, len_flat lenN, encX, st_errX, os_errX, Tryd.ntmps38]
          (try simp (maxSteps := 2000000) -implicitDefEqProofs +contextual (disch := first | assumption | omega | decide +kernel) only [push_cast, ↓capI, br2_true, br2_false, frk_tt, frk_tf, frk_f, frkD_tt, frkD_tf, frkD_f, pk2_true, pk2_false, imp_true, seval, Nat.reduceLeDiff, Nat.reduceEqDiff, reduceCtorEq, ↓reduceIte, fmN, fm0, take_N, toN1, slN_nil, encN, slN, cfg0, get_flat_part lenN, get_flat_drop lenN, len_flat lenN, encX, st_errX, os_errX, b1, b2, b3])
          refine endK.ret ?_ (by first | rfl | simp [belN, bel_Ns, bel_slN, bel_clX, bel_encX, bel_errX]); simp [evRes, getT, retV, Tryd.f38,  errX]
        · have hc : chk1 sw ⟨3, n⟩ = 0 := by
            rw [chk1]
            simp only [ha]
            rw [if_neg (by decide), if_neg (fun h => hb h.2)]
          have b1 : ¬ n < 0 := fun h => hb (.inl h)
          have b2 : ¬ sw ≤ n := fun h => hb (.inr (.inl h))
          have b3 : ¬ 999999999 < n := fun h => hb (.inr (.inr h))
          refine bld_ok (.leaf ⟨3, n⟩) ⟨by simp, hc⟩ l (by rw [chk, if_neg (fun g => g hc)]; rfl) rfl ?_
          refine PC.walk tok mixed cfg0 Tryd.func38 rfl Tryd.call38 (by simp [belN, bel_Ns, bel_slN, bel_clX, bel_encX, bel_errX]) (by first | rfl | simp [belN, bel_Ns, bel_slN, bel_clX, bel_encX, bel_errX]) ?_; simp (maxSteps := 2000000) -implicitDefEqProofs +contextual (disch := first | assumption | omega | decide +kernel) only [push_cast, ↓capI, br2_true, br2_false, frk_tt, frk_tf, frk_f, frkD_tt, frkD_tf, frkD_f, pk2_true, pk2_false, imp_true, seval, Nat.reduceLeDiff, Nat.reduceEqDiff, reduceCtorEq, ↓reduceIte, fmN, fm0, take_N, toN1, slN_nil, encN, slN, cfg0, get_flat_part lenN, get_flat_drop lenN, len_flat lenN, encX, st_errX, os_errX, Tryd.ntmps38]
          (try simp (maxSteps := 2000000) -implicitDefEqProofs +contextual (disch := first | assumption | omega | decide +kernel) only [push_cast, ↓capI, br2_true, br2_false, frk_tt, frk_tf, frk_f, frkD_tt, frkD_tf, frkD_f, pk2_true, pk2_false, imp_true, seval, Nat.reduceLeDiff, Nat.reduceEqDiff, reduceCtorEq, ↓reduceIte, fmN, fm0, take_N, toN1, slN_nil, encN, slN, cfg0, get_flat_part lenN, get_flat_drop lenN, len_flat lenN, encX, st_errX, os_errX, b1, b2, b3])
          refine endK.ret ?_ (by first | rfl | simp [belN, bel_Ns, bel_slN, bel_clX, bel_encX, bel_errX]); simp [evRes, getT, retV, Tryd.f38,  encX, tgX, clX, nN]
      by_cases h6 : o = 6
      · subst h6
        have hc : chk1 sw ⟨6, n⟩ = 0 := chk1_op (.inl rfl)
        have ha : arity 6 = 1 := rfl
        have hr : chk sw (k + 1) (⟨6, n⟩ :: l) = if (chk sw k l).2 ≠ 0 then ([], (chk sw k l).2) else ((chk sw k l).1, 0) := by
          rw [chk, if_neg (fun g => g hc)]
          simp only [ha]
          rfl
        have i1 := ih l hk2 hm2
        rw [bldR] at i1
        by_cases he : (chk sw k l).2 = 0
        · rw [if_pos he] at i1
          obtain ⟨p, hp, hl, hpc⟩ := i1
          refine bld_ok (.un ⟨6, n⟩ p) ⟨rfl, hp⟩ (chk sw k l).1 (by rw [hr, if_neg (fun g => g he)]) (by rw [flat, List.cons_append, ← hl]) ?_
          refine PC.walk tok mixed cfg0 Tryd.func38 rfl Tryd.call38 (by simp [belN, bel_Ns, bel_slN, bel_clX, bel_encX, bel_errX]) (by first | rfl | simp [belN, bel_Ns, bel_slN, bel_clX, bel_encX, bel_errX]) ?_; simp (maxSteps := 2000000) -implicitDefEqProofs +contextual (disch := first | assumption | omega | decide +kernel) only [push_cast, ↓capI, br2_true, br2_false, frk_tt, frk_tf, frk_f, frkD_tt, frkD_tf, frkD_f, pk2_true, pk2_false, imp_true, seval, Nat.reduceLeDiff, Nat.reduceEqDiff, reduceCtorEq, ↓reduceIte, fmN, fm0, take_N, toN1, slN_nil, encN, slN, cfg0, get_flat_part lenN, get_flat_drop lenN, len_flat lenN, encX, st_errX, os_errX, Tryd.ntmps38]
          refine callO.pc hpc ?_
          simp (maxSteps := 2000000) -implicitDefEqProofs +contextual (disch := first | assumption | omega | decide +kernel) only [push_cast, ↓capI, br2_true, br2_false, frk_tt, frk_tf, frk_f, frkD_tt, frkD_tf, frkD_f, pk2_true, pk2_false, imp_true, seval, Nat.reduceLeDiff, Nat.reduceEqDiff, reduceCtorEq, ↓reduceIte, fmN, fm0, take_N, toN1, slN_nil, encN, slN, cfg0, get_flat_part lenN, get_flat_drop lenN, len_flat lenN, encX, st_errX, os_errX]
          refine endK.ret ?_ (by first | rfl | simp [belN, bel_Ns, bel_slN, bel_clX, bel_encX, bel_errX]); simp [evRes, getT, retV, Tryd.f38,  encX, tgX, clX, slN]
        · rw [if_neg he] at i1
          obtain ⟨m, hpc⟩ := i1
          refine bld_err (.un m) _ he (by rw [hr, if_pos he]) ?_
          cases m
          all_goals
            refine PC.walk tok mixed cfg0 Tryd.func38 rfl Tryd.call38 (by simp [belN, bel_Ns, bel_slN, bel_clX, bel_encX, bel_errX]) (by first | rfl | simp [belN, bel_Ns, bel_slN, bel_clX, bel_encX, bel_errX]) ?_; simp (maxSteps := 2000000) -implicitDefEqProofs +contextual (disch := first | assumption | omega | decide +kernel) only [push_cast, ↓capI, br2_true, br2_false, frk_tt, frk_tf, frk_f, frkD_tt, frkD_tf, frkD_f, pk2_true, pk2_false, imp_true, seval, Nat.reduceLeDiff, Nat.reduceEqDiff, reduceCtorEq, ↓reduceIte, fmN, fm0, take_N, toN1, slN_nil, encN, slN, cfg0, get_flat_part lenN, get_flat_drop lenN, len_flat lenN, encX, st_errX, os_errX, Tryd.ntmps38]
            refine callO.pc hpc ?_
            simp (maxSteps := 2000000) -implicitDefEqProofs +contextual (disch := first | assumption | omega | decide +kernel) only [push_cast, ↓capI, br2_true, br2_false, frk_tt, frk_tf, frk_f, frkD_tt, frkD_tf, frkD_f, pk2_true, pk2_false, imp_true, seval, Nat.reduceLeDiff, Nat.reduceEqDiff, reduceCtorEq, ↓reduceIte, fmN, fm0, take_N, toN1, slN_nil, encN, slN, cfg0, get_flat_part lenN, get_flat_drop lenN, len_flat lenN, encX, st_errX, os_errX, errX]
            refine endK.ret ?_ (by first | rfl | simp [belN, bel_Ns, bel_slN, bel_clX, bel_encX, bel_errX]); simp [evRes, getT, retV, Tryd.f38,  errX]
      by_cases h45 : o = 4 ∨ o = 5
      · have hc : chk1 sw ⟨o, n⟩ = 0 := chk1_op (.inr h45)
        have ha : arity o = 2 := by rcases h45 with h | h <;> rw [h] <;> rfl
        have hr : chk sw (k + 1) (⟨o, n⟩ :: l) = if (chk sw k l).2 ≠ 0 then ([], (chk sw k l).2) else if (chk sw k (chk sw k l).1).2 ≠ 0 then ([], (chk sw k (chk sw k l).1).2) else ((chk sw k (chk sw k l).1).1, 0) := by
          rw [chk, if_neg (fun g => g hc)]
          simp only [ha]
          rfl
        have i1 := ih l hk2 hm2
        have hlen := chk_len sw k l
        have i2 := ih (chk sw k l).1 (by omega) (by omega)
        rw [bldR] at i1 i2
        by_cases he : (chk sw k l).2 = 0
        case neg =>
          rw [if_neg he] at i1
          obtain ⟨m, hpc⟩ := i1
          refine bld_err .no _ he (by rw [hr, if_pos he]) ?_
          rcases h45 with h | h <;> subst h
          all_goals
            refine PC.walk tok mixed cfg0 Tryd.func38 rfl Tryd.call38 (by simp [belN, bel_Ns, bel_slN, bel_clX, bel_encX, bel_errX]) (by first | rfl | simp [belN, bel_Ns, bel_slN, bel_clX, bel_encX, bel_errX]) ?_; simp (maxSteps := 2000000) -implicitDefEqProofs +contextual (disch := first | assumption | omega | decide +kernel) only [push_cast, ↓capI, br2_true, br2_false, frk_tt, frk_tf, frk_f, frkD_tt, frkD_tf, frkD_f, pk2_true, pk2_false, imp_true, seval, Nat.reduceLeDiff, Nat.reduceEqDiff, reduceCtorEq, ↓reduceIte, fmN, fm0, take_N, toN1, slN_nil, encN, slN, cfg0, get_flat_part lenN, get_flat_drop lenN, len_flat lenN, encX, st_errX, os_errX, Tryd.ntmps38]
            refine callO.pc hpc ?_
            (try simp (maxSteps := 2000000) -implicitDefEqProofs +contextual (disch := first | assumption | omega | decide +kernel) only [push_cast, ↓capI, br2_true, br2_false, frk_tt, frk_tf, frk_f, frkD_tt, frkD_tf, frkD_f, pk2_true, pk2_false, imp_true, seval, Nat.reduceLeDiff, Nat.reduceEqDiff, reduceCtorEq, ↓reduceIte, fmN, fm0, take_N, toN1, slN_nil, encN, slN, cfg0, get_flat_part lenN, get_flat_drop lenN, len_flat lenN, encX, st_errX, os_errX, he])
            refine endK.ret ?_ (by first | rfl | simp [belN, bel_Ns, bel_slN, bel_clX, bel_encX, bel_errX]); simp [evRes, getT, retV, Tryd.f38,  errX]
        rw [if_pos he] at i1
        rw [if_neg (fun g => g he)] at hr
        obtain ⟨p, hp, hl1, hpc⟩ := i1
        generalize chk sw k l = c at *
        obtain ⟨r, e⟩ := c
        simp only at he hl1 hpc i2 hr hlen
        by_cases he2 : (chk sw k r).2 = 0
        · rw [if_pos he2] at i2
          rw [if_neg (fun g => g he2)] at hr
          obtain ⟨q, hq, hl2, hpc2⟩ := i2
          refine bld_ok (.bin ⟨o, n⟩ p q) ⟨h45, hp, hq⟩ (chk sw k r).1 hr (by rw [flat, List.cons_append, List.append_assoc, ← hl2, ← hl1]) ?_
          rcases h45 with h | h <;> subst h
          all_goals
            refine PC.walk tok mixed cfg0 Tryd.func38 rfl Tryd.call38 (by simp [belN, bel_Ns, bel_slN, bel_clX, bel_encX, bel_errX]) (by first | rfl | simp [belN, bel_Ns, bel_slN, bel_clX, bel_encX, bel_errX]) ?_; simp (maxSteps := 2000000) -implicitDefEqProofs +contextual (disch := first | assumption | omega | decide +kernel) only [push_cast, ↓capI, br2_true, br2_false, frk_tt, frk_tf, frk_f, frkD_tt, frkD_tf, frkD_f, pk2_true, pk2_false, imp_true, seval, Nat.reduceLeDiff, Nat.reduceEqDiff, reduceCtorEq, ↓reduceIte, fmN, fm0, take_N, toN1, slN_nil, encN, slN, cfg0, get_flat_part lenN, get_flat_drop lenN, len_flat lenN, encX, st_errX, os_errX, Tryd.ntmps38]
            refine callO.pc hpc ?_
            simp (maxSteps := 2000000) -implicitDefEqProofs +contextual (disch := first | assumption | omega | decide +kernel) only [push_cast, ↓capI, br2_true, br2_false, frk_tt, frk_tf, frk_f, frkD_tt, frkD_tf, frkD_f, pk2_true, pk2_false, imp_true, seval, Nat.reduceLeDiff, Nat.reduceEqDiff, reduceCtorEq, ↓reduceIte, fmN, fm0, take_N, toN1, slN_nil, encN, slN, cfg0, get_flat_part lenN, get_flat_drop lenN, len_flat lenN, encX, st_errX, os_errX]
            refine callO.pc hpc2 ?_
            simp (maxSteps := 2000000) -implicitDefEqProofs +contextual (disch := first | assumption | omega | decide +kernel) only [push_cast, ↓capI, br2_true, br2_false, frk_tt, frk_tf, frk_f, frkD_tt, frkD_tf, frkD_f, pk2_true, pk2_false, imp_true, seval, Nat.reduceLeDiff, Nat.reduceEqDiff, reduceCtorEq, ↓reduceIte, fmN, fm0, take_N, toN1, slN_nil, encN, slN, cfg0, get_flat_part lenN, get_flat_drop lenN, len_flat lenN, encX, st_errX, os_errX]
            refine endK.ret ?_ (by first | rfl | simp [belN, bel_Ns, bel_slN, bel_clX, bel_encX, bel_errX]); simp [evRes, getT, retV, Tryd.f38,  encX, tgX, clX, slN]
        · rw [if_neg he2] at i2
          rw [if_pos he2] at hr
          obtain ⟨m, hpc2⟩ := i2
          refine bld_err (.bin o p m) _ he2 hr ?_
          rcases h45 with h | h <;> subst h
          all_goals cases m
          all_goals
            refine PC.walk tok mixed cfg0 Tryd.func38 rfl Tryd.call38 (by simp [belN, bel_Ns, bel_slN, bel_clX, bel_encX, bel_errX]) (by first | rfl | simp [belN, bel_Ns, bel_slN, bel_clX, bel_encX, bel_errX]) ?_; simp (maxSteps := 2000000) -implicitDefEqProofs +contextual (disch := first | assumption | omega | decide +kernel) only [push_cast, ↓capI, br2_true, br2_false, frk_tt, frk_tf, frk_f, frkD_tt, frkD_tf, frkD_f, pk2_true, pk2_false, imp_true, seval, Nat.reduceLeDiff, Nat.reduceEqDiff, reduceCtorEq, ↓reduceIte, fmN, fm0, take_N, toN1, slN_nil, encN, slN, cfg0, get_flat_part lenN, get_flat_drop lenN, len_flat lenN, encX, st_errX, os_errX, Tryd.ntmps38]
            refine callO.pc hpc ?_
            simp (maxSteps := 2000000) -implicitDefEqProofs +contextual (disch := first | assumption | omega | decide +kernel) only [push_cast, ↓capI, br2_true, br2_false, frk_tt, frk_tf, frk_f, frkD_tt, frkD_tf, frkD_f, pk2_true, pk2_false, imp_true, seval, Nat.reduceLeDiff, Nat.reduceEqDiff, reduceCtorEq, ↓reduceIte, fmN, fm0, take_N, toN1, slN_nil, encN, slN, cfg0, get_flat_part lenN, get_flat_drop lenN, len_flat lenN, encX, st_errX, os_errX]
            refine callO.pc hpc2 ?_
            simp (maxSteps := 2000000) -implicitDefEqProofs +contextual (disch := first | assumption | omega | decide +kernel) only [push_cast, ↓capI, br2_true, br2_false, frk_tt, frk_tf, frk_f, frkD_tt, frkD_tf, frkD_f, pk2_true, pk2_false, imp_true, seval, Nat.reduceLeDiff, Nat.reduceEqDiff, reduceCtorEq, ↓reduceIte, fmN, fm0, take_N, toN1, slN_nil, encN, slN, cfg0, get_flat_part lenN, get_flat_drop lenN, len_flat lenN, encX, st_errX, os_errX, errX]
            refine endK.ret ?_ (by first | rfl | simp [belN, bel_Ns, bel_slN, bel_clX, bel_encX, bel_errX]); simp [evRes, getT, retV, Tryd.f38,  errX, encX]
      · have ha : arity o = -1 := by rw [arity, if_neg (by omega), if_neg h6, if_neg h45]
        have hc : chk1 sw ⟨o, n⟩ = 11 := by
          rw [chk1]
          simp only [ha]
          rfl
        have n4 : ¬ o = 4 := by omega
        have n5 : ¬ o = 5 := by omega
        refine bld_err .no 11 (by decide) (by rw [chk, hc, if_pos (by decide)]) ?_
        refine PC.walk tok mixed cfg0 Tryd.func38 rfl Tryd.call38 (by simp [belN, bel_Ns, bel_slN, bel_clX, bel_encX, bel_errX]) (by first | rfl | simp [belN, bel_Ns, bel_slN, bel_clX, bel_encX, bel_errX]) ?_; simp (maxSteps := 2000000) -implicitDefEqProofs +contextual (disch := first | assumption | omega | decide +kernel) only [push_cast, ↓capI, br2_true, br2_false, frk_tt, frk_tf, frk_f, frkD_tt, frkD_tf, frkD_f, pk2_true, pk2_false, imp_true, seval, Nat.reduceLeDiff, Nat.reduceEqDiff, reduceCtorEq, ↓reduceIte, fmN, fm0, take_N, toN1, slN_nil, encN, slN, cfg0, get_flat_part lenN, get_flat_drop lenN, len_flat lenN, encX, st_errX, os_errX, Tryd.ntmps38]
        (try simp (maxSteps := 2000000) -implicitDefEqProofs +contextual (disch := first | assumption | omega | decide +kernel) only [push_cast, ↓capI, br2_true, br2_false, frk_tt, frk_tf, frk_f, frkD_tt, frkD_tf, frkD_f, pk2_true, pk2_false, imp_true, seval, Nat.reduceLeDiff, Nat.reduceEqDiff, reduceCtorEq, ↓reduceIte, fmN, fm0, take_N, toN1, slN_nil, encN, slN, cfg0, get_flat_part lenN, get_flat_drop lenN, len_flat lenN, encX, st_errX, os_errX, n1, n2, h3, n4, n5, h6])
        refine endK.ret ?_ (by first | rfl | simp [belN, bel_Ns, bel_slN, bel_clX, bel_encX, bel_errX]); simp [evRes, getT, retV, Tryd.f38,  errX]
end Go.Proofs.YtginpkchjeooeaaDoor

/- Chapter 41: the program's check of a list of nodes. -/
set_option maxRecDepth 100000
set_option maxHeartbeats 4000000
set_option linter.all false
namespace Go.Proofs.YtginpkchjeooeaaDoor
open Go.Vm

def checkP (sw : Int) (l : List Nd) : Int := if 24 < l.length then 12 else if (chk sw l.length l).2 = 0 ∧ (chk sw l.length l).1 ≠ [] then 4 else (chk sw l.length l).2
theorem checkP_big {sw : Int} {l : List Nd} (h : 24 < l.length) : checkP sw l = 12 := by rw [checkP, if_pos h]
theorem checkP_err {sw : Int} {l : List Nd} (h : ¬ 24 < l.length) (he : ¬ (chk sw l.length l).2 = 0) : checkP sw l = (chk sw l.length l).2 := by rw [checkP, if_neg h, if_neg (fun g => he g.1)]
theorem checkP_long {sw : Int} {l : List Nd} (h : ¬ 24 < l.length) (he : (chk sw l.length l).2 = 0) (hn : ¬ (chk sw l.length l).1 = []) : checkP sw l = 4 := by rw [checkP, if_neg h, if_pos ⟨he, hn⟩]
theorem checkP_ok {sw : Int} {l : List Nd} (h : ¬ 24 < l.length) (he : (chk sw l.length l).2 = 0) (hn : (chk sw l.length l).1 = []) : checkP sw l = 0 := by rw [checkP, if_neg h, if_neg (fun g => g.2 hn), he]
/-- what the program makes of a whole list -/
def treR (f : Nat) (args : List V) (sw : Int) (l : List Nd) : Prop :=
  (checkP sw l = 0 ∧ ∃ p, okP sw p ∧ l = flat p ∧ l.length ≤ 24 ∧ PC Tryd.prog f args (.tup [encX p, .int .i64 0])) ∨
  (checkP sw l ≠ 0 ∧ PC Tryd.prog f args (.tup [.nili, .int .i64 (checkP sw l)]))
theorem tree26 (sw : Int) (l : List Nd) (hl : l.length ≤ 4000000) : treR 26 [slN l, .int .i64 sw] sw l := by
  by_cases h : 24 < l.length
  · refine .inr ⟨by rw [checkP_big h]; decide, ?_⟩
    rw [checkP_big h]
    refine PC.walk tok mixed cfg0 Tryd.func26 rfl Tryd.call26 (by simp [belN, bel_Ns, bel_slN, bel_clX, bel_encX, bel_errX]) (by first | rfl | simp [belN, bel_Ns, bel_slN, bel_clX, bel_encX, bel_errX]) ?_; simp (maxSteps := 2000000) -implicitDefEqProofs +contextual (disch := first | assumption | omega | decide +kernel) only [push_cast, ↓capI, br2_true, br2_false, frk_tt, frk_tf, frk_f, frkD_tt, frkD_tf, frkD_f, pk2_true, pk2_false, imp_true, seval, Nat.reduceLeDiff, Nat.reduceEqDiff, reduceCtorEq, ↓reduceIte, fmN, fm0, take_N, toN1, slN_nil, encN, slN, cfg0, get_flat_part lenN, get_flat_drop lenN, len_flat lenN, encX, st_errX, os_errX, Tryd.ntmps26]
    refine endK.ret ?_ (by first | rfl | simp [belN, bel_Ns, bel_slN, bel_clX, bel_encX, bel_errX]); simp [evRes, getT, retV, Tryd.f26]
  have hb := pc38 sw l.length l (Nat.le_refl _) hl
  rw [bldR] at hb
  by_cases he : (chk sw l.length l).2 = 0
  · rw [if_pos he] at hb
    obtain ⟨p, hp, hf, hpc⟩ := hb
    by_cases hn : (chk sw l.length l).1 = []
    · refine .inl ⟨checkP_ok h he hn, p, hp, by rw [hn, List.append_nil] at hf; exact hf, by omega, ?_⟩
      rw [hn] at hpc
      refine PC.walk tok mixed cfg0 Tryd.func26 rfl Tryd.call26 (by simp [belN, bel_Ns, bel_slN, bel_clX, bel_encX, bel_errX]) (by first | rfl | simp [belN, bel_Ns, bel_slN, bel_clX, bel_encX, bel_errX]) ?_; simp (maxSteps := 2000000) -implicitDefEqProofs +contextual (disch := first | assumption | omega | decide +kernel) only [push_cast, ↓capI, br2_true, br2_false, frk_tt, frk_tf, frk_f, frkD_tt, frkD_tf, frkD_f, pk2_true, pk2_false, imp_true, seval, Nat.reduceLeDiff, Nat.reduceEqDiff, reduceCtorEq, ↓reduceIte, fmN, fm0, take_N, toN1, slN_nil, encN, slN, cfg0, get_flat_part lenN, get_flat_drop lenN, len_flat lenN, encX, st_errX, os_errX, Tryd.ntmps26]
      refine callO.pc hpc ?_
      simp (maxSteps := 2000000) -implicitDefEqProofs +contextual (disch := first | assumption | omega | decide +kernel) only [push_cast, ↓capI, br2_true, br2_false, frk_tt, frk_tf, frk_f, frkD_tt, frkD_tf, frkD_f, pk2_true, pk2_false, imp_true, seval, Nat.reduceLeDiff, Nat.reduceEqDiff, reduceCtorEq, ↓reduceIte, fmN, fm0, take_N, toN1, slN_nil, encN, slN, cfg0, get_flat_part lenN, get_flat_drop lenN, len_flat lenN, encX, st_errX, os_errX]
      refine endK.ret ?_ (by first | rfl | simp [belN, bel_Ns, bel_slN, bel_clX, bel_encX, bel_errX]); simp [evRes, getT, retV, Tryd.f26,  encX]
    · have hp0 : 0 < (chk sw l.length l).1.length := List.length_pos_iff.2 hn
      have hle := chk_len sw l.length l
      refine .inr ⟨by rw [checkP_long h he hn]; decide, ?_⟩
      rw [checkP_long h he hn]
      refine PC.walk tok mixed cfg0 Tryd.func26 rfl Tryd.call26 (by simp [belN, bel_Ns, bel_slN, bel_clX, bel_encX, bel_errX]) (by first | rfl | simp [belN, bel_Ns, bel_slN, bel_clX, bel_encX, bel_errX]) ?_; simp (maxSteps := 2000000) -implicitDefEqProofs +contextual (disch := first | assumption | omega | decide +kernel) only [push_cast, ↓capI, br2_true, br2_false, frk_tt, frk_tf, frk_f, frkD_tt, frkD_tf, frkD_f, pk2_true, pk2_false, imp_true, seval, Nat.reduceLeDiff, Nat.reduceEqDiff, reduceCtorEq, ↓reduceIte, fmN, fm0, take_N, toN1, slN_nil, encN, slN, cfg0, get_flat_part lenN, get_flat_drop lenN, len_flat lenN, encX, st_errX, os_errX, Tryd.ntmps26]
      refine callO.pc hpc ?_
      simp (maxSteps := 2000000) -implicitDefEqProofs +contextual (disch := first | assumption | omega | decide +kernel) only [push_cast, ↓capI, br2_true, br2_false, frk_tt, frk_tf, frk_f, frkD_tt, frkD_tf, frkD_f, pk2_true, pk2_false, imp_true, seval, Nat.reduceLeDiff, Nat.reduceEqDiff, reduceCtorEq, ↓reduceIte, fmN, fm0, take_N, toN1, slN_nil, encN, slN, cfg0, get_flat_part lenN, get_flat_drop lenN, len_flat lenN, encX, st_errX, os_errX, hp0]
      refine endK.ret ?_ (by first | rfl | simp [belN, bel_Ns, bel_slN, bel_clX, bel_encX, bel_errX]); simp [evRes, getT, retV, Tryd.f26]
  · rw [if_neg he] at hb
    obtain ⟨m, hpc⟩ := hb
    refine .inr ⟨by rw [checkP_err h he]; exact he, ?_⟩
    rw [checkP_err h he]
    refine PC.walk tok mixed cfg0 Tryd.func26 rfl Tryd.call26 (by simp [belN, bel_Ns, bel_slN, bel_clX, bel_encX, bel_errX]) (by first | rfl | simp [belN, bel_Ns, bel_slN, bel_clX, bel_encX, bel_errX]) ?_; simp (maxSteps := 2000000) -implicitDefEqProofs +contextual (disch := first | assumption | omega | decide +kernel) only [push_cast, ↓capI, br2_true, br2_false, frk_tt, frk_tf, frk_f, frkD_tt, frkD_tf, frkD_f, pk2_true, pk2_false, imp_true, seval, Nat.reduceLeDiff, Nat.reduceEqDiff, reduceCtorEq, ↓reduceIte, fmN, fm0, take_N, toN1, slN_nil, encN, slN, cfg0, get_flat_part lenN, get_flat_drop lenN, len_flat lenN, encX, st_errX, os_errX, Tryd.ntmps26]
    refine callO.pc hpc ?_
    simp (maxSteps := 2000000) -implicitDefEqProofs +contextual (disch := first | assumption | omega | decide +kernel) only [push_cast, ↓capI, br2_true, br2_false, frk_tt, frk_tf, frk_f, frkD_tt, frkD_tf, frkD_f, pk2_true, pk2_false, imp_true, seval, Nat.reduceLeDiff, Nat.reduceEqDiff, reduceCtorEq, ↓reduceIte, fmN, fm0, take_N, toN1, slN_nil, encN, slN, cfg0, get_flat_part lenN, get_flat_drop lenN, len_flat lenN, encX, st_errX, os_errX, he]
    refine endK.ret ?_ (by first | rfl | simp [belN, bel_Ns, bel_slN, bel_clX, bel_encX, bel_errX]); simp [evRes, getT, retV, Tryd.f26]
theorem tree28 (l : List Nd) (hl : l.length ≤ 4000000) : treR 28 [slN l] 1000000000 l := by
  rcases tree26 1000000000 l hl with ⟨hc, p, hp, hf, h24, hpc⟩ | ⟨hc, hpc⟩
  · refine .inl ⟨hc, p, hp, hf, h24, ?_⟩
    refine PC.walk tok mixed cfg0 Tryd.func28 rfl Tryd.call28 (by simp [belN, bel_Ns, bel_slN, bel_clX, bel_encX, bel_errX]) (by first | rfl | simp [belN, bel_Ns, bel_slN, bel_clX, bel_encX, bel_errX]) ?_; simp (maxSteps := 2000000) -implicitDefEqProofs +contextual (disch := first | assumption | omega | decide +kernel) only [push_cast, ↓capI, br2_true, br2_false, frk_tt, frk_tf, frk_f, frkD_tt, frkD_tf, frkD_f, pk2_true, pk2_false, imp_true, seval, Nat.reduceLeDiff, Nat.reduceEqDiff, reduceCtorEq, ↓reduceIte, fmN, fm0, take_N, toN1, slN_nil, encN, slN, cfg0, get_flat_part lenN, get_flat_drop lenN, len_flat lenN, encX, st_errX, os_errX, Tryd.ntmps28]
    refine callO.pc hpc ?_
    simp (maxSteps := 2000000) -implicitDefEqProofs +contextual (disch := first | assumption | omega | decide +kernel) only [push_cast, ↓capI, br2_true, br2_false, frk_tt, frk_tf, frk_f, frkD_tt, frkD_tf, frkD_f, pk2_true, pk2_false, imp_true, seval, Nat.reduceLeDiff, Nat.reduceEqDiff, reduceCtorEq, ↓reduceIte, fmN, fm0, take_N, toN1, slN_nil, encN, slN, cfg0, get_flat_part lenN, get_flat_drop lenN, len_flat lenN, encX, st_errX, os_errX]
    refine endK.ret ?_ (by first | rfl | simp [belN, bel_Ns, bel_slN, bel_clX, bel_encX, bel_errX]); simp [evRes, getT, retV, Tryd.f28,  encX]
  · refine .inr ⟨hc, ?_⟩
    refine PC.walk tok mixed cfg0 Tryd.func28 rfl Tryd.call28 (by simp [belN, bel_Ns, bel_slN, bel_clX, bel_encX, bel_errX]) (by first | rfl | simp [belN, bel_Ns, bel_slN, bel_clX, bel_encX, bel_errX]) ?_; simp (maxSteps := 2000000) -implicitDefEqProofs +contextual (disch := first | assumption | omega | decide +kernel) only [push_cast, ↓capI, br2_true, br2_false, frk_tt, frk_tf, frk_f, frkD_tt, frkD_tf, frkD_f, pk2_true, pk2_false, imp_true, seval, Nat.reduceLeDiff, Nat.reduceEqDiff, reduceCtorEq, ↓reduceIte, fmN, fm0, take_N, toN1, slN_nil, encN, slN, cfg0, get_flat_part lenN, get_flat_drop lenN, len_flat lenN, encX, st_errX, os_errX, Tryd.ntmps28]
    refine callO.pc hpc ?_
    simp (maxSteps := 2000000) -implicitDefEqProofs +contextual (disch := first | assumption | omega | decide +kernel) only [push_cast, ↓capI, br2_true, br2_false, frk_tt, frk_tf, frk_f, frkD_tt, frkD_tf, frkD_f, pk2_true, pk2_false, imp_true, seval, Nat.reduceLeDiff, Nat.reduceEqDiff, reduceCtorEq, ↓reduceIte, fmN, fm0, take_N, toN1, slN_nil, encN, slN, cfg0, get_flat_part lenN, get_flat_drop lenN, len_flat lenN, encX, st_errX, os_errX]
    refine endK.ret ?_ (by first | rfl | simp [belN, bel_Ns, bel_slN, bel_clX, bel_encX, bel_errX]); simp [evRes, getT, retV, Tryd.f28]
theorem pc11 (sw : Int) (l : List Nd) (hl : l.length ≤ 4000000) : PC Tryd.prog 11 [slN l, .int .i64 sw] (.int .i64 (checkP sw l)) := by
  rcases tree26 sw l hl with ⟨hc, p, hp, hf, h24, hpc⟩ | ⟨hc, hpc⟩
  · rw [hc]
    refine PC.walk tok mixed cfg0 Tryd.func11 rfl Tryd.call11 (by simp [belN, bel_Ns, bel_slN, bel_clX, bel_encX, bel_errX]) (by first | rfl | simp [belN, bel_Ns, bel_slN, bel_clX, bel_encX, bel_errX]) ?_; simp (maxSteps := 2000000) -implicitDefEqProofs +contextual (disch := first | assumption | omega | decide +kernel) only [push_cast, ↓capI, br2_true, br2_false, frk_tt, frk_tf, frk_f, frkD_tt, frkD_tf, frkD_f, pk2_true, pk2_false, imp_true, seval, Nat.reduceLeDiff, Nat.reduceEqDiff, reduceCtorEq, ↓reduceIte, fmN, fm0, take_N, toN1, slN_nil, encN, slN, cfg0, get_flat_part lenN, get_flat_drop lenN, len_flat lenN, encX, st_errX, os_errX, Tryd.ntmps11]
    refine callO.pc hpc ?_
    simp (maxSteps := 2000000) -implicitDefEqProofs +contextual (disch := first | assumption | omega | decide +kernel) only [push_cast, ↓capI, br2_true, br2_false, frk_tt, frk_tf, frk_f, frkD_tt, frkD_tf, frkD_f, pk2_true, pk2_false, imp_true, seval, Nat.reduceLeDiff, Nat.reduceEqDiff, reduceCtorEq, ↓reduceIte, fmN, fm0, take_N, toN1, slN_nil, encN, slN, cfg0, get_flat_part lenN, get_flat_drop lenN, len_flat lenN, encX, st_errX, os_errX]
    refine endK.ret ?_ (by first | rfl | simp [belN, bel_Ns, bel_slN, bel_clX, bel_encX, bel_errX]); simp [evRes, getT, retV, Tryd.f11]
  · refine PC.walk tok mixed cfg0 Tryd.func11 rfl Tryd.call11 (by simp [belN, bel_Ns, bel_slN, bel_clX, bel_encX, bel_errX]) (by first | rfl | simp [belN, bel_Ns, bel_slN, bel_clX, bel_encX, bel_errX]) ?_; simp (maxSteps := 2000000) -implicitDefEqProofs +contextual (disch := first | assumption | omega | decide +kernel) only [push_cast, ↓capI, br2_true, br2_false, frk_tt, frk_tf, frk_f, frkD_tt, frkD_tf, frkD_f, pk2_true, pk2_false, imp_true, seval, Nat.reduceLeDiff, Nat.reduceEqDiff, reduceCtorEq, ↓reduceIte, fmN, fm0, take_N, toN1, slN_nil, encN, slN, cfg0, get_flat_part lenN, get_flat_drop lenN, len_flat lenN, encX, st_errX, os_errX, Tryd.ntmps11]
    refine callO.pc hpc ?_
    simp (maxSteps := 2000000) -implicitDefEqProofs +contextual (disch := first | assumption | omega | decide +kernel) only [push_cast, ↓capI, br2_true, br2_false, frk_tt, frk_tf, frk_f, frkD_tt, frkD_tf, frkD_f, pk2_true, pk2_false, imp_true, seval, Nat.reduceLeDiff, Nat.reduceEqDiff, reduceCtorEq, ↓reduceIte, fmN, fm0, take_N, toN1, slN_nil, encN, slN, cfg0, get_flat_part lenN, get_flat_drop lenN, len_flat lenN, encX, st_errX, os_errX]
    refine endK.ret ?_ (by first | rfl | simp [belN, bel_Ns, bel_slN, bel_clX, bel_encX, bel_errX]); simp [evRes, getT, retV, Tryd.f11]
end Go.Proofs.YtginpkchjeooeaaDoor

/- Chapter 41: the lists that an expression matches, in plain terms. -/
set_option maxRecDepth 100000
set_option maxHeartbeats 4000000
set_option linter.all false
namespace Go.Proofs.YtginpkchjeooeaaDoor
open Go.Vm

inductive Star (L : List Int → Prop) : List Int → Prop
  | nil : Star L []
  | app {u v : List Int} : L u → Star L v → Star L (u ++ v)
theorem Star.one {L : List Int → Prop} {u : List Int} (h : L u) : Star L u := by
  have := Star.app h Star.nil
  rwa [List.append_nil] at this
theorem Star.cat {L : List Int → Prop} {u v : List Int} (h : Star L u) (h2 : Star L v) : Star L (u ++ v) := by
  induction h with
  | nil => exact h2
  | app hu _ ih => rw [List.append_assoc]; exact .app hu ih
theorem Star.mono {L L' : List Int → Prop} (h : ∀ w, L w → L' w) {w : List Int} (hw : Star L w) : Star L' w := by
  induction hw with
  | nil => exact .nil
  | app hu _ ih => exact .app (h _ hu) ih
theorem Star.idem {L : List Int → Prop} {w : List Int} (hw : Star (Star L) w) : Star L w := by
  induction hw with
  | nil => exact .nil
  | app hu _ ih => exact hu.cat ih
theorem Star.last {L : List Int → Prop} {w : List Int} (h : Star L w) : w = [] ∨ ∃ u v, w = u ++ v ∧ Star L u ∧ L v ∧ v ≠ [] := by
  induction h with
  | nil => exact .inl rfl
  | @app u v hu hv ih =>
    rcases ih with rfl | ⟨a, b, rfl, ha, hb, hn⟩
    · cases u with
      | nil => exact .inl rfl
      | cons x u => exact .inr ⟨[], x :: u, by simp, .nil, hu, List.cons_ne_nil _ _⟩
    · exact .inr ⟨u ++ a, b, by rw [List.append_assoc], .app hu ha, hb, hn⟩
theorem Star.first {L : List Int → Prop} {w : List Int} (h : Star L w) : w = [] ∨ ∃ u v, w = u ++ v ∧ L u ∧ Star L v ∧ u ≠ [] := by
  induction h with
  | nil => exact .inl rfl
  | @app u v hu hv ih =>
    cases u with
    | nil => exact ih
    | cons x u => exact .inr ⟨x :: u, v, rfl, hu, hv, List.cons_ne_nil _ _⟩
/-- the lists that an expression matches -/
def Mt : Pr → List Int → Prop
  | .leaf x, w => if x.op = 1 then w = [] else if x.op = 2 then w.length = 1 else w = [nN x]
  | .un _ p, w => Star (Mt p) w
  | .bin x p q, w => if x.op = 5 then Mt p w ∨ Mt q w else ∃ u v, w = u ++ v ∧ Mt p u ∧ Mt q v
/-- a part of a list -/
def part (l : List Int) (i k : Nat) : List Int := (l.drop i).take (k - i)
theorem part_len {l : List Int} {i k : Nat} (hk : k ≤ l.length) : (part l i k).length = k - i := by
  rw [part, List.length_take, List.length_drop]
  omega
theorem part_self {l : List Int} {i : Nat} : part l i i = [] := by rw [part, Nat.sub_self, List.take_zero]
theorem part_all {l : List Int} : part l 0 l.length = l := by rw [part, List.drop_zero, Nat.sub_zero, List.take_length]
theorem part_app {l : List Int} {i j k : Nat} (h1 : i ≤ j) (h2 : j ≤ k) (hk : k ≤ l.length) : part l i j ++ part l j k = part l i k := by
  have e : k - i = (j - i) + (k - j) := by omega
  rw [part, part, part, e, List.take_add, List.drop_drop, show i + (j - i) = j by omega]
theorem part_cut {l : List Int} {i k : Nat} (hik : i ≤ k) (hk : k ≤ l.length) {u v : List Int} (h : part l i k = u ++ v) : ∃ j, i ≤ j ∧ j ≤ k ∧ j = i + u.length ∧ part l i j = u ∧ part l j k = v := by
  have hl := congrArg List.length h
  rw [part_len hk, List.length_append] at hl
  have h1 : i ≤ i + u.length := Nat.le_add_right _ _
  have h2 : i + u.length ≤ k := by omega
  have e := part_app h1 h2 hk
  rw [h] at e
  have hlen : (part l i (i + u.length)).length = u.length := by rw [part_len (by omega)]; omega
  obtain ⟨e1, e2⟩ := List.append_inj e hlen
  exact ⟨i + u.length, h1, h2, rfl, e1, e2⟩
theorem part_one {l : List Int} {i : Nat} (h : i < l.length) : part l i (i + 1) = [l[i]] := by
  rw [part, List.drop_eq_getElem_cons h, show i + 1 - i = 0 + 1 by omega, List.take_succ_cons, List.take_zero]
/-- where the parts end that an expression matches from one of some places -/
def Ends (p : Pr) (l : List Int) (f : Nat → Bool) (k : Nat) : Prop := ∃ i, i ≤ k ∧ f i = true ∧ Mt p (part l i k)
open Classical in
noncomputable def endsG (p : Pr) (l : List Int) (f : Nat → Bool) (k : Nat) : Bool := decide (Ends p l f k)
open Classical in
theorem endsG_iff {p : Pr} {l : List Int} {f : Nat → Bool} {k : Nat} : endsG p l f k = true ↔ Ends p l f k := by
  unfold endsG
  exact decide_eq_true_iff
theorem bool_ext {a b : Bool} {P : Prop} (ha : a = true ↔ P) (hb : b = true ↔ P) : a = b := Bool.eq_iff_iff.2 (ha.trans hb.symm)
theorem ends_cat {x : Nd} {p q : Pr} (h : ¬ x.op = 5) {l : List Int} {f : Nat → Bool} {k : Nat} (hk : k ≤ l.length) : endsG q l (endsG p l f) k = endsG (.bin x p q) l f k := by
  refine bool_ext endsG_iff (endsG_iff.trans ?_)
  simp only [Ends, endsG_iff, Mt, if_neg h]
  constructor
  · rintro ⟨i, hik, hf, u, v, e, h1, h2⟩
    obtain ⟨j, h3, h4, _, e1, e2⟩ := part_cut hik hk e
    exact ⟨j, h4, ⟨i, h3, hf, by rw [e1]; exact h1⟩, by rw [e2]; exact h2⟩
  · rintro ⟨j, hjk, ⟨i, hij, hf, h1⟩, h2⟩
    exact ⟨i, by omega, hf, part l i j, part l j k, (part_app hij hjk hk).symm, h1, h2⟩
theorem ends_alt {x : Nd} {p q : Pr} (h : x.op = 5) {l : List Int} {f : Nat → Bool} {k : Nat} : (endsG p l f k || endsG q l f k) = endsG (.bin x p q) l f k := by
  refine bool_ext Iff.rfl ?_
  rw [endsG_iff, Bool.or_eq_true, endsG_iff, endsG_iff]
  simp only [Ends, Mt, if_pos h]
  constructor
  · rintro ⟨i, hik, hf, h1 | h1⟩
    · exact .inl ⟨i, hik, hf, h1⟩
    · exact .inr ⟨i, hik, hf, h1⟩
  · rintro (⟨i, hik, hf, h1⟩ | ⟨i, hik, hf, h1⟩)
    · exact ⟨i, hik, hf, .inl h1⟩
    · exact ⟨i, hik, hf, .inr h1⟩
/-- the operand of repeated repetitions -/
def core : Pr → Pr
  | .un _ p => core p
  | p => p
theorem core_star : ∀ (p : Pr) (w : List Int), Star (Mt p) w ↔ Star (Mt (core p)) w
  | .leaf _, _ => Iff.rfl
  | .bin _ _ _, _ => Iff.rfl
  | .un x p, w => by
    rw [core]
    refine Iff.trans ?_ (core_star p w)
    constructor
    · intro h
      exact Star.idem (h.mono fun w hw => hw)
    · intro h
      exact Star.one (show Mt (.un x p) w from h)
/-- the places that any number of parts reach -/
def Reach (c : Pr) (l : List Int) (f : Nat → Bool) (k : Nat) : Prop := ∃ i, i ≤ k ∧ f i = true ∧ Star (Mt c) (part l i k)
theorem reach_all {c : Pr} {l : List Int} {f out : Nat → Bool} (h0 : ∀ k, k ≤ l.length → f k = true → out k = true)
    (h1 : ∀ j k, j ≤ k → k ≤ l.length → out j = true → Mt c (part l j k) → out k = true) : ∀ k, k ≤ l.length → Reach c l f k → out k = true := by
  intro k
  induction k using Nat.strongRecOn with
  | ind k ih =>
    rintro hk ⟨i, hik, hf, hs⟩
    rcases hs.last with h | ⟨u, v, e, hu, hv, hn⟩
    · have hl := congrArg List.length h
      rw [part_len hk, List.length_nil] at hl
      have : i = k := by omega
      rw [← this]
      exact h0 i (by omega) hf
    · obtain ⟨j, h3, h4, _, e1, e2⟩ := part_cut hik hk e
      have hjk : j < k := by
        apply Decidable.byContradiction
        intro hc
        have : j = k := by omega
        rw [this, part_self] at e2
        exact hn e2.symm
      exact h1 j k h4 hk (ih j hjk (by omega) ⟨i, h3, hf, by rw [e1]; exact hu⟩) (by rw [e2]; exact hv)
theorem reach_step {c : Pr} {l : List Int} {f : Nat → Bool} {j k : Nat} (hjk : j ≤ k) (hk : k ≤ l.length) (h : Reach c l f j) (h2 : Mt c (part l j k)) : Reach c l f k := by
  obtain ⟨i, hij, hf, hs⟩ := h
  exact ⟨i, by omega, hf, by rw [← part_app hij hjk hk]; exact hs.cat (.one h2)⟩
theorem reach_star {x : Nd} {p : Pr} {l : List Int} {f : Nat → Bool} {k : Nat} : Reach (core p) l f k ↔ Ends (.un x p) l f k := by
  unfold Reach Ends
  constructor
  · rintro ⟨i, h1, h2, h3⟩
    exact ⟨i, h1, h2, (core_star p _).2 h3⟩
  · rintro ⟨i, h1, h2, h3⟩
    exact ⟨i, h1, h2, (core_star p _).1 h3⟩
/-- places of a set that are not in it -/
def cntF (n : Nat) (g : Nat → Bool) : Nat := (List.range n).countP fun k => !g k
theorem cntF_mono {n : Nat} {g g' : Nat → Bool} (h : ∀ k, k < n → g k = true → g' k = true) : cntF n g' ≤ cntF n g := by
  unfold cntF
  refine List.countP_mono_left fun k hk he => ?_
  have := List.mem_range.1 hk
  cases hg : g k with
  | false => rfl
  | true => rw [h k this hg] at he; exact he
theorem cntF_lt : ∀ {n : Nat} {g g' : Nat → Bool}, (∀ k, k < n → g k = true → g' k = true) → (∃ k, k < n ∧ g k = false ∧ g' k = true) → cntF n g' < cntF n g
  | 0, _, _, _, ⟨_, h, _⟩ => absurd h (Nat.not_lt_zero _)
  | n + 1, g, g', h, ⟨k, hk, h1, h2⟩ => by
    have e : ∀ g : Nat → Bool, cntF (n + 1) g = cntF n g + (if g n = true then 0 else 1) := by
      intro g
      rw [cntF, List.range_succ, List.countP_append, List.countP_singleton, cntF]
      cases g n <;> rfl
    rw [e g, e g']
    by_cases hkn : k = n
    · subst hkn
      have := cntF_mono (n := k) (g := g) (g' := g') (fun j hj => h j (by omega))
      rw [h1, h2]
      simp only [if_true, if_neg Bool.false_ne_true]
      omega
    · have := cntF_lt (n := n) (g := g) (g' := g') (fun j hj => h j (by omega)) ⟨k, by omega, h1, h2⟩
      by_cases hg : g n = true
      · rw [if_pos hg, if_pos (h n (by omega) hg)]
        omega
      · rw [if_neg hg]
        split <;> omega
end Go.Proofs.YtginpkchjeooeaaDoor


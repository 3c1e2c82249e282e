/-
  The table of types of this program, for the library Vm, and that it is true. Printed by a program (types.py).
-/
import Derived.Test.YtopnabckbpogeaaProg
import Derived.KernelRfl
import Derived.Test.YtopnabckbpogeaaVm5
set_option linter.all false
set_option maxRecDepth 100000
namespace Go.Proofs.Ytopnabckbpogeaa
open Go.Vm

def ty1 : TI := ⟨1, 8, false, .nilf, .func, []⟩
def ty2 : TI := ⟨1, 8, false, .int .i64 0, .int .i64, []⟩
def ty3 : TI := ⟨1, 8, false, .int .i64 0, .int .i64, []⟩
def ty4 : TI := ⟨1, 1, false, .bool false, .bool, []⟩
def ty5 : TI := ⟨1, 1, false, .int .u8 0, .int .u8, []⟩
def ty6 : TI := ⟨1, 1, false, .int .u8 0, .int .u8, []⟩
def ty7 : TI := ⟨4, 24, true, .agg [.int .i64 0, .int .i64 0, .bool false, .int .u8 0], .struct [(0, 2), (1, 3), (2, 4), (3, 6)], [.int .i64, .int .i64, .bool, .int .u8]⟩
def ty8 : TI := ⟨4, 24, true, .agg [.int .i64 0, .int .i64 0, .bool false, .int .u8 0], .struct [(0, 2), (1, 3), (2, 4), (3, 6)], [.int .i64, .int .i64, .bool, .int .u8]⟩
def ty9 : TI := ⟨1, 16, false, .str [], .str, []⟩
def ty10 : TI := ⟨1, 16, false, .str [], .str, []⟩
def ty11 : TI := ⟨1, 16, false, .str [], .str, []⟩
def ty12 : TI := ⟨1, 8, false, .int .u64 0, .int .u64, []⟩
def ty13 : TI := ⟨2, 24, true, .agg [.str [], .int .u64 0], .struct [(0, 9), (1, 12)], []⟩
def ty14 : TI := ⟨2, 24, true, .agg [.str [], .int .u64 0], .struct [(0, 9), (1, 12)], []⟩
def ty15 : TI := ⟨1, 8, false, .nilp, .ptr 87, []⟩
def ty16 : TI := ⟨1, 8, false, .nilp, .ptr 90, []⟩
def ty17 : TI := ⟨1, 8, false, .nilp, .ptr 99, []⟩
def ty18 : TI := ⟨1, 8, true, .agg [.nilp], .struct [(0, 17)], []⟩
def ty19 : TI := ⟨1, 8, true, .agg [.nilp], .struct [(0, 17)], []⟩
def ty20 : TI := ⟨1, 16, false, .nili, .iface, []⟩
def ty21 : TI := ⟨1, 4, false, .int .i32 0, .int .i32, []⟩
def ty22 : TI := ⟨1, 8, false, .nilf, .func, []⟩
def ty23 : TI := ⟨1, 8, false, .int .u64 0, .int .u64, []⟩
def ty24 : TI := ⟨2, 16, true, .agg [.int .u64 0, .int .u64 0], .struct [(0, 23), (1, 23)], [.int .u64, .int .u64]⟩
def ty25 : TI := ⟨2, 16, true, .agg [.int .u64 0, .int .u64 0], .struct [(0, 23), (1, 23)], [.int .u64, .int .u64]⟩
def ty26 : TI := ⟨1, 8, false, .int .i64 0, .int .i64, []⟩
def ty28 : TI := ⟨1, 8, false, .nilf, .func, []⟩
def ty30 : TI := ⟨1, 8, false, .nilf, .func, []⟩
def ty31 : TI := ⟨1, 8, false, .nilf, .func, []⟩
def ty32 : TI := ⟨1, 8, false, .nilf, .func, []⟩
def ty33 : TI := ⟨1, 8, false, .nilf, .func, []⟩
def ty34 : TI := ⟨6, 48, true, .agg [.int .u64 0, .int .u64 0, .int .u64 0, .int .u64 0, .int .u64 0, .int .i64 0], .struct [(0, 25), (2, 25), (4, 23), (5, 3)], [.int .u64, .int .u64, .int .u64, .int .u64, .int .u64, .int .i64]⟩
def ty35 : TI := ⟨6, 48, true, .agg [.int .u64 0, .int .u64 0, .int .u64 0, .int .u64 0, .int .u64 0, .int .i64 0], .struct [(0, 25), (2, 25), (4, 23), (5, 3)], [.int .u64, .int .u64, .int .u64, .int .u64, .int .u64, .int .i64]⟩
def ty36 : TI := ⟨1, 24, false, .sl true [] 0, .slice 25, []⟩
def ty37 : TI := ⟨1, 8, false, .nilf, .func, []⟩
def ty38 : TI := ⟨1, 8, false, .int .u64 0, .int .u64, []⟩
def ty39 : TI := ⟨1, 8, false, .nilf, .func, []⟩
def ty41 : TI := ⟨1, 8, false, .nilf, .func, []⟩
def ty42 : TI := ⟨1, 8, false, .nilf, .func, []⟩
def ty43 : TI := ⟨1, 8, false, .nilf, .func, []⟩
def ty44 : TI := ⟨1, 8, false, .nilf, .func, []⟩
def ty45 : TI := ⟨1, 8, false, .nilf, .func, []⟩
def ty46 : TI := ⟨1, 8, false, .nilf, .func, []⟩
def ty47 : TI := ⟨1, 8, false, .nilf, .func, []⟩
def ty48 : TI := ⟨1, 8, false, .nilf, .func, []⟩
def ty49 : TI := ⟨1, 8, false, .nilf, .func, []⟩
def ty50 : TI := ⟨1, 4, false, .int .u32 0, .int .u32, []⟩
def ty52 : TI := ⟨1, 8, false, .nilf, .func, []⟩
def ty53 : TI := ⟨1, 8, false, .nilf, .func, []⟩
def ty54 : TI := ⟨1, 8, false, .nilf, .func, []⟩
def ty55 : TI := ⟨1, 8, false, .nilf, .func, []⟩
def ty57 : TI := ⟨1, 8, false, .nilf, .func, []⟩
def ty59 : TI := ⟨1, 8, false, .nilf, .func, []⟩
def ty60 : TI := ⟨1, 8, false, .nilf, .func, []⟩
def ty61 : TI := ⟨1, 8, false, .nilf, .func, []⟩
def ty62 : TI := ⟨1, 8, false, .nilf, .func, []⟩
def ty63 : TI := ⟨1, 8, false, .nilf, .func, []⟩
def ty64 : TI := ⟨1, 24, false, .sl true [] 0, .slice 23, []⟩
def ty65 : TI := ⟨2, 32, true, .agg [.int .u8 0, .sl true [] 0], .struct [(0, 5), (1, 64)], []⟩
def ty66 : TI := ⟨2, 32, true, .agg [.int .u8 0, .sl true [] 0], .struct [(0, 5), (1, 64)], []⟩
def ty67 : TI := ⟨1, 8, false, .nilf, .func, []⟩
def ty68 : TI := ⟨1, 8, false, .nilf, .func, []⟩
def ty69 : TI := ⟨2, 16, true, .agg [.int .i64 0, .int .i64 0], .arr 2 3, []⟩
def ty71 : TI := ⟨1, 8, false, .nilf, .func, []⟩
def ty72 : TI := ⟨1, 8, false, .nilf, .func, []⟩
def ty73 : TI := ⟨1, 8, false, .nilf, .func, []⟩
def ty74 : TI := ⟨64, 64, true, .agg (tab 64 fun _ => .int .u8 0), .arr 64 5, []⟩
def ty75 : TI := ⟨1, 24, false, .sl true [] 0, .slice 5, []⟩
def ty76 : TI := ⟨1, 8, false, .nilf, .func, []⟩
def ty77 : TI := ⟨1, 8, false, .nilf, .func, []⟩
def ty78 : TI := ⟨1, 8, false, .nilf, .func, []⟩
def ty79 : TI := ⟨128, 1024, true, .agg (tab 128 fun _ => .int .u64 0), .arr 64 25, []⟩
def ty80 : TI := ⟨1, 8, false, .nilf, .func, []⟩
def ty81 : TI := ⟨1, 8, false, .nilf, .func, []⟩
def ty82 : TI := ⟨1, 8, false, .nilf, .func, []⟩
def ty83 : TI := ⟨1, 8, false, .nilf, .func, []⟩
def ty84 : TI := ⟨1, 8, false, .nilf, .func, []⟩
def ty85 : TI := ⟨1, 8, false, .nilf, .func, []⟩
def ty86 : TI := ⟨4, 40, true, .agg [.nilp, .nilp, .nilp, .str []], .struct [(0, 17), (1, 17), (2, 17), (3, 9)], []⟩
def ty87 : TI := ⟨4, 40, true, .agg [.nilp, .nilp, .nilp, .str []], .struct [(0, 17), (1, 17), (2, 17), (3, 9)], []⟩
def ty91 : TI := ⟨1, 8, false, .nilf, .func, []⟩
def ty92 : TI := ⟨1, 1, false, .int .u8 0, .int .u8, []⟩
def ty93 : TI := ⟨1, 1, false, .int .u8 0, .int .u8, []⟩
def ty94 : TI := ⟨1, 8, false, .nilf, .func, []⟩
def ty95 : TI := ⟨1, 8, false, .nilp, .ptr 5, []⟩
def ty96 : TI := ⟨1, 4, false, .int .i32 0, .int .i32, []⟩
def ty97 : TI := ⟨1, 4, false, .int .i32 0, .int .i32, []⟩
def ty98 : TI := ⟨11, 48, true, .agg [.int .u64 0, .int .u64 0, .int .u32 0, .int .u8 0, .int .u8 0, .int .u8 0, .int .u8 0, .nilf, .nilp, .int .i32 0, .int .i32 0], .struct [(0, 12), (1, 12), (2, 50), (3, 92), (4, 5), (5, 5), (6, 93), (7, 94), (8, 95), (9, 96), (10, 97)], []⟩
def ty99 : TI := ⟨11, 48, true, .agg [.int .u64 0, .int .u64 0, .int .u32 0, .int .u8 0, .int .u8 0, .int .u8 0, .int .u8 0, .nilf, .nilp, .int .i32 0, .int .i32 0], .struct [(0, 12), (1, 12), (2, 50), (3, 92), (4, 5), (5, 5), (6, 93), (7, 94), (8, 95), (9, 96), (10, 97)], []⟩
def ttL : List TI := [TI.none, ty1, ty2, ty3, ty4, ty5, ty6, ty7, ty8, ty9, ty10, ty11, ty12, ty13, ty14, ty15, ty16, ty17, ty18, ty19, ty20, ty21, ty22, ty23, ty24, ty25, ty26, TI.none, ty28, TI.none, ty30, ty31, ty32, ty33, ty34, ty35, ty36, ty37, ty38, ty39, TI.none, ty41, ty42, ty43, ty44, ty45, ty46, ty47, ty48, ty49, ty50, TI.none, ty52, ty53, ty54, ty55, TI.none, ty57, TI.none, ty59, ty60, ty61, ty62, ty63, ty64, ty65, ty66, ty67, ty68, ty69, TI.none, ty71, ty72, ty73, ty74, ty75, ty76, ty77, ty78, ty79, ty80, ty81, ty82, ty83, ty84, ty85, ty86, ty87, TI.none, TI.none, TI.none, ty91, ty92, ty93, ty94, ty95, ty96, ty97, ty98, ty99, TI.none]
def tt (t : Nat) : TI := ttOf ttL t
theorem tt_1 : tt 1 = ⟨1, 8, false, .nilf, .func, []⟩ := rfl
theorem tt_2 : tt 2 = ⟨1, 8, false, .int .i64 0, .int .i64, []⟩ := rfl
theorem tt_3 : tt 3 = ⟨1, 8, false, .int .i64 0, .int .i64, []⟩ := rfl
theorem tt_4 : tt 4 = ⟨1, 1, false, .bool false, .bool, []⟩ := rfl
theorem tt_5 : tt 5 = ⟨1, 1, false, .int .u8 0, .int .u8, []⟩ := rfl
theorem tt_6 : tt 6 = ⟨1, 1, false, .int .u8 0, .int .u8, []⟩ := rfl
theorem tt_7 : tt 7 = ⟨4, 24, true, .agg [.int .i64 0, .int .i64 0, .bool false, .int .u8 0], .struct [(0, 2), (1, 3), (2, 4), (3, 6)], [.int .i64, .int .i64, .bool, .int .u8]⟩ := rfl
theorem tt_8 : tt 8 = ⟨4, 24, true, .agg [.int .i64 0, .int .i64 0, .bool false, .int .u8 0], .struct [(0, 2), (1, 3), (2, 4), (3, 6)], [.int .i64, .int .i64, .bool, .int .u8]⟩ := rfl
theorem tt_9 : tt 9 = ⟨1, 16, false, .str [], .str, []⟩ := rfl
theorem tt_10 : tt 10 = ⟨1, 16, false, .str [], .str, []⟩ := rfl
theorem tt_11 : tt 11 = ⟨1, 16, false, .str [], .str, []⟩ := rfl
theorem tt_12 : tt 12 = ⟨1, 8, false, .int .u64 0, .int .u64, []⟩ := rfl
theorem tt_13 : tt 13 = ⟨2, 24, true, .agg [.str [], .int .u64 0], .struct [(0, 9), (1, 12)], []⟩ := rfl
theorem tt_14 : tt 14 = ⟨2, 24, true, .agg [.str [], .int .u64 0], .struct [(0, 9), (1, 12)], []⟩ := rfl
theorem tt_15 : tt 15 = ⟨1, 8, false, .nilp, .ptr 87, []⟩ := rfl
theorem tt_16 : tt 16 = ⟨1, 8, false, .nilp, .ptr 90, []⟩ := rfl
theorem tt_17 : tt 17 = ⟨1, 8, false, .nilp, .ptr 99, []⟩ := rfl
theorem tt_18 : tt 18 = ⟨1, 8, true, .agg [.nilp], .struct [(0, 17)], []⟩ := rfl
theorem tt_19 : tt 19 = ⟨1, 8, true, .agg [.nilp], .struct [(0, 17)], []⟩ := rfl
theorem tt_20 : tt 20 = ⟨1, 16, false, .nili, .iface, []⟩ := rfl
theorem tt_21 : tt 21 = ⟨1, 4, false, .int .i32 0, .int .i32, []⟩ := rfl
theorem tt_22 : tt 22 = ⟨1, 8, false, .nilf, .func, []⟩ := rfl
theorem tt_23 : tt 23 = ⟨1, 8, false, .int .u64 0, .int .u64, []⟩ := rfl
theorem tt_24 : tt 24 = ⟨2, 16, true, .agg [.int .u64 0, .int .u64 0], .struct [(0, 23), (1, 23)], [.int .u64, .int .u64]⟩ := rfl
theorem tt_25 : tt 25 = ⟨2, 16, true, .agg [.int .u64 0, .int .u64 0], .struct [(0, 23), (1, 23)], [.int .u64, .int .u64]⟩ := rfl
theorem tt_26 : tt 26 = ⟨1, 8, false, .int .i64 0, .int .i64, []⟩ := rfl
theorem tt_28 : tt 28 = ⟨1, 8, false, .nilf, .func, []⟩ := rfl
theorem tt_30 : tt 30 = ⟨1, 8, false, .nilf, .func, []⟩ := rfl
theorem tt_31 : tt 31 = ⟨1, 8, false, .nilf, .func, []⟩ := rfl
theorem tt_32 : tt 32 = ⟨1, 8, false, .nilf, .func, []⟩ := rfl
theorem tt_33 : tt 33 = ⟨1, 8, false, .nilf, .func, []⟩ := rfl
theorem tt_34 : tt 34 = ⟨6, 48, true, .agg [.int .u64 0, .int .u64 0, .int .u64 0, .int .u64 0, .int .u64 0, .int .i64 0], .struct [(0, 25), (2, 25), (4, 23), (5, 3)], [.int .u64, .int .u64, .int .u64, .int .u64, .int .u64, .int .i64]⟩ := rfl
theorem tt_35 : tt 35 = ⟨6, 48, true, .agg [.int .u64 0, .int .u64 0, .int .u64 0, .int .u64 0, .int .u64 0, .int .i64 0], .struct [(0, 25), (2, 25), (4, 23), (5, 3)], [.int .u64, .int .u64, .int .u64, .int .u64, .int .u64, .int .i64]⟩ := rfl
theorem tt_36 : tt 36 = ⟨1, 24, false, .sl true [] 0, .slice 25, []⟩ := rfl
theorem tt_37 : tt 37 = ⟨1, 8, false, .nilf, .func, []⟩ := rfl
theorem tt_38 : tt 38 = ⟨1, 8, false, .int .u64 0, .int .u64, []⟩ := rfl
theorem tt_39 : tt 39 = ⟨1, 8, false, .nilf, .func, []⟩ := rfl
theorem tt_41 : tt 41 = ⟨1, 8, false, .nilf, .func, []⟩ := rfl
theorem tt_42 : tt 42 = ⟨1, 8, false, .nilf, .func, []⟩ := rfl
theorem tt_43 : tt 43 = ⟨1, 8, false, .nilf, .func, []⟩ := rfl
theorem tt_44 : tt 44 = ⟨1, 8, false, .nilf, .func, []⟩ := rfl
theorem tt_45 : tt 45 = ⟨1, 8, false, .nilf, .func, []⟩ := rfl
theorem tt_46 : tt 46 = ⟨1, 8, false, .nilf, .func, []⟩ := rfl
theorem tt_47 : tt 47 = ⟨1, 8, false, .nilf, .func, []⟩ := rfl
theorem tt_48 : tt 48 = ⟨1, 8, false, .nilf, .func, []⟩ := rfl
theorem tt_49 : tt 49 = ⟨1, 8, false, .nilf, .func, []⟩ := rfl
theorem tt_50 : tt 50 = ⟨1, 4, false, .int .u32 0, .int .u32, []⟩ := rfl
theorem tt_52 : tt 52 = ⟨1, 8, false, .nilf, .func, []⟩ := rfl
theorem tt_53 : tt 53 = ⟨1, 8, false, .nilf, .func, []⟩ := rfl
theorem tt_54 : tt 54 = ⟨1, 8, false, .nilf, .func, []⟩ := rfl
theorem tt_55 : tt 55 = ⟨1, 8, false, .nilf, .func, []⟩ := rfl
theorem tt_57 : tt 57 = ⟨1, 8, false, .nilf, .func, []⟩ := rfl
theorem tt_59 : tt 59 = ⟨1, 8, false, .nilf, .func, []⟩ := rfl
theorem tt_60 : tt 60 = ⟨1, 8, false, .nilf, .func, []⟩ := rfl
theorem tt_61 : tt 61 = ⟨1, 8, false, .nilf, .func, []⟩ := rfl
theorem tt_62 : tt 62 = ⟨1, 8, false, .nilf, .func, []⟩ := rfl
theorem tt_63 : tt 63 = ⟨1, 8, false, .nilf, .func, []⟩ := rfl
theorem tt_64 : tt 64 = ⟨1, 24, false, .sl true [] 0, .slice 23, []⟩ := rfl
theorem tt_65 : tt 65 = ⟨2, 32, true, .agg [.int .u8 0, .sl true [] 0], .struct [(0, 5), (1, 64)], []⟩ := rfl
theorem tt_66 : tt 66 = ⟨2, 32, true, .agg [.int .u8 0, .sl true [] 0], .struct [(0, 5), (1, 64)], []⟩ := rfl
theorem tt_67 : tt 67 = ⟨1, 8, false, .nilf, .func, []⟩ := rfl
theorem tt_68 : tt 68 = ⟨1, 8, false, .nilf, .func, []⟩ := rfl
theorem tt_69 : tt 69 = ⟨2, 16, true, .agg [.int .i64 0, .int .i64 0], .arr 2 3, []⟩ := rfl
theorem tt_71 : tt 71 = ⟨1, 8, false, .nilf, .func, []⟩ := rfl
theorem tt_72 : tt 72 = ⟨1, 8, false, .nilf, .func, []⟩ := rfl
theorem tt_73 : tt 73 = ⟨1, 8, false, .nilf, .func, []⟩ := rfl
theorem tt_74 : tt 74 = ⟨64, 64, true, .agg (tab 64 fun _ => .int .u8 0), .arr 64 5, []⟩ := rfl
theorem tt_75 : tt 75 = ⟨1, 24, false, .sl true [] 0, .slice 5, []⟩ := rfl
theorem tt_76 : tt 76 = ⟨1, 8, false, .nilf, .func, []⟩ := rfl
theorem tt_77 : tt 77 = ⟨1, 8, false, .nilf, .func, []⟩ := rfl
theorem tt_78 : tt 78 = ⟨1, 8, false, .nilf, .func, []⟩ := rfl
theorem tt_79 : tt 79 = ⟨128, 1024, true, .agg (tab 128 fun _ => .int .u64 0), .arr 64 25, []⟩ := rfl
theorem tt_80 : tt 80 = ⟨1, 8, false, .nilf, .func, []⟩ := rfl
theorem tt_81 : tt 81 = ⟨1, 8, false, .nilf, .func, []⟩ := rfl
theorem tt_82 : tt 82 = ⟨1, 8, false, .nilf, .func, []⟩ := rfl
theorem tt_83 : tt 83 = ⟨1, 8, false, .nilf, .func, []⟩ := rfl
theorem tt_84 : tt 84 = ⟨1, 8, false, .nilf, .func, []⟩ := rfl
theorem tt_85 : tt 85 = ⟨1, 8, false, .nilf, .func, []⟩ := rfl
theorem tt_86 : tt 86 = ⟨4, 40, true, .agg [.nilp, .nilp, .nilp, .str []], .struct [(0, 17), (1, 17), (2, 17), (3, 9)], []⟩ := rfl
theorem tt_87 : tt 87 = ⟨4, 40, true, .agg [.nilp, .nilp, .nilp, .str []], .struct [(0, 17), (1, 17), (2, 17), (3, 9)], []⟩ := rfl
theorem tt_91 : tt 91 = ⟨1, 8, false, .nilf, .func, []⟩ := rfl
theorem tt_92 : tt 92 = ⟨1, 1, false, .int .u8 0, .int .u8, []⟩ := rfl
theorem tt_93 : tt 93 = ⟨1, 1, false, .int .u8 0, .int .u8, []⟩ := rfl
theorem tt_94 : tt 94 = ⟨1, 8, false, .nilf, .func, []⟩ := rfl
theorem tt_95 : tt 95 = ⟨1, 8, false, .nilp, .ptr 5, []⟩ := rfl
theorem tt_96 : tt 96 = ⟨1, 4, false, .int .i32 0, .int .i32, []⟩ := rfl
theorem tt_97 : tt 97 = ⟨1, 4, false, .int .i32 0, .int .i32, []⟩ := rfl
theorem tt_98 : tt 98 = ⟨11, 48, true, .agg [.int .u64 0, .int .u64 0, .int .u32 0, .int .u8 0, .int .u8 0, .int .u8 0, .int .u8 0, .nilf, .nilp, .int .i32 0, .int .i32 0], .struct [(0, 12), (1, 12), (2, 50), (3, 92), (4, 5), (5, 5), (6, 93), (7, 94), (8, 95), (9, 96), (10, 97)], []⟩ := rfl
theorem tt_99 : tt 99 = ⟨11, 48, true, .agg [.int .u64 0, .int .u64 0, .int .u32 0, .int .u8 0, .int .u8 0, .int .u8 0, .int .u8 0, .nilf, .nilp, .int .i32 0, .int .i32 0], .struct [(0, 12), (1, 12), (2, 50), (3, 92), (4, 5), (5, 5), (6, 93), (7, 94), (8, 95), (9, 96), (10, 97)], []⟩ := rfl
theorem row_1 : TIok Try.prog 1 ty1 := TIok.of_row (by kernel_rfl) (z := .nilFunc) (by kernel_rfl) (fun _ _ _ => ofConst_sound (.nilFunc)) (by kernel_rfl) (by kernel_rfl) (fun h => absurd h (by decide))
theorem row_2 : TIok Try.prog 2 ty2 := TIok.of_row (by kernel_rfl) (z := .int .i64 0) (by kernel_rfl) (fun _ _ _ => ofConst_sound (.int .i64 0)) (by kernel_rfl) (by kernel_rfl) (fun h => absurd h (by decide))
theorem row_3 : TIok Try.prog 3 ty3 := TIok.of_row (by kernel_rfl) (z := .int .i64 0) (by kernel_rfl) (fun _ _ _ => ofConst_sound (.int .i64 0)) (by kernel_rfl) (by kernel_rfl) (fun h => absurd h (by decide))
theorem row_4 : TIok Try.prog 4 ty4 := TIok.of_row (by kernel_rfl) (z := .bool false) (by kernel_rfl) (fun _ _ _ => ofConst_sound (.bool false)) (by kernel_rfl) (by kernel_rfl) (fun h => absurd h (by decide))
theorem row_5 : TIok Try.prog 5 ty5 := TIok.of_row (by kernel_rfl) (z := .int .u8 0) (by kernel_rfl) (fun _ _ _ => ofConst_sound (.int .u8 0)) (by kernel_rfl) (by kernel_rfl) (fun h => absurd h (by decide))
theorem row_6 : TIok Try.prog 6 ty6 := TIok.of_row (by kernel_rfl) (z := .int .u8 0) (by kernel_rfl) (fun _ _ _ => ofConst_sound (.int .u8 0)) (by kernel_rfl) (by kernel_rfl) (fun h => absurd h (by decide))
theorem row_7 : TIok Try.prog 7 ty7 := TIok.of_row (by kernel_rfl) (z := .agg #[.int .i64 0, .int .i64 0, .bool false, .int .u8 0]) (by kernel_rfl) (fun _ _ _ => ofConst_sound (.agg #[.int .i64 0, .int .i64 0, .bool false, .int .u8 0])) (by kernel_rfl) (by kernel_rfl) (fun _ => .inr (by kernel_rfl))
theorem row_8 : TIok Try.prog 8 ty8 := TIok.of_row (by kernel_rfl) (z := .agg #[.int .i64 0, .int .i64 0, .bool false, .int .u8 0]) (by kernel_rfl) (fun _ _ _ => ofConst_sound (.agg #[.int .i64 0, .int .i64 0, .bool false, .int .u8 0])) (by kernel_rfl) (by kernel_rfl) (fun _ => .inr (by kernel_rfl))
theorem row_9 : TIok Try.prog 9 ty9 := TIok.of_row (by kernel_rfl) (z := .string ByteArray.empty) (by kernel_rfl) (fun _ _ _ => ofConst_sound (.string ByteArray.empty)) (by kernel_rfl) (by kernel_rfl) (fun h => absurd h (by decide))
theorem row_10 : TIok Try.prog 10 ty10 := TIok.of_row (by kernel_rfl) (z := .string ByteArray.empty) (by kernel_rfl) (fun _ _ _ => ofConst_sound (.string ByteArray.empty)) (by kernel_rfl) (by kernel_rfl) (fun h => absurd h (by decide))
theorem row_11 : TIok Try.prog 11 ty11 := TIok.of_row (by kernel_rfl) (z := .string ByteArray.empty) (by kernel_rfl) (fun _ _ _ => ofConst_sound (.string ByteArray.empty)) (by kernel_rfl) (by kernel_rfl) (fun h => absurd h (by decide))
theorem row_12 : TIok Try.prog 12 ty12 := TIok.of_row (by kernel_rfl) (z := .int .u64 0) (by kernel_rfl) (fun _ _ _ => ofConst_sound (.int .u64 0)) (by kernel_rfl) (by kernel_rfl) (fun h => absurd h (by decide))
theorem row_13 : TIok Try.prog 13 ty13 := TIok.of_row (by kernel_rfl) (z := .agg #[.string ByteArray.empty, .int .u64 0]) (by kernel_rfl) (fun _ _ _ => ofConst_sound (.agg #[.string ByteArray.empty, .int .u64 0])) (by kernel_rfl) (by kernel_rfl) (fun _ => .inl rfl)
theorem row_14 : TIok Try.prog 14 ty14 := TIok.of_row (by kernel_rfl) (z := .agg #[.string ByteArray.empty, .int .u64 0]) (by kernel_rfl) (fun _ _ _ => ofConst_sound (.agg #[.string ByteArray.empty, .int .u64 0])) (by kernel_rfl) (by kernel_rfl) (fun _ => .inl rfl)
theorem row_15 : TIok Try.prog 15 ty15 := TIok.of_row (by kernel_rfl) (z := .pointer none) (by kernel_rfl) (fun _ _ _ => ofConst_sound (.pointer none)) (by kernel_rfl) (by kernel_rfl) (fun h => absurd h (by decide))
theorem row_16 : TIok Try.prog 16 ty16 := TIok.of_row (by kernel_rfl) (z := .pointer none) (by kernel_rfl) (fun _ _ _ => ofConst_sound (.pointer none)) (by kernel_rfl) (by kernel_rfl) (fun h => absurd h (by decide))
theorem row_17 : TIok Try.prog 17 ty17 := TIok.of_row (by kernel_rfl) (z := .pointer none) (by kernel_rfl) (fun _ _ _ => ofConst_sound (.pointer none)) (by kernel_rfl) (by kernel_rfl) (fun h => absurd h (by decide))
theorem row_18 : TIok Try.prog 18 ty18 := TIok.of_row (by kernel_rfl) (z := .agg #[.pointer none]) (by kernel_rfl) (fun _ _ _ => ofConst_sound (.agg #[.pointer none])) (by kernel_rfl) (by kernel_rfl) (fun _ => .inl rfl)
theorem row_19 : TIok Try.prog 19 ty19 := TIok.of_row (by kernel_rfl) (z := .agg #[.pointer none]) (by kernel_rfl) (fun _ _ _ => ofConst_sound (.agg #[.pointer none])) (by kernel_rfl) (by kernel_rfl) (fun _ => .inl rfl)
theorem row_20 : TIok Try.prog 20 ty20 := TIok.of_row (by kernel_rfl) (z := .nilIface) (by kernel_rfl) (fun _ _ _ => ofConst_sound (.nilIface)) (by kernel_rfl) (by kernel_rfl) (fun h => absurd h (by decide))
theorem row_21 : TIok Try.prog 21 ty21 := TIok.of_row (by kernel_rfl) (z := .int .i32 0) (by kernel_rfl) (fun _ _ _ => ofConst_sound (.int .i32 0)) (by kernel_rfl) (by kernel_rfl) (fun h => absurd h (by decide))
theorem row_22 : TIok Try.prog 22 ty22 := TIok.of_row (by kernel_rfl) (z := .nilFunc) (by kernel_rfl) (fun _ _ _ => ofConst_sound (.nilFunc)) (by kernel_rfl) (by kernel_rfl) (fun h => absurd h (by decide))
theorem row_23 : TIok Try.prog 23 ty23 := TIok.of_row (by kernel_rfl) (z := .int .u64 0) (by kernel_rfl) (fun _ _ _ => ofConst_sound (.int .u64 0)) (by kernel_rfl) (by kernel_rfl) (fun h => absurd h (by decide))
theorem row_24 : TIok Try.prog 24 ty24 := TIok.of_row (by kernel_rfl) (z := .agg #[.int .u64 0, .int .u64 0]) (by kernel_rfl) (fun _ _ _ => ofConst_sound (.agg #[.int .u64 0, .int .u64 0])) (by kernel_rfl) (by kernel_rfl) (fun _ => .inr (by kernel_rfl))
theorem row_25 : TIok Try.prog 25 ty25 := TIok.of_row (by kernel_rfl) (z := .agg #[.int .u64 0, .int .u64 0]) (by kernel_rfl) (fun _ _ _ => ofConst_sound (.agg #[.int .u64 0, .int .u64 0])) (by kernel_rfl) (by kernel_rfl) (fun _ => .inr (by kernel_rfl))
theorem row_26 : TIok Try.prog 26 ty26 := TIok.of_row (by kernel_rfl) (z := .int .i64 0) (by kernel_rfl) (fun _ _ _ => ofConst_sound (.int .i64 0)) (by kernel_rfl) (by kernel_rfl) (fun h => absurd h (by decide))
theorem row_28 : TIok Try.prog 28 ty28 := TIok.of_row (by kernel_rfl) (z := .nilFunc) (by kernel_rfl) (fun _ _ _ => ofConst_sound (.nilFunc)) (by kernel_rfl) (by kernel_rfl) (fun h => absurd h (by decide))
theorem row_30 : TIok Try.prog 30 ty30 := TIok.of_row (by kernel_rfl) (z := .nilFunc) (by kernel_rfl) (fun _ _ _ => ofConst_sound (.nilFunc)) (by kernel_rfl) (by kernel_rfl) (fun h => absurd h (by decide))
theorem row_31 : TIok Try.prog 31 ty31 := TIok.of_row (by kernel_rfl) (z := .nilFunc) (by kernel_rfl) (fun _ _ _ => ofConst_sound (.nilFunc)) (by kernel_rfl) (by kernel_rfl) (fun h => absurd h (by decide))
theorem row_32 : TIok Try.prog 32 ty32 := TIok.of_row (by kernel_rfl) (z := .nilFunc) (by kernel_rfl) (fun _ _ _ => ofConst_sound (.nilFunc)) (by kernel_rfl) (by kernel_rfl) (fun h => absurd h (by decide))
theorem row_33 : TIok Try.prog 33 ty33 := TIok.of_row (by kernel_rfl) (z := .nilFunc) (by kernel_rfl) (fun _ _ _ => ofConst_sound (.nilFunc)) (by kernel_rfl) (by kernel_rfl) (fun h => absurd h (by decide))
theorem row_34 : TIok Try.prog 34 ty34 := TIok.of_row (by kernel_rfl) (z := .agg #[.int .u64 0, .int .u64 0, .int .u64 0, .int .u64 0, .int .u64 0, .int .i64 0]) (by kernel_rfl) (fun _ _ _ => ofConst_sound (.agg #[.int .u64 0, .int .u64 0, .int .u64 0, .int .u64 0, .int .u64 0, .int .i64 0])) (by kernel_rfl) (by kernel_rfl) (fun _ => .inr (by kernel_rfl))
theorem row_35 : TIok Try.prog 35 ty35 := TIok.of_row (by kernel_rfl) (z := .agg #[.int .u64 0, .int .u64 0, .int .u64 0, .int .u64 0, .int .u64 0, .int .i64 0]) (by kernel_rfl) (fun _ _ _ => ofConst_sound (.agg #[.int .u64 0, .int .u64 0, .int .u64 0, .int .u64 0, .int .u64 0, .int .i64 0])) (by kernel_rfl) (by kernel_rfl) (fun _ => .inr (by kernel_rfl))
theorem row_36 : TIok Try.prog 36 ty36 := TIok.of_row (by kernel_rfl) (z := .slice none 0 0) (by kernel_rfl) (fun _ _ _ => ofConst_sound (.slice none 0 0)) (by kernel_rfl) (by kernel_rfl) (fun h => absurd h (by decide))
theorem row_37 : TIok Try.prog 37 ty37 := TIok.of_row (by kernel_rfl) (z := .nilFunc) (by kernel_rfl) (fun _ _ _ => ofConst_sound (.nilFunc)) (by kernel_rfl) (by kernel_rfl) (fun h => absurd h (by decide))
theorem row_38 : TIok Try.prog 38 ty38 := TIok.of_row (by kernel_rfl) (z := .int .u64 0) (by kernel_rfl) (fun _ _ _ => ofConst_sound (.int .u64 0)) (by kernel_rfl) (by kernel_rfl) (fun h => absurd h (by decide))
theorem row_39 : TIok Try.prog 39 ty39 := TIok.of_row (by kernel_rfl) (z := .nilFunc) (by kernel_rfl) (fun _ _ _ => ofConst_sound (.nilFunc)) (by kernel_rfl) (by kernel_rfl) (fun h => absurd h (by decide))
theorem row_41 : TIok Try.prog 41 ty41 := TIok.of_row (by kernel_rfl) (z := .nilFunc) (by kernel_rfl) (fun _ _ _ => ofConst_sound (.nilFunc)) (by kernel_rfl) (by kernel_rfl) (fun h => absurd h (by decide))
theorem row_42 : TIok Try.prog 42 ty42 := TIok.of_row (by kernel_rfl) (z := .nilFunc) (by kernel_rfl) (fun _ _ _ => ofConst_sound (.nilFunc)) (by kernel_rfl) (by kernel_rfl) (fun h => absurd h (by decide))
theorem row_43 : TIok Try.prog 43 ty43 := TIok.of_row (by kernel_rfl) (z := .nilFunc) (by kernel_rfl) (fun _ _ _ => ofConst_sound (.nilFunc)) (by kernel_rfl) (by kernel_rfl) (fun h => absurd h (by decide))
theorem row_44 : TIok Try.prog 44 ty44 := TIok.of_row (by kernel_rfl) (z := .nilFunc) (by kernel_rfl) (fun _ _ _ => ofConst_sound (.nilFunc)) (by kernel_rfl) (by kernel_rfl) (fun h => absurd h (by decide))
theorem row_45 : TIok Try.prog 45 ty45 := TIok.of_row (by kernel_rfl) (z := .nilFunc) (by kernel_rfl) (fun _ _ _ => ofConst_sound (.nilFunc)) (by kernel_rfl) (by kernel_rfl) (fun h => absurd h (by decide))
theorem row_46 : TIok Try.prog 46 ty46 := TIok.of_row (by kernel_rfl) (z := .nilFunc) (by kernel_rfl) (fun _ _ _ => ofConst_sound (.nilFunc)) (by kernel_rfl) (by kernel_rfl) (fun h => absurd h (by decide))
theorem row_47 : TIok Try.prog 47 ty47 := TIok.of_row (by kernel_rfl) (z := .nilFunc) (by kernel_rfl) (fun _ _ _ => ofConst_sound (.nilFunc)) (by kernel_rfl) (by kernel_rfl) (fun h => absurd h (by decide))
theorem row_48 : TIok Try.prog 48 ty48 := TIok.of_row (by kernel_rfl) (z := .nilFunc) (by kernel_rfl) (fun _ _ _ => ofConst_sound (.nilFunc)) (by kernel_rfl) (by kernel_rfl) (fun h => absurd h (by decide))
theorem row_49 : TIok Try.prog 49 ty49 := TIok.of_row (by kernel_rfl) (z := .nilFunc) (by kernel_rfl) (fun _ _ _ => ofConst_sound (.nilFunc)) (by kernel_rfl) (by kernel_rfl) (fun h => absurd h (by decide))
theorem row_50 : TIok Try.prog 50 ty50 := TIok.of_row (by kernel_rfl) (z := .int .u32 0) (by kernel_rfl) (fun _ _ _ => ofConst_sound (.int .u32 0)) (by kernel_rfl) (by kernel_rfl) (fun h => absurd h (by decide))
theorem row_52 : TIok Try.prog 52 ty52 := TIok.of_row (by kernel_rfl) (z := .nilFunc) (by kernel_rfl) (fun _ _ _ => ofConst_sound (.nilFunc)) (by kernel_rfl) (by kernel_rfl) (fun h => absurd h (by decide))
theorem row_53 : TIok Try.prog 53 ty53 := TIok.of_row (by kernel_rfl) (z := .nilFunc) (by kernel_rfl) (fun _ _ _ => ofConst_sound (.nilFunc)) (by kernel_rfl) (by kernel_rfl) (fun h => absurd h (by decide))
theorem row_54 : TIok Try.prog 54 ty54 := TIok.of_row (by kernel_rfl) (z := .nilFunc) (by kernel_rfl) (fun _ _ _ => ofConst_sound (.nilFunc)) (by kernel_rfl) (by kernel_rfl) (fun h => absurd h (by decide))
theorem row_55 : TIok Try.prog 55 ty55 := TIok.of_row (by kernel_rfl) (z := .nilFunc) (by kernel_rfl) (fun _ _ _ => ofConst_sound (.nilFunc)) (by kernel_rfl) (by kernel_rfl) (fun h => absurd h (by decide))
theorem row_57 : TIok Try.prog 57 ty57 := TIok.of_row (by kernel_rfl) (z := .nilFunc) (by kernel_rfl) (fun _ _ _ => ofConst_sound (.nilFunc)) (by kernel_rfl) (by kernel_rfl) (fun h => absurd h (by decide))
theorem row_59 : TIok Try.prog 59 ty59 := TIok.of_row (by kernel_rfl) (z := .nilFunc) (by kernel_rfl) (fun _ _ _ => ofConst_sound (.nilFunc)) (by kernel_rfl) (by kernel_rfl) (fun h => absurd h (by decide))
theorem row_60 : TIok Try.prog 60 ty60 := TIok.of_row (by kernel_rfl) (z := .nilFunc) (by kernel_rfl) (fun _ _ _ => ofConst_sound (.nilFunc)) (by kernel_rfl) (by kernel_rfl) (fun h => absurd h (by decide))
theorem row_61 : TIok Try.prog 61 ty61 := TIok.of_row (by kernel_rfl) (z := .nilFunc) (by kernel_rfl) (fun _ _ _ => ofConst_sound (.nilFunc)) (by kernel_rfl) (by kernel_rfl) (fun h => absurd h (by decide))
theorem row_62 : TIok Try.prog 62 ty62 := TIok.of_row (by kernel_rfl) (z := .nilFunc) (by kernel_rfl) (fun _ _ _ => ofConst_sound (.nilFunc)) (by kernel_rfl) (by kernel_rfl) (fun h => absurd h (by decide))
theorem row_63 : TIok Try.prog 63 ty63 := TIok.of_row (by kernel_rfl) (z := .nilFunc) (by kernel_rfl) (fun _ _ _ => ofConst_sound (.nilFunc)) (by kernel_rfl) (by kernel_rfl) (fun h => absurd h (by decide))
theorem row_64 : TIok Try.prog 64 ty64 := TIok.of_row (by kernel_rfl) (z := .slice none 0 0) (by kernel_rfl) (fun _ _ _ => ofConst_sound (.slice none 0 0)) (by kernel_rfl) (by kernel_rfl) (fun h => absurd h (by decide))
theorem row_65 : TIok Try.prog 65 ty65 := TIok.of_row (by kernel_rfl) (z := .agg #[.int .u8 0, .slice none 0 0]) (by kernel_rfl) (fun _ _ _ => ofConst_sound (.agg #[.int .u8 0, .slice none 0 0])) (by kernel_rfl) (by kernel_rfl) (fun _ => .inl rfl)
theorem row_66 : TIok Try.prog 66 ty66 := TIok.of_row (by kernel_rfl) (z := .agg #[.int .u8 0, .slice none 0 0]) (by kernel_rfl) (fun _ _ _ => ofConst_sound (.agg #[.int .u8 0, .slice none 0 0])) (by kernel_rfl) (by kernel_rfl) (fun _ => .inl rfl)
theorem row_67 : TIok Try.prog 67 ty67 := TIok.of_row (by kernel_rfl) (z := .nilFunc) (by kernel_rfl) (fun _ _ _ => ofConst_sound (.nilFunc)) (by kernel_rfl) (by kernel_rfl) (fun h => absurd h (by decide))
theorem row_68 : TIok Try.prog 68 ty68 := TIok.of_row (by kernel_rfl) (z := .nilFunc) (by kernel_rfl) (fun _ _ _ => ofConst_sound (.nilFunc)) (by kernel_rfl) (by kernel_rfl) (fun h => absurd h (by decide))
theorem row_69 : TIok Try.prog 69 ty69 := TIok.of_row (by kernel_rfl) (z := .agg #[.int .i64 0, .int .i64 0]) (by kernel_rfl) (fun _ _ _ => ofConst_sound (.agg #[.int .i64 0, .int .i64 0])) (by kernel_rfl) (by kernel_rfl) (fun _ => .inl rfl)
theorem row_71 : TIok Try.prog 71 ty71 := TIok.of_row (by kernel_rfl) (z := .nilFunc) (by kernel_rfl) (fun _ _ _ => ofConst_sound (.nilFunc)) (by kernel_rfl) (by kernel_rfl) (fun h => absurd h (by decide))
theorem row_72 : TIok Try.prog 72 ty72 := TIok.of_row (by kernel_rfl) (z := .nilFunc) (by kernel_rfl) (fun _ _ _ => ofConst_sound (.nilFunc)) (by kernel_rfl) (by kernel_rfl) (fun h => absurd h (by decide))
theorem row_73 : TIok Try.prog 73 ty73 := TIok.of_row (by kernel_rfl) (z := .nilFunc) (by kernel_rfl) (fun _ _ _ => ofConst_sound (.nilFunc)) (by kernel_rfl) (by kernel_rfl) (fun h => absurd h (by decide))
theorem row_74 : TIok Try.prog 74 ty74 := TIok.of_row (by kernel_rfl) (z := .agg (Array.replicate 64 (.int .u8 0))) (by kernel_rfl) (fun _ _ _ => by rw [show ty74.zero = ofConst (.agg (Array.replicate 64 (.int .u8 0))) by kernel_rfl]; exact ofConst_sound _) (by kernel_rfl) (by kernel_rfl) (fun _ => .inl rfl)
theorem row_75 : TIok Try.prog 75 ty75 := TIok.of_row (by kernel_rfl) (z := .slice none 0 0) (by kernel_rfl) (fun _ _ _ => ofConst_sound (.slice none 0 0)) (by kernel_rfl) (by kernel_rfl) (fun h => absurd h (by decide))
theorem row_76 : TIok Try.prog 76 ty76 := TIok.of_row (by kernel_rfl) (z := .nilFunc) (by kernel_rfl) (fun _ _ _ => ofConst_sound (.nilFunc)) (by kernel_rfl) (by kernel_rfl) (fun h => absurd h (by decide))
theorem row_77 : TIok Try.prog 77 ty77 := TIok.of_row (by kernel_rfl) (z := .nilFunc) (by kernel_rfl) (fun _ _ _ => ofConst_sound (.nilFunc)) (by kernel_rfl) (by kernel_rfl) (fun h => absurd h (by decide))
theorem row_78 : TIok Try.prog 78 ty78 := TIok.of_row (by kernel_rfl) (z := .nilFunc) (by kernel_rfl) (fun _ _ _ => ofConst_sound (.nilFunc)) (by kernel_rfl) (by kernel_rfl) (fun h => absurd h (by decide))
theorem row_79 : TIok Try.prog 79 ty79 := TIok.of_row (by kernel_rfl) (z := .agg (Array.replicate 128 (.int .u64 0))) (by kernel_rfl) (fun _ _ _ => by rw [show ty79.zero = ofConst (.agg (Array.replicate 128 (.int .u64 0))) by kernel_rfl]; exact ofConst_sound _) (by kernel_rfl) (by kernel_rfl) (fun _ => .inl rfl)
theorem row_80 : TIok Try.prog 80 ty80 := TIok.of_row (by kernel_rfl) (z := .nilFunc) (by kernel_rfl) (fun _ _ _ => ofConst_sound (.nilFunc)) (by kernel_rfl) (by kernel_rfl) (fun h => absurd h (by decide))
theorem row_81 : TIok Try.prog 81 ty81 := TIok.of_row (by kernel_rfl) (z := .nilFunc) (by kernel_rfl) (fun _ _ _ => ofConst_sound (.nilFunc)) (by kernel_rfl) (by kernel_rfl) (fun h => absurd h (by decide))
theorem row_82 : TIok Try.prog 82 ty82 := TIok.of_row (by kernel_rfl) (z := .nilFunc) (by kernel_rfl) (fun _ _ _ => ofConst_sound (.nilFunc)) (by kernel_rfl) (by kernel_rfl) (fun h => absurd h (by decide))
theorem row_83 : TIok Try.prog 83 ty83 := TIok.of_row (by kernel_rfl) (z := .nilFunc) (by kernel_rfl) (fun _ _ _ => ofConst_sound (.nilFunc)) (by kernel_rfl) (by kernel_rfl) (fun h => absurd h (by decide))
theorem row_84 : TIok Try.prog 84 ty84 := TIok.of_row (by kernel_rfl) (z := .nilFunc) (by kernel_rfl) (fun _ _ _ => ofConst_sound (.nilFunc)) (by kernel_rfl) (by kernel_rfl) (fun h => absurd h (by decide))
theorem row_85 : TIok Try.prog 85 ty85 := TIok.of_row (by kernel_rfl) (z := .nilFunc) (by kernel_rfl) (fun _ _ _ => ofConst_sound (.nilFunc)) (by kernel_rfl) (by kernel_rfl) (fun h => absurd h (by decide))
theorem row_86 : TIok Try.prog 86 ty86 := TIok.of_row (by kernel_rfl) (z := .agg #[.pointer none, .pointer none, .pointer none, .string ByteArray.empty]) (by kernel_rfl) (fun _ _ _ => ofConst_sound (.agg #[.pointer none, .pointer none, .pointer none, .string ByteArray.empty])) (by kernel_rfl) (by kernel_rfl) (fun _ => .inl rfl)
theorem row_87 : TIok Try.prog 87 ty87 := TIok.of_row (by kernel_rfl) (z := .agg #[.pointer none, .pointer none, .pointer none, .string ByteArray.empty]) (by kernel_rfl) (fun _ _ _ => ofConst_sound (.agg #[.pointer none, .pointer none, .pointer none, .string ByteArray.empty])) (by kernel_rfl) (by kernel_rfl) (fun _ => .inl rfl)
theorem row_91 : TIok Try.prog 91 ty91 := TIok.of_row (by kernel_rfl) (z := .nilFunc) (by kernel_rfl) (fun _ _ _ => ofConst_sound (.nilFunc)) (by kernel_rfl) (by kernel_rfl) (fun h => absurd h (by decide))
theorem row_92 : TIok Try.prog 92 ty92 := TIok.of_row (by kernel_rfl) (z := .int .u8 0) (by kernel_rfl) (fun _ _ _ => ofConst_sound (.int .u8 0)) (by kernel_rfl) (by kernel_rfl) (fun h => absurd h (by decide))
theorem row_93 : TIok Try.prog 93 ty93 := TIok.of_row (by kernel_rfl) (z := .int .u8 0) (by kernel_rfl) (fun _ _ _ => ofConst_sound (.int .u8 0)) (by kernel_rfl) (by kernel_rfl) (fun h => absurd h (by decide))
theorem row_94 : TIok Try.prog 94 ty94 := TIok.of_row (by kernel_rfl) (z := .nilFunc) (by kernel_rfl) (fun _ _ _ => ofConst_sound (.nilFunc)) (by kernel_rfl) (by kernel_rfl) (fun h => absurd h (by decide))
theorem row_95 : TIok Try.prog 95 ty95 := TIok.of_row (by kernel_rfl) (z := .pointer none) (by kernel_rfl) (fun _ _ _ => ofConst_sound (.pointer none)) (by kernel_rfl) (by kernel_rfl) (fun h => absurd h (by decide))
theorem row_96 : TIok Try.prog 96 ty96 := TIok.of_row (by kernel_rfl) (z := .int .i32 0) (by kernel_rfl) (fun _ _ _ => ofConst_sound (.int .i32 0)) (by kernel_rfl) (by kernel_rfl) (fun h => absurd h (by decide))
theorem row_97 : TIok Try.prog 97 ty97 := TIok.of_row (by kernel_rfl) (z := .int .i32 0) (by kernel_rfl) (fun _ _ _ => ofConst_sound (.int .i32 0)) (by kernel_rfl) (by kernel_rfl) (fun h => absurd h (by decide))
theorem row_98 : TIok Try.prog 98 ty98 := TIok.of_row (by kernel_rfl) (z := .agg #[.int .u64 0, .int .u64 0, .int .u32 0, .int .u8 0, .int .u8 0, .int .u8 0, .int .u8 0, .nilFunc, .pointer none, .int .i32 0, .int .i32 0]) (by kernel_rfl) (fun _ _ _ => ofConst_sound (.agg #[.int .u64 0, .int .u64 0, .int .u32 0, .int .u8 0, .int .u8 0, .int .u8 0, .int .u8 0, .nilFunc, .pointer none, .int .i32 0, .int .i32 0])) (by kernel_rfl) (by kernel_rfl) (fun _ => .inl rfl)
theorem row_99 : TIok Try.prog 99 ty99 := TIok.of_row (by kernel_rfl) (z := .agg #[.int .u64 0, .int .u64 0, .int .u32 0, .int .u8 0, .int .u8 0, .int .u8 0, .int .u8 0, .nilFunc, .pointer none, .int .i32 0, .int .i32 0]) (by kernel_rfl) (fun _ _ _ => ofConst_sound (.agg #[.int .u64 0, .int .u64 0, .int .u32 0, .int .u8 0, .int .u8 0, .int .u8 0, .int .u8 0, .nilFunc, .pointer none, .int .i32 0, .int .i32 0])) (by kernel_rfl) (by kernel_rfl) (fun _ => .inl rfl)
theorem allOK : AllOK Try.prog 0 ttL := ⟨fun h => absurd rfl h, fun _ => row_1, fun _ => row_2, fun _ => row_3, fun _ => row_4, fun _ => row_5, fun _ => row_6, fun _ => row_7, fun _ => row_8, fun _ => row_9, fun _ => row_10, fun _ => row_11, fun _ => row_12, fun _ => row_13, fun _ => row_14, fun _ => row_15, fun _ => row_16, fun _ => row_17, fun _ => row_18, fun _ => row_19, fun _ => row_20, fun _ => row_21, fun _ => row_22, fun _ => row_23, fun _ => row_24, fun _ => row_25, fun _ => row_26, fun h => absurd rfl h, fun _ => row_28, fun h => absurd rfl h, fun _ => row_30, fun _ => row_31, fun _ => row_32, fun _ => row_33, fun _ => row_34, fun _ => row_35, fun _ => row_36, fun _ => row_37, fun _ => row_38, fun _ => row_39, fun h => absurd rfl h, fun _ => row_41, fun _ => row_42, fun _ => row_43, fun _ => row_44, fun _ => row_45, fun _ => row_46, fun _ => row_47, fun _ => row_48, fun _ => row_49, fun _ => row_50, fun h => absurd rfl h, fun _ => row_52, fun _ => row_53, fun _ => row_54, fun _ => row_55, fun h => absurd rfl h, fun _ => row_57, fun h => absurd rfl h, fun _ => row_59, fun _ => row_60, fun _ => row_61, fun _ => row_62, fun _ => row_63, fun _ => row_64, fun _ => row_65, fun _ => row_66, fun _ => row_67, fun _ => row_68, fun _ => row_69, fun h => absurd rfl h, fun _ => row_71, fun _ => row_72, fun _ => row_73, fun _ => row_74, fun _ => row_75, fun _ => row_76, fun _ => row_77, fun _ => row_78, fun _ => row_79, fun _ => row_80, fun _ => row_81, fun _ => row_82, fun _ => row_83, fun _ => row_84, fun _ => row_85, fun _ => row_86, fun _ => row_87, fun h => absurd rfl h, fun h => absurd rfl h, fun h => absurd rfl h, fun _ => row_91, fun _ => row_92, fun _ => row_93, fun _ => row_94, fun _ => row_95, fun _ => row_96, fun _ => row_97, fun _ => row_98, fun _ => row_99, fun h => absurd rfl h, trivial⟩
theorem tok : TOK Try.prog tt := fun t h => by have := tok_of allOK t h; rwa [Nat.zero_add] at this
end Go.Proofs.Ytopnabckbpogeaa

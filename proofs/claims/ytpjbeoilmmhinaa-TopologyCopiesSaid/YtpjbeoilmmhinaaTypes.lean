/-
  The table of types of this program, for the library Vm, and that it is true. Printed by a program (types.py).
-/
import Derived.Test.YtpjbeoilmmhinaaProg
import Derived.KernelRfl
import Derived.Test.YtpjbeoilmmhinaaVm3
set_option linter.all false
set_option maxRecDepth 100000
namespace Go.Proofs.Ytpjbeoilmmhinaa
open Go.Vm

def ty1 : TI := ⟨1, 8, false, .nilf, .func, []⟩
def ty2 : TI := ⟨1, 8, false, .int .i64 0, .int .i64, []⟩
def ty3 : TI := ⟨1, 8, false, .int .i64 0, .int .i64, []⟩
def ty4 : TI := ⟨1, 1, false, .bool false, .bool, []⟩
def ty5 : TI := ⟨1, 1, false, .int .u8 0, .int .u8, []⟩
def ty6 : TI := ⟨1, 1, false, .int .u8 0, .int .u8, []⟩
def ty7 : TI := ⟨4, 24, true, .agg [.int .i64 0, .int .i64 0, .bool false, .int .u8 0], .struct [(0, 2), (1, 3), (2, 4), (3, 6)], [.int .i64, .int .i64, .bool, .int .u8]⟩
def ty8 : TI := ⟨4, 24, true, .agg [.int .i64 0, .int .i64 0, .bool false, .int .u8 0], .struct [(0, 2), (1, 3), (2, 4), (3, 6)], [.int .i64, .int .i64, .bool, .int .u8]⟩
def ty9 : TI := ⟨1, 16, false, .str [], .str, []⟩
def ty10 : TI := ⟨1, 16, false, .str [], .str, []⟩
def ty11 : TI := ⟨1, 16, false, .str [], .str, []⟩
def ty12 : TI := ⟨1, 8, false, .int .u64 0, .int .u64, []⟩
def ty13 : TI := ⟨2, 24, true, .agg [.str [], .int .u64 0], .struct [(0, 9), (1, 12)], []⟩
def ty14 : TI := ⟨2, 24, true, .agg [.str [], .int .u64 0], .struct [(0, 9), (1, 12)], []⟩
def ty15 : TI := ⟨1, 8, false, .nilp, .ptr 58, []⟩
def ty16 : TI := ⟨1, 8, false, .nilp, .ptr 61, []⟩
def ty17 : TI := ⟨1, 8, false, .nilp, .ptr 71, []⟩
def ty18 : TI := ⟨1, 8, true, .agg [.nilp], .struct [(0, 17)], []⟩
def ty19 : TI := ⟨1, 8, true, .agg [.nilp], .struct [(0, 17)], []⟩
def ty20 : TI := ⟨1, 16, false, .nili, .iface, []⟩
def ty21 : TI := ⟨1, 4, false, .int .i32 0, .int .i32, []⟩
def ty22 : TI := ⟨1, 24, false, .sl true [] 0, .slice 3, []⟩
def ty23 : TI := ⟨1, 24, false, .sl true [] 0, .slice 42, []⟩
def ty24 : TI := ⟨1, 24, false, .sl true [] 0, .slice 32, []⟩
def ty25 : TI := ⟨3, 72, true, .agg [.sl true [] 0, .sl true [] 0, .sl true [] 0], .struct [(0, 22), (1, 23), (2, 24)], []⟩
def ty26 : TI := ⟨3, 72, true, .agg [.sl true [] 0, .sl true [] 0, .sl true [] 0], .struct [(0, 22), (1, 23), (2, 24)], []⟩
def ty27 : TI := ⟨1, 8, false, .nilf, .func, []⟩
def ty28 : TI := ⟨1, 8, false, .nilf, .func, []⟩
def ty29 : TI := ⟨1, 8, false, .int .i64 0, .int .i64, []⟩
def ty30 : TI := ⟨1, 8, false, .nilf, .func, []⟩
def ty31 : TI := ⟨2, 16, true, .agg [.int .i64 0, .int .i64 0], .struct [(0, 3), (1, 3)], [.int .i64, .int .i64]⟩
def ty32 : TI := ⟨2, 16, true, .agg [.int .i64 0, .int .i64 0], .struct [(0, 3), (1, 3)], [.int .i64, .int .i64]⟩
def ty34 : TI := ⟨1, 8, false, .nilf, .func, []⟩
def ty36 : TI := ⟨1, 8, false, .nilf, .func, []⟩
def ty37 : TI := ⟨1, 8, false, .nilf, .func, []⟩
def ty38 : TI := ⟨1, 24, false, .sl true [] 0, .slice 22, []⟩
def ty39 : TI := ⟨1, 8, false, .nilf, .func, []⟩
def ty40 : TI := ⟨1, 8, false, .nilf, .func, []⟩
def ty41 : TI := ⟨5, 40, true, .agg [.int .i64 0, .int .i64 0, .int .i64 0, .int .i64 0, .bool false], .struct [(0, 32), (2, 32), (4, 4)], [.int .i64, .int .i64, .int .i64, .int .i64, .bool]⟩
def ty42 : TI := ⟨5, 40, true, .agg [.int .i64 0, .int .i64 0, .int .i64 0, .int .i64 0, .bool false], .struct [(0, 32), (2, 32), (4, 4)], [.int .i64, .int .i64, .int .i64, .int .i64, .bool]⟩
def ty43 : TI := ⟨1, 8, false, .nilf, .func, []⟩
def ty45 : TI := ⟨1, 8, false, .nilf, .func, []⟩
def ty46 : TI := ⟨1, 8, false, .nilf, .func, []⟩
def ty47 : TI := ⟨1, 8, false, .nilf, .func, []⟩
def ty48 : TI := ⟨1, 8, false, .nilf, .func, []⟩
def ty49 : TI := ⟨1, 8, false, .nilf, .func, []⟩
def ty50 : TI := ⟨1, 8, false, .nilf, .func, []⟩
def ty52 : TI := ⟨1, 8, false, .nilf, .func, []⟩
def ty53 : TI := ⟨1, 24, false, .sl true [] 0, .slice 54, []⟩
def ty54 : TI := ⟨1, 24, false, .sl true [] 0, .slice 4, []⟩
def ty55 : TI := ⟨1, 8, false, .nilf, .func, []⟩
def ty56 : TI := ⟨1, 8, false, .nilf, .func, []⟩
def ty57 : TI := ⟨4, 40, true, .agg [.nilp, .nilp, .nilp, .str []], .struct [(0, 17), (1, 17), (2, 17), (3, 9)], []⟩
def ty58 : TI := ⟨4, 40, true, .agg [.nilp, .nilp, .nilp, .str []], .struct [(0, 17), (1, 17), (2, 17), (3, 9)], []⟩
def ty62 : TI := ⟨1, 8, false, .nilf, .func, []⟩
def ty63 : TI := ⟨1, 4, false, .int .u32 0, .int .u32, []⟩
def ty64 : TI := ⟨1, 1, false, .int .u8 0, .int .u8, []⟩
def ty65 : TI := ⟨1, 1, false, .int .u8 0, .int .u8, []⟩
def ty66 : TI := ⟨1, 8, false, .nilf, .func, []⟩
def ty67 : TI := ⟨1, 8, false, .nilp, .ptr 5, []⟩
def ty68 : TI := ⟨1, 4, false, .int .i32 0, .int .i32, []⟩
def ty69 : TI := ⟨1, 4, false, .int .i32 0, .int .i32, []⟩
def ty70 : TI := ⟨11, 48, true, .agg [.int .u64 0, .int .u64 0, .int .u32 0, .int .u8 0, .int .u8 0, .int .u8 0, .int .u8 0, .nilf, .nilp, .int .i32 0, .int .i32 0], .struct [(0, 12), (1, 12), (2, 63), (3, 64), (4, 5), (5, 5), (6, 65), (7, 66), (8, 67), (9, 68), (10, 69)], []⟩
def ty71 : TI := ⟨11, 48, true, .agg [.int .u64 0, .int .u64 0, .int .u32 0, .int .u8 0, .int .u8 0, .int .u8 0, .int .u8 0, .nilf, .nilp, .int .i32 0, .int .i32 0], .struct [(0, 12), (1, 12), (2, 63), (3, 64), (4, 5), (5, 5), (6, 65), (7, 66), (8, 67), (9, 68), (10, 69)], []⟩
def ttL : List TI := [TI.none, ty1, ty2, ty3, ty4, ty5, ty6, ty7, ty8, ty9, ty10, ty11, ty12, ty13, ty14, ty15, ty16, ty17, ty18, ty19, ty20, ty21, ty22, ty23, ty24, ty25, ty26, ty27, ty28, ty29, ty30, ty31, ty32, TI.none, ty34, TI.none, ty36, ty37, ty38, ty39, ty40, ty41, ty42, ty43, TI.none, ty45, ty46, ty47, ty48, ty49, ty50, TI.none, ty52, ty53, ty54, ty55, ty56, ty57, ty58, TI.none, TI.none, TI.none, ty62, ty63, ty64, ty65, ty66, ty67, ty68, ty69, ty70, ty71, TI.none]
def tt (t : Nat) : TI := ttOf ttL t
theorem tt_1 : tt 1 = ⟨1, 8, false, .nilf, .func, []⟩ := rfl
theorem tt_2 : tt 2 = ⟨1, 8, false, .int .i64 0, .int .i64, []⟩ := rfl
theorem tt_3 : tt 3 = ⟨1, 8, false, .int .i64 0, .int .i64, []⟩ := rfl
theorem tt_4 : tt 4 = ⟨1, 1, false, .bool false, .bool, []⟩ := rfl
theorem tt_5 : tt 5 = ⟨1, 1, false, .int .u8 0, .int .u8, []⟩ := rfl
theorem tt_6 : tt 6 = ⟨1, 1, false, .int .u8 0, .int .u8, []⟩ := rfl
theorem tt_7 : tt 7 = ⟨4, 24, true, .agg [.int .i64 0, .int .i64 0, .bool false, .int .u8 0], .struct [(0, 2), (1, 3), (2, 4), (3, 6)], [.int .i64, .int .i64, .bool, .int .u8]⟩ := rfl
theorem tt_8 : tt 8 = ⟨4, 24, true, .agg [.int .i64 0, .int .i64 0, .bool false, .int .u8 0], .struct [(0, 2), (1, 3), (2, 4), (3, 6)], [.int .i64, .int .i64, .bool, .int .u8]⟩ := rfl
theorem tt_9 : tt 9 = ⟨1, 16, false, .str [], .str, []⟩ := rfl
theorem tt_10 : tt 10 = ⟨1, 16, false, .str [], .str, []⟩ := rfl
theorem tt_11 : tt 11 = ⟨1, 16, false, .str [], .str, []⟩ := rfl
theorem tt_12 : tt 12 = ⟨1, 8, false, .int .u64 0, .int .u64, []⟩ := rfl
theorem tt_13 : tt 13 = ⟨2, 24, true, .agg [.str [], .int .u64 0], .struct [(0, 9), (1, 12)], []⟩ := rfl
theorem tt_14 : tt 14 = ⟨2, 24, true, .agg [.str [], .int .u64 0], .struct [(0, 9), (1, 12)], []⟩ := rfl
theorem tt_15 : tt 15 = ⟨1, 8, false, .nilp, .ptr 58, []⟩ := rfl
theorem tt_16 : tt 16 = ⟨1, 8, false, .nilp, .ptr 61, []⟩ := rfl
theorem tt_17 : tt 17 = ⟨1, 8, false, .nilp, .ptr 71, []⟩ := rfl
theorem tt_18 : tt 18 = ⟨1, 8, true, .agg [.nilp], .struct [(0, 17)], []⟩ := rfl
theorem tt_19 : tt 19 = ⟨1, 8, true, .agg [.nilp], .struct [(0, 17)], []⟩ := rfl
theorem tt_20 : tt 20 = ⟨1, 16, false, .nili, .iface, []⟩ := rfl
theorem tt_21 : tt 21 = ⟨1, 4, false, .int .i32 0, .int .i32, []⟩ := rfl
theorem tt_22 : tt 22 = ⟨1, 24, false, .sl true [] 0, .slice 3, []⟩ := rfl
theorem tt_23 : tt 23 = ⟨1, 24, false, .sl true [] 0, .slice 42, []⟩ := rfl
theorem tt_24 : tt 24 = ⟨1, 24, false, .sl true [] 0, .slice 32, []⟩ := rfl
theorem tt_25 : tt 25 = ⟨3, 72, true, .agg [.sl true [] 0, .sl true [] 0, .sl true [] 0], .struct [(0, 22), (1, 23), (2, 24)], []⟩ := rfl
theorem tt_26 : tt 26 = ⟨3, 72, true, .agg [.sl true [] 0, .sl true [] 0, .sl true [] 0], .struct [(0, 22), (1, 23), (2, 24)], []⟩ := rfl
theorem tt_27 : tt 27 = ⟨1, 8, false, .nilf, .func, []⟩ := rfl
theorem tt_28 : tt 28 = ⟨1, 8, false, .nilf, .func, []⟩ := rfl
theorem tt_29 : tt 29 = ⟨1, 8, false, .int .i64 0, .int .i64, []⟩ := rfl
theorem tt_30 : tt 30 = ⟨1, 8, false, .nilf, .func, []⟩ := rfl
theorem tt_31 : tt 31 = ⟨2, 16, true, .agg [.int .i64 0, .int .i64 0], .struct [(0, 3), (1, 3)], [.int .i64, .int .i64]⟩ := rfl
theorem tt_32 : tt 32 = ⟨2, 16, true, .agg [.int .i64 0, .int .i64 0], .struct [(0, 3), (1, 3)], [.int .i64, .int .i64]⟩ := rfl
theorem tt_34 : tt 34 = ⟨1, 8, false, .nilf, .func, []⟩ := rfl
theorem tt_36 : tt 36 = ⟨1, 8, false, .nilf, .func, []⟩ := rfl
theorem tt_37 : tt 37 = ⟨1, 8, false, .nilf, .func, []⟩ := rfl
theorem tt_38 : tt 38 = ⟨1, 24, false, .sl true [] 0, .slice 22, []⟩ := rfl
theorem tt_39 : tt 39 = ⟨1, 8, false, .nilf, .func, []⟩ := rfl
theorem tt_40 : tt 40 = ⟨1, 8, false, .nilf, .func, []⟩ := rfl
theorem tt_41 : tt 41 = ⟨5, 40, true, .agg [.int .i64 0, .int .i64 0, .int .i64 0, .int .i64 0, .bool false], .struct [(0, 32), (2, 32), (4, 4)], [.int .i64, .int .i64, .int .i64, .int .i64, .bool]⟩ := rfl
theorem tt_42 : tt 42 = ⟨5, 40, true, .agg [.int .i64 0, .int .i64 0, .int .i64 0, .int .i64 0, .bool false], .struct [(0, 32), (2, 32), (4, 4)], [.int .i64, .int .i64, .int .i64, .int .i64, .bool]⟩ := rfl
theorem tt_43 : tt 43 = ⟨1, 8, false, .nilf, .func, []⟩ := rfl
theorem tt_45 : tt 45 = ⟨1, 8, false, .nilf, .func, []⟩ := rfl
theorem tt_46 : tt 46 = ⟨1, 8, false, .nilf, .func, []⟩ := rfl
theorem tt_47 : tt 47 = ⟨1, 8, false, .nilf, .func, []⟩ := rfl
theorem tt_48 : tt 48 = ⟨1, 8, false, .nilf, .func, []⟩ := rfl
theorem tt_49 : tt 49 = ⟨1, 8, false, .nilf, .func, []⟩ := rfl
theorem tt_50 : tt 50 = ⟨1, 8, false, .nilf, .func, []⟩ := rfl
theorem tt_52 : tt 52 = ⟨1, 8, false, .nilf, .func, []⟩ := rfl
theorem tt_53 : tt 53 = ⟨1, 24, false, .sl true [] 0, .slice 54, []⟩ := rfl
theorem tt_54 : tt 54 = ⟨1, 24, false, .sl true [] 0, .slice 4, []⟩ := rfl
theorem tt_55 : tt 55 = ⟨1, 8, false, .nilf, .func, []⟩ := rfl
theorem tt_56 : tt 56 = ⟨1, 8, false, .nilf, .func, []⟩ := rfl
theorem tt_57 : tt 57 = ⟨4, 40, true, .agg [.nilp, .nilp, .nilp, .str []], .struct [(0, 17), (1, 17), (2, 17), (3, 9)], []⟩ := rfl
theorem tt_58 : tt 58 = ⟨4, 40, true, .agg [.nilp, .nilp, .nilp, .str []], .struct [(0, 17), (1, 17), (2, 17), (3, 9)], []⟩ := rfl
theorem tt_62 : tt 62 = ⟨1, 8, false, .nilf, .func, []⟩ := rfl
theorem tt_63 : tt 63 = ⟨1, 4, false, .int .u32 0, .int .u32, []⟩ := rfl
theorem tt_64 : tt 64 = ⟨1, 1, false, .int .u8 0, .int .u8, []⟩ := rfl
theorem tt_65 : tt 65 = ⟨1, 1, false, .int .u8 0, .int .u8, []⟩ := rfl
theorem tt_66 : tt 66 = ⟨1, 8, false, .nilf, .func, []⟩ := rfl
theorem tt_67 : tt 67 = ⟨1, 8, false, .nilp, .ptr 5, []⟩ := rfl
theorem tt_68 : tt 68 = ⟨1, 4, false, .int .i32 0, .int .i32, []⟩ := rfl
theorem tt_69 : tt 69 = ⟨1, 4, false, .int .i32 0, .int .i32, []⟩ := rfl
theorem tt_70 : tt 70 = ⟨11, 48, true, .agg [.int .u64 0, .int .u64 0, .int .u32 0, .int .u8 0, .int .u8 0, .int .u8 0, .int .u8 0, .nilf, .nilp, .int .i32 0, .int .i32 0], .struct [(0, 12), (1, 12), (2, 63), (3, 64), (4, 5), (5, 5), (6, 65), (7, 66), (8, 67), (9, 68), (10, 69)], []⟩ := rfl
theorem tt_71 : tt 71 = ⟨11, 48, true, .agg [.int .u64 0, .int .u64 0, .int .u32 0, .int .u8 0, .int .u8 0, .int .u8 0, .int .u8 0, .nilf, .nilp, .int .i32 0, .int .i32 0], .struct [(0, 12), (1, 12), (2, 63), (3, 64), (4, 5), (5, 5), (6, 65), (7, 66), (8, 67), (9, 68), (10, 69)], []⟩ := rfl
theorem row_1 : TIok Try.prog 1 ty1 := TIok.of_row (by kernel_rfl) (z := .nilFunc) (by kernel_rfl) (fun _ _ _ => ofConst_sound (.nilFunc)) (by kernel_rfl) (by kernel_rfl) (fun h => absurd h (by decide))
theorem row_2 : TIok Try.prog 2 ty2 := TIok.of_row (by kernel_rfl) (z := .int .i64 0) (by kernel_rfl) (fun _ _ _ => ofConst_sound (.int .i64 0)) (by kernel_rfl) (by kernel_rfl) (fun h => absurd h (by decide))
theorem row_3 : TIok Try.prog 3 ty3 := TIok.of_row (by kernel_rfl) (z := .int .i64 0) (by kernel_rfl) (fun _ _ _ => ofConst_sound (.int .i64 0)) (by kernel_rfl) (by kernel_rfl) (fun h => absurd h (by decide))
theorem row_4 : TIok Try.prog 4 ty4 := TIok.of_row (by kernel_rfl) (z := .bool false) (by kernel_rfl) (fun _ _ _ => ofConst_sound (.bool false)) (by kernel_rfl) (by kernel_rfl) (fun h => absurd h (by decide))
theorem row_5 : TIok Try.prog 5 ty5 := TIok.of_row (by kernel_rfl) (z := .int .u8 0) (by kernel_rfl) (fun _ _ _ => ofConst_sound (.int .u8 0)) (by kernel_rfl) (by kernel_rfl) (fun h => absurd h (by decide))
theorem row_6 : TIok Try.prog 6 ty6 := TIok.of_row (by kernel_rfl) (z := .int .u8 0) (by kernel_rfl) (fun _ _ _ => ofConst_sound (.int .u8 0)) (by kernel_rfl) (by kernel_rfl) (fun h => absurd h (by decide))
theorem row_7 : TIok Try.prog 7 ty7 := TIok.of_row (by kernel_rfl) (z := .agg #[.int .i64 0, .int .i64 0, .bool false, .int .u8 0]) (by kernel_rfl) (fun _ _ _ => ofConst_sound (.agg #[.int .i64 0, .int .i64 0, .bool false, .int .u8 0])) (by kernel_rfl) (by kernel_rfl) (fun _ => .inr (by kernel_rfl))
theorem row_8 : TIok Try.prog 8 ty8 := TIok.of_row (by kernel_rfl) (z := .agg #[.int .i64 0, .int .i64 0, .bool false, .int .u8 0]) (by kernel_rfl) (fun _ _ _ => ofConst_sound (.agg #[.int .i64 0, .int .i64 0, .bool false, .int .u8 0])) (by kernel_rfl) (by kernel_rfl) (fun _ => .inr (by kernel_rfl))
theorem row_9 : TIok Try.prog 9 ty9 := TIok.of_row (by kernel_rfl) (z := .string ByteArray.empty) (by kernel_rfl) (fun _ _ _ => ofConst_sound (.string ByteArray.empty)) (by kernel_rfl) (by kernel_rfl) (fun h => absurd h (by decide))
theorem row_10 : TIok Try.prog 10 ty10 := TIok.of_row (by kernel_rfl) (z := .string ByteArray.empty) (by kernel_rfl) (fun _ _ _ => ofConst_sound (.string ByteArray.empty)) (by kernel_rfl) (by kernel_rfl) (fun h => absurd h (by decide))
theorem row_11 : TIok Try.prog 11 ty11 := TIok.of_row (by kernel_rfl) (z := .string ByteArray.empty) (by kernel_rfl) (fun _ _ _ => ofConst_sound (.string ByteArray.empty)) (by kernel_rfl) (by kernel_rfl) (fun h => absurd h (by decide))
theorem row_12 : TIok Try.prog 12 ty12 := TIok.of_row (by kernel_rfl) (z := .int .u64 0) (by kernel_rfl) (fun _ _ _ => ofConst_sound (.int .u64 0)) (by kernel_rfl) (by kernel_rfl) (fun h => absurd h (by decide))
theorem row_13 : TIok Try.prog 13 ty13 := TIok.of_row (by kernel_rfl) (z := .agg #[.string ByteArray.empty, .int .u64 0]) (by kernel_rfl) (fun _ _ _ => ofConst_sound (.agg #[.string ByteArray.empty, .int .u64 0])) (by kernel_rfl) (by kernel_rfl) (fun _ => .inl rfl)
theorem row_14 : TIok Try.prog 14 ty14 := TIok.of_row (by kernel_rfl) (z := .agg #[.string ByteArray.empty, .int .u64 0]) (by kernel_rfl) (fun _ _ _ => ofConst_sound (.agg #[.string ByteArray.empty, .int .u64 0])) (by kernel_rfl) (by kernel_rfl) (fun _ => .inl rfl)
theorem row_15 : TIok Try.prog 15 ty15 := TIok.of_row (by kernel_rfl) (z := .pointer none) (by kernel_rfl) (fun _ _ _ => ofConst_sound (.pointer none)) (by kernel_rfl) (by kernel_rfl) (fun h => absurd h (by decide))
theorem row_16 : TIok Try.prog 16 ty16 := TIok.of_row (by kernel_rfl) (z := .pointer none) (by kernel_rfl) (fun _ _ _ => ofConst_sound (.pointer none)) (by kernel_rfl) (by kernel_rfl) (fun h => absurd h (by decide))
theorem row_17 : TIok Try.prog 17 ty17 := TIok.of_row (by kernel_rfl) (z := .pointer none) (by kernel_rfl) (fun _ _ _ => ofConst_sound (.pointer none)) (by kernel_rfl) (by kernel_rfl) (fun h => absurd h (by decide))
theorem row_18 : TIok Try.prog 18 ty18 := TIok.of_row (by kernel_rfl) (z := .agg #[.pointer none]) (by kernel_rfl) (fun _ _ _ => ofConst_sound (.agg #[.pointer none])) (by kernel_rfl) (by kernel_rfl) (fun _ => .inl rfl)
theorem row_19 : TIok Try.prog 19 ty19 := TIok.of_row (by kernel_rfl) (z := .agg #[.pointer none]) (by kernel_rfl) (fun _ _ _ => ofConst_sound (.agg #[.pointer none])) (by kernel_rfl) (by kernel_rfl) (fun _ => .inl rfl)
theorem row_20 : TIok Try.prog 20 ty20 := TIok.of_row (by kernel_rfl) (z := .nilIface) (by kernel_rfl) (fun _ _ _ => ofConst_sound (.nilIface)) (by kernel_rfl) (by kernel_rfl) (fun h => absurd h (by decide))
theorem row_21 : TIok Try.prog 21 ty21 := TIok.of_row (by kernel_rfl) (z := .int .i32 0) (by kernel_rfl) (fun _ _ _ => ofConst_sound (.int .i32 0)) (by kernel_rfl) (by kernel_rfl) (fun h => absurd h (by decide))
theorem row_22 : TIok Try.prog 22 ty22 := TIok.of_row (by kernel_rfl) (z := .slice none 0 0) (by kernel_rfl) (fun _ _ _ => ofConst_sound (.slice none 0 0)) (by kernel_rfl) (by kernel_rfl) (fun h => absurd h (by decide))
theorem row_23 : TIok Try.prog 23 ty23 := TIok.of_row (by kernel_rfl) (z := .slice none 0 0) (by kernel_rfl) (fun _ _ _ => ofConst_sound (.slice none 0 0)) (by kernel_rfl) (by kernel_rfl) (fun h => absurd h (by decide))
theorem row_24 : TIok Try.prog 24 ty24 := TIok.of_row (by kernel_rfl) (z := .slice none 0 0) (by kernel_rfl) (fun _ _ _ => ofConst_sound (.slice none 0 0)) (by kernel_rfl) (by kernel_rfl) (fun h => absurd h (by decide))
theorem row_25 : TIok Try.prog 25 ty25 := TIok.of_row (by kernel_rfl) (z := .agg #[.slice none 0 0, .slice none 0 0, .slice none 0 0]) (by kernel_rfl) (fun _ _ _ => ofConst_sound (.agg #[.slice none 0 0, .slice none 0 0, .slice none 0 0])) (by kernel_rfl) (by kernel_rfl) (fun _ => .inl rfl)
theorem row_26 : TIok Try.prog 26 ty26 := TIok.of_row (by kernel_rfl) (z := .agg #[.slice none 0 0, .slice none 0 0, .slice none 0 0]) (by kernel_rfl) (fun _ _ _ => ofConst_sound (.agg #[.slice none 0 0, .slice none 0 0, .slice none 0 0])) (by kernel_rfl) (by kernel_rfl) (fun _ => .inl rfl)
theorem row_27 : TIok Try.prog 27 ty27 := TIok.of_row (by kernel_rfl) (z := .nilFunc) (by kernel_rfl) (fun _ _ _ => ofConst_sound (.nilFunc)) (by kernel_rfl) (by kernel_rfl) (fun h => absurd h (by decide))
theorem row_28 : TIok Try.prog 28 ty28 := TIok.of_row (by kernel_rfl) (z := .nilFunc) (by kernel_rfl) (fun _ _ _ => ofConst_sound (.nilFunc)) (by kernel_rfl) (by kernel_rfl) (fun h => absurd h (by decide))
theorem row_29 : TIok Try.prog 29 ty29 := TIok.of_row (by kernel_rfl) (z := .int .i64 0) (by kernel_rfl) (fun _ _ _ => ofConst_sound (.int .i64 0)) (by kernel_rfl) (by kernel_rfl) (fun h => absurd h (by decide))
theorem row_30 : TIok Try.prog 30 ty30 := TIok.of_row (by kernel_rfl) (z := .nilFunc) (by kernel_rfl) (fun _ _ _ => ofConst_sound (.nilFunc)) (by kernel_rfl) (by kernel_rfl) (fun h => absurd h (by decide))
theorem row_31 : TIok Try.prog 31 ty31 := TIok.of_row (by kernel_rfl) (z := .agg #[.int .i64 0, .int .i64 0]) (by kernel_rfl) (fun _ _ _ => ofConst_sound (.agg #[.int .i64 0, .int .i64 0])) (by kernel_rfl) (by kernel_rfl) (fun _ => .inr (by kernel_rfl))
theorem row_32 : TIok Try.prog 32 ty32 := TIok.of_row (by kernel_rfl) (z := .agg #[.int .i64 0, .int .i64 0]) (by kernel_rfl) (fun _ _ _ => ofConst_sound (.agg #[.int .i64 0, .int .i64 0])) (by kernel_rfl) (by kernel_rfl) (fun _ => .inr (by kernel_rfl))
theorem row_34 : TIok Try.prog 34 ty34 := TIok.of_row (by kernel_rfl) (z := .nilFunc) (by kernel_rfl) (fun _ _ _ => ofConst_sound (.nilFunc)) (by kernel_rfl) (by kernel_rfl) (fun h => absurd h (by decide))
theorem row_36 : TIok Try.prog 36 ty36 := TIok.of_row (by kernel_rfl) (z := .nilFunc) (by kernel_rfl) (fun _ _ _ => ofConst_sound (.nilFunc)) (by kernel_rfl) (by kernel_rfl) (fun h => absurd h (by decide))
theorem row_37 : TIok Try.prog 37 ty37 := TIok.of_row (by kernel_rfl) (z := .nilFunc) (by kernel_rfl) (fun _ _ _ => ofConst_sound (.nilFunc)) (by kernel_rfl) (by kernel_rfl) (fun h => absurd h (by decide))
theorem row_38 : TIok Try.prog 38 ty38 := TIok.of_row (by kernel_rfl) (z := .slice none 0 0) (by kernel_rfl) (fun _ _ _ => ofConst_sound (.slice none 0 0)) (by kernel_rfl) (by kernel_rfl) (fun h => absurd h (by decide))
theorem row_39 : TIok Try.prog 39 ty39 := TIok.of_row (by kernel_rfl) (z := .nilFunc) (by kernel_rfl) (fun _ _ _ => ofConst_sound (.nilFunc)) (by kernel_rfl) (by kernel_rfl) (fun h => absurd h (by decide))
theorem row_40 : TIok Try.prog 40 ty40 := TIok.of_row (by kernel_rfl) (z := .nilFunc) (by kernel_rfl) (fun _ _ _ => ofConst_sound (.nilFunc)) (by kernel_rfl) (by kernel_rfl) (fun h => absurd h (by decide))
theorem row_41 : TIok Try.prog 41 ty41 := TIok.of_row (by kernel_rfl) (z := .agg #[.int .i64 0, .int .i64 0, .int .i64 0, .int .i64 0, .bool false]) (by kernel_rfl) (fun _ _ _ => ofConst_sound (.agg #[.int .i64 0, .int .i64 0, .int .i64 0, .int .i64 0, .bool false])) (by kernel_rfl) (by kernel_rfl) (fun _ => .inr (by kernel_rfl))
theorem row_42 : TIok Try.prog 42 ty42 := TIok.of_row (by kernel_rfl) (z := .agg #[.int .i64 0, .int .i64 0, .int .i64 0, .int .i64 0, .bool false]) (by kernel_rfl) (fun _ _ _ => ofConst_sound (.agg #[.int .i64 0, .int .i64 0, .int .i64 0, .int .i64 0, .bool false])) (by kernel_rfl) (by kernel_rfl) (fun _ => .inr (by kernel_rfl))
theorem row_43 : TIok Try.prog 43 ty43 := TIok.of_row (by kernel_rfl) (z := .nilFunc) (by kernel_rfl) (fun _ _ _ => ofConst_sound (.nilFunc)) (by kernel_rfl) (by kernel_rfl) (fun h => absurd h (by decide))
theorem row_45 : TIok Try.prog 45 ty45 := TIok.of_row (by kernel_rfl) (z := .nilFunc) (by kernel_rfl) (fun _ _ _ => ofConst_sound (.nilFunc)) (by kernel_rfl) (by kernel_rfl) (fun h => absurd h (by decide))
theorem row_46 : TIok Try.prog 46 ty46 := TIok.of_row (by kernel_rfl) (z := .nilFunc) (by kernel_rfl) (fun _ _ _ => ofConst_sound (.nilFunc)) (by kernel_rfl) (by kernel_rfl) (fun h => absurd h (by decide))
theorem row_47 : TIok Try.prog 47 ty47 := TIok.of_row (by kernel_rfl) (z := .nilFunc) (by kernel_rfl) (fun _ _ _ => ofConst_sound (.nilFunc)) (by kernel_rfl) (by kernel_rfl) (fun h => absurd h (by decide))
theorem row_48 : TIok Try.prog 48 ty48 := TIok.of_row (by kernel_rfl) (z := .nilFunc) (by kernel_rfl) (fun _ _ _ => ofConst_sound (.nilFunc)) (by kernel_rfl) (by kernel_rfl) (fun h => absurd h (by decide))
theorem row_49 : TIok Try.prog 49 ty49 := TIok.of_row (by kernel_rfl) (z := .nilFunc) (by kernel_rfl) (fun _ _ _ => ofConst_sound (.nilFunc)) (by kernel_rfl) (by kernel_rfl) (fun h => absurd h (by decide))
theorem row_50 : TIok Try.prog 50 ty50 := TIok.of_row (by kernel_rfl) (z := .nilFunc) (by kernel_rfl) (fun _ _ _ => ofConst_sound (.nilFunc)) (by kernel_rfl) (by kernel_rfl) (fun h => absurd h (by decide))
theorem row_52 : TIok Try.prog 52 ty52 := TIok.of_row (by kernel_rfl) (z := .nilFunc) (by kernel_rfl) (fun _ _ _ => ofConst_sound (.nilFunc)) (by kernel_rfl) (by kernel_rfl) (fun h => absurd h (by decide))
theorem row_53 : TIok Try.prog 53 ty53 := TIok.of_row (by kernel_rfl) (z := .slice none 0 0) (by kernel_rfl) (fun _ _ _ => ofConst_sound (.slice none 0 0)) (by kernel_rfl) (by kernel_rfl) (fun h => absurd h (by decide))
theorem row_54 : TIok Try.prog 54 ty54 := TIok.of_row (by kernel_rfl) (z := .slice none 0 0) (by kernel_rfl) (fun _ _ _ => ofConst_sound (.slice none 0 0)) (by kernel_rfl) (by kernel_rfl) (fun h => absurd h (by decide))
theorem row_55 : TIok Try.prog 55 ty55 := TIok.of_row (by kernel_rfl) (z := .nilFunc) (by kernel_rfl) (fun _ _ _ => ofConst_sound (.nilFunc)) (by kernel_rfl) (by kernel_rfl) (fun h => absurd h (by decide))
theorem row_56 : TIok Try.prog 56 ty56 := TIok.of_row (by kernel_rfl) (z := .nilFunc) (by kernel_rfl) (fun _ _ _ => ofConst_sound (.nilFunc)) (by kernel_rfl) (by kernel_rfl) (fun h => absurd h (by decide))
theorem row_57 : TIok Try.prog 57 ty57 := TIok.of_row (by kernel_rfl) (z := .agg #[.pointer none, .pointer none, .pointer none, .string ByteArray.empty]) (by kernel_rfl) (fun _ _ _ => ofConst_sound (.agg #[.pointer none, .pointer none, .pointer none, .string ByteArray.empty])) (by kernel_rfl) (by kernel_rfl) (fun _ => .inl rfl)
theorem row_58 : TIok Try.prog 58 ty58 := TIok.of_row (by kernel_rfl) (z := .agg #[.pointer none, .pointer none, .pointer none, .string ByteArray.empty]) (by kernel_rfl) (fun _ _ _ => ofConst_sound (.agg #[.pointer none, .pointer none, .pointer none, .string ByteArray.empty])) (by kernel_rfl) (by kernel_rfl) (fun _ => .inl rfl)
theorem row_62 : TIok Try.prog 62 ty62 := TIok.of_row (by kernel_rfl) (z := .nilFunc) (by kernel_rfl) (fun _ _ _ => ofConst_sound (.nilFunc)) (by kernel_rfl) (by kernel_rfl) (fun h => absurd h (by decide))
theorem row_63 : TIok Try.prog 63 ty63 := TIok.of_row (by kernel_rfl) (z := .int .u32 0) (by kernel_rfl) (fun _ _ _ => ofConst_sound (.int .u32 0)) (by kernel_rfl) (by kernel_rfl) (fun h => absurd h (by decide))
theorem row_64 : TIok Try.prog 64 ty64 := TIok.of_row (by kernel_rfl) (z := .int .u8 0) (by kernel_rfl) (fun _ _ _ => ofConst_sound (.int .u8 0)) (by kernel_rfl) (by kernel_rfl) (fun h => absurd h (by decide))
theorem row_65 : TIok Try.prog 65 ty65 := TIok.of_row (by kernel_rfl) (z := .int .u8 0) (by kernel_rfl) (fun _ _ _ => ofConst_sound (.int .u8 0)) (by kernel_rfl) (by kernel_rfl) (fun h => absurd h (by decide))
theorem row_66 : TIok Try.prog 66 ty66 := TIok.of_row (by kernel_rfl) (z := .nilFunc) (by kernel_rfl) (fun _ _ _ => ofConst_sound (.nilFunc)) (by kernel_rfl) (by kernel_rfl) (fun h => absurd h (by decide))
theorem row_67 : TIok Try.prog 67 ty67 := TIok.of_row (by kernel_rfl) (z := .pointer none) (by kernel_rfl) (fun _ _ _ => ofConst_sound (.pointer none)) (by kernel_rfl) (by kernel_rfl) (fun h => absurd h (by decide))
theorem row_68 : TIok Try.prog 68 ty68 := TIok.of_row (by kernel_rfl) (z := .int .i32 0) (by kernel_rfl) (fun _ _ _ => ofConst_sound (.int .i32 0)) (by kernel_rfl) (by kernel_rfl) (fun h => absurd h (by decide))
theorem row_69 : TIok Try.prog 69 ty69 := TIok.of_row (by kernel_rfl) (z := .int .i32 0) (by kernel_rfl) (fun _ _ _ => ofConst_sound (.int .i32 0)) (by kernel_rfl) (by kernel_rfl) (fun h => absurd h (by decide))
theorem row_70 : TIok Try.prog 70 ty70 := TIok.of_row (by kernel_rfl) (z := .agg #[.int .u64 0, .int .u64 0, .int .u32 0, .int .u8 0, .int .u8 0, .int .u8 0, .int .u8 0, .nilFunc, .pointer none, .int .i32 0, .int .i32 0]) (by kernel_rfl) (fun _ _ _ => ofConst_sound (.agg #[.int .u64 0, .int .u64 0, .int .u32 0, .int .u8 0, .int .u8 0, .int .u8 0, .int .u8 0, .nilFunc, .pointer none, .int .i32 0, .int .i32 0])) (by kernel_rfl) (by kernel_rfl) (fun _ => .inl rfl)
theorem row_71 : TIok Try.prog 71 ty71 := TIok.of_row (by kernel_rfl) (z := .agg #[.int .u64 0, .int .u64 0, .int .u32 0, .int .u8 0, .int .u8 0, .int .u8 0, .int .u8 0, .nilFunc, .pointer none, .int .i32 0, .int .i32 0]) (by kernel_rfl) (fun _ _ _ => ofConst_sound (.agg #[.int .u64 0, .int .u64 0, .int .u32 0, .int .u8 0, .int .u8 0, .int .u8 0, .int .u8 0, .nilFunc, .pointer none, .int .i32 0, .int .i32 0])) (by kernel_rfl) (by kernel_rfl) (fun _ => .inl rfl)
theorem allOK : AllOK Try.prog 0 ttL := ⟨fun h => absurd rfl h, fun _ => row_1, fun _ => row_2, fun _ => row_3, fun _ => row_4, fun _ => row_5, fun _ => row_6, fun _ => row_7, fun _ => row_8, fun _ => row_9, fun _ => row_10, fun _ => row_11, fun _ => row_12, fun _ => row_13, fun _ => row_14, fun _ => row_15, fun _ => row_16, fun _ => row_17, fun _ => row_18, fun _ => row_19, fun _ => row_20, fun _ => row_21, fun _ => row_22, fun _ => row_23, fun _ => row_24, fun _ => row_25, fun _ => row_26, fun _ => row_27, fun _ => row_28, fun _ => row_29, fun _ => row_30, fun _ => row_31, fun _ => row_32, fun h => absurd rfl h, fun _ => row_34, fun h => absurd rfl h, fun _ => row_36, fun _ => row_37, fun _ => row_38, fun _ => row_39, fun _ => row_40, fun _ => row_41, fun _ => row_42, fun _ => row_43, fun h => absurd rfl h, fun _ => row_45, fun _ => row_46, fun _ => row_47, fun _ => row_48, fun _ => row_49, fun _ => row_50, fun h => absurd rfl h, fun _ => row_52, fun _ => row_53, fun _ => row_54, fun _ => row_55, fun _ => row_56, fun _ => row_57, fun _ => row_58, fun h => absurd rfl h, fun h => absurd rfl h, fun h => absurd rfl h, fun _ => row_62, fun _ => row_63, fun _ => row_64, fun _ => row_65, fun _ => row_66, fun _ => row_67, fun _ => row_68, fun _ => row_69, fun _ => row_70, fun _ => row_71, fun h => absurd rfl h, trivial⟩
theorem tok : TOK Try.prog tt := fun t h => by have := tok_of allOK t h; rwa [Nat.zero_add] at this
end Go.Proofs.Ytpjbeoilmmhinaa

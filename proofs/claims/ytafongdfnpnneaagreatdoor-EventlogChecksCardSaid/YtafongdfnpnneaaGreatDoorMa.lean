/-
  Joined by a program from the texts Types Base Scan Ext Num Pint TopBase TopAt TopHas TopEnds TopUse TopEqual TopClone TopCheck TopCheck2 TopPeer TopSetLink TopSet.
-/
import Derived.Test.YtafongdfnpnneaaGreatDoorProg
import Derived.KernelRfl
import Derived.Test.YtafongdfnpnneaaGreatDoorVm5
import Derived.Test.YtafongdfnpnneaaGreatDoorVm4
import Derived.Test.YtafongdfnpnneaaGreatDoorVm6
import Derived.Test.YtafongdfnpnneaaGreatDoorVm7
import Derived.Laws.Externs
/- The table of types of this program, for the library Vm, and that it is true. Printed by a program (types.py). -/
set_option linter.all false
set_option maxRecDepth 100000
namespace Go.Proofs.YtafongdfnpnneaaGreatDoor
open Go.Vm

instance gtab : GlobTab := ⟨fun g => match g with | 1 => some [(.u64, 1), (.u64, 10), (.u64, 100), (.u64, 1000), (.u64, 10000), (.u64, 100000), (.u64, 1000000), (.u64, 10000000), (.u64, 100000000), (.u64, 1000000000), (.u64, 10000000000), (.u64, 100000000000), (.u64, 1000000000000), (.u64, 10000000000000), (.u64, 100000000000000), (.u64, 1000000000000000), (.u64, 10000000000000000), (.u64, 100000000000000000), (.u64, 1000000000000000000), (.u64, 10000000000000000000)] | _ => none⟩
def ty2 : TI := ⟨1, 8, false, .int .i64 0, .int .i64, []⟩
def ty3 : TI := ⟨1, 8, false, .int .i64 0, .int .i64, []⟩
def ty4 : TI := ⟨1, 1, false, .bool false, .bool, []⟩
def ty5 : TI := ⟨1, 1, false, .int .u8 0, .int .u8, []⟩
def ty9 : TI := ⟨1, 16, false, .str [], .str, []⟩
def ty20 : TI := ⟨1, 16, false, .nili, .iface, []⟩
def ty22 : TI := ⟨1, 24, false, .sl true [] 0, .slice 3, []⟩
def ty23 : TI := ⟨1, 24, false, .sl true [] 0, .slice 85, []⟩
def ty24 : TI := ⟨1, 24, false, .sl true [] 0, .slice 61, []⟩
def ty26 : TI := ⟨3, 72, true, .agg [.sl true [] 0, .sl true [] 0, .sl true [] 0], .struct [(0, 22), (1, 23), (2, 24)], []⟩
def ty27 : TI := ⟨1, 24, false, .sl true [] 0, .slice 38, []⟩
def ty30 : TI := ⟨1, 8, false, .int .i64 0, .int .i64, []⟩
def ty34 : TI := ⟨1, 24, false, .sl true [] 0, .slice 46, []⟩
def ty38 : TI := ⟨4, 32, true, .agg [.int .i64 0, .int .i64 0, .int .i64 0, .int .i64 0], .struct [(0, 3), (1, 3), (2, 3), (3, 3)], [.int .i64, .int .i64, .int .i64, .int .i64]⟩
def ty46 : TI := ⟨3, 24, true, .agg [.int .i64 0, .int .i64 0, .int .i64 0], .struct [(0, 3), (1, 3), (2, 3)], [.int .i64, .int .i64, .int .i64]⟩
def ty48 : TI := ⟨1, 8, false, .nilp, .ptr 59, []⟩
def ty52 : TI := ⟨1, 24, false, .sl true [] 0, .slice 65, []⟩
def ty54 : TI := ⟨4, 96, true, .agg [.sl true [] 0, .sl true [] 0, .sl true [] 0, .sl true [] 0], .struct [(0, 26), (3, 52)], []⟩
def ty57 : TI := ⟨1, 24, false, .sl true [] 0, .slice 63, []⟩
def ty59 : TI := ⟨5, 104, true, .agg [.sl true [] 0, .sl true [] 0, .sl true [] 0, .sl true [] 0, .int .i64 0], .struct [(0, 26), (3, 57), (4, 3)], []⟩
def ty61 : TI := ⟨2, 16, true, .agg [.int .i64 0, .int .i64 0], .struct [(0, 3), (1, 3)], [.int .i64, .int .i64]⟩
def ty63 : TI := ⟨5, 56, true, .agg [.int .i64 0, .int .i64 0, .int .i64 0, .int .i64 0, .sl true [] 0], .struct [(0, 3), (1, 61), (3, 3), (4, 34)], []⟩
def ty65 : TI := ⟨5, 56, true, .agg [.int .i64 0, .int .i64 0, .int .i64 0, .int .i64 0, .sl true [] 0], .struct [(0, 3), (1, 61), (3, 3), (4, 34)], []⟩
def ty66 : TI := ⟨1, 8, false, .nilp, .ptr 69, []⟩
def ty67 : TI := ⟨1, 24, false, .sl true [] 0, .slice 5, []⟩
def ty69 : TI := ⟨2, 32, true, .agg [.nilp, .sl true [] 0], .struct [(0, 66), (1, 67)], []⟩
def ty85 : TI := ⟨5, 40, true, .agg [.int .i64 0, .int .i64 0, .int .i64 0, .int .i64 0, .bool false], .struct [(0, 61), (2, 61), (4, 4)], [.int .i64, .int .i64, .int .i64, .int .i64, .bool]⟩
def ty93 : TI := ⟨1, 24, false, .sl true [] 0, .slice 20, []⟩
def ty95 : TI := ⟨1, 8, false, .nilp, .ptr 38, []⟩
def ty96 : TI := ⟨1, 8, false, .nilp, .ptr 3, []⟩
def ty98 : TI := ⟨1, 24, false, .sl true [] 0, .slice 9, []⟩
def ty101 : TI := ⟨1, 8, false, .nilp, .ptr 5, []⟩
def ty103 : TI := ⟨8, 64, true, .agg [.int .i64 0, .int .i64 0, .int .i64 0, .int .i64 0, .int .i64 0, .int .i64 0, .int .i64 0, .int .i64 0], .arr 2 38, []⟩
def ty122 : TI := ⟨1, 8, false, .nilp, .ptr 128, []⟩
def ty126 : TI := ⟨2, 24, true, .agg [.str [], .int .i64 0], .struct [(0, 9), (1, 3)], []⟩
def ty128 : TI := ⟨3, 32, true, .agg [.str [], .int .i64 0, .int .i64 0], .struct [(0, 126), (2, 3)], []⟩
def ty129 : TI := ⟨1, 8, false, .int .u64 0, .int .u64, []⟩
def ty134 : TI := ⟨1, 4, false, .int .u32 0, .int .u32, []⟩
def ty138 : TI := ⟨1, 8, false, .nilp, .ptr 126, []⟩
def ty141 : TI := ⟨24, 24, true, .agg [.int .u8 0, .int .u8 0, .int .u8 0, .int .u8 0, .int .u8 0, .int .u8 0, .int .u8 0, .int .u8 0, .int .u8 0, .int .u8 0, .int .u8 0, .int .u8 0, .int .u8 0, .int .u8 0, .int .u8 0, .int .u8 0, .int .u8 0, .int .u8 0, .int .u8 0, .int .u8 0, .int .u8 0, .int .u8 0, .int .u8 0, .int .u8 0], .arr 24 5, []⟩
def ty150 : TI := ⟨20, 160, true, .agg [.int .u64 0, .int .u64 0, .int .u64 0, .int .u64 0, .int .u64 0, .int .u64 0, .int .u64 0, .int .u64 0, .int .u64 0, .int .u64 0, .int .u64 0, .int .u64 0, .int .u64 0, .int .u64 0, .int .u64 0, .int .u64 0, .int .u64 0, .int .u64 0, .int .u64 0, .int .u64 0], .arr 20 129, []⟩
def ttL : List TI := [TI.none, TI.none, ty2, ty3, ty4, ty5, TI.none, TI.none, TI.none, ty9, TI.none, TI.none, TI.none, TI.none, TI.none, TI.none, TI.none, TI.none, TI.none, TI.none, ty20, TI.none, ty22, ty23, ty24, TI.none, ty26, ty27, TI.none, TI.none, ty30, TI.none, TI.none, TI.none, ty34, TI.none, TI.none, TI.none, ty38, TI.none, TI.none, TI.none, TI.none, TI.none, TI.none, TI.none, ty46, TI.none, ty48, TI.none, TI.none, TI.none, ty52, TI.none, ty54, TI.none, TI.none, ty57, TI.none, ty59, TI.none, ty61, TI.none, ty63, TI.none, ty65, ty66, ty67, TI.none, ty69, TI.none, TI.none, TI.none, TI.none, TI.none, TI.none, TI.none, TI.none, TI.none, TI.none, TI.none, TI.none, TI.none, TI.none, TI.none, ty85, TI.none, TI.none, TI.none, TI.none, TI.none, TI.none, TI.none, ty93, TI.none, ty95, ty96, TI.none, ty98, TI.none, TI.none, ty101, TI.none, ty103, TI.none, TI.none, TI.none, TI.none, TI.none, TI.none, TI.none, TI.none, TI.none, TI.none, TI.none, TI.none, TI.none, TI.none, TI.none, TI.none, TI.none, TI.none, ty122, TI.none, TI.none, TI.none, ty126, TI.none, ty128, ty129, TI.none, TI.none, TI.none, TI.none, ty134, TI.none, TI.none, TI.none, ty138, TI.none, TI.none, ty141, TI.none, TI.none, TI.none, TI.none, TI.none, TI.none, TI.none, TI.none, ty150, TI.none, TI.none, TI.none, TI.none, TI.none, TI.none, TI.none, TI.none, TI.none, TI.none, TI.none, TI.none, TI.none, TI.none, TI.none, TI.none, TI.none, TI.none, TI.none, TI.none, TI.none, TI.none]
def tt (t : Nat) : TI := ttOf ttL t
theorem tt_2 : tt 2 = ⟨1, 8, false, .int .i64 0, .int .i64, []⟩ := rfl
theorem tt_3 : tt 3 = ⟨1, 8, false, .int .i64 0, .int .i64, []⟩ := rfl
theorem tt_4 : tt 4 = ⟨1, 1, false, .bool false, .bool, []⟩ := rfl
theorem tt_5 : tt 5 = ⟨1, 1, false, .int .u8 0, .int .u8, []⟩ := rfl
theorem tt_9 : tt 9 = ⟨1, 16, false, .str [], .str, []⟩ := rfl
theorem tt_20 : tt 20 = ⟨1, 16, false, .nili, .iface, []⟩ := rfl
theorem tt_22 : tt 22 = ⟨1, 24, false, .sl true [] 0, .slice 3, []⟩ := rfl
theorem tt_23 : tt 23 = ⟨1, 24, false, .sl true [] 0, .slice 85, []⟩ := rfl
theorem tt_24 : tt 24 = ⟨1, 24, false, .sl true [] 0, .slice 61, []⟩ := rfl
theorem tt_26 : tt 26 = ⟨3, 72, true, .agg [.sl true [] 0, .sl true [] 0, .sl true [] 0], .struct [(0, 22), (1, 23), (2, 24)], []⟩ := rfl
theorem tt_27 : tt 27 = ⟨1, 24, false, .sl true [] 0, .slice 38, []⟩ := rfl
theorem tt_30 : tt 30 = ⟨1, 8, false, .int .i64 0, .int .i64, []⟩ := rfl
theorem tt_34 : tt 34 = ⟨1, 24, false, .sl true [] 0, .slice 46, []⟩ := rfl
theorem tt_38 : tt 38 = ⟨4, 32, true, .agg [.int .i64 0, .int .i64 0, .int .i64 0, .int .i64 0], .struct [(0, 3), (1, 3), (2, 3), (3, 3)], [.int .i64, .int .i64, .int .i64, .int .i64]⟩ := rfl
theorem tt_46 : tt 46 = ⟨3, 24, true, .agg [.int .i64 0, .int .i64 0, .int .i64 0], .struct [(0, 3), (1, 3), (2, 3)], [.int .i64, .int .i64, .int .i64]⟩ := rfl
theorem tt_48 : tt 48 = ⟨1, 8, false, .nilp, .ptr 59, []⟩ := rfl
theorem tt_52 : tt 52 = ⟨1, 24, false, .sl true [] 0, .slice 65, []⟩ := rfl
theorem tt_54 : tt 54 = ⟨4, 96, true, .agg [.sl true [] 0, .sl true [] 0, .sl true [] 0, .sl true [] 0], .struct [(0, 26), (3, 52)], []⟩ := rfl
theorem tt_57 : tt 57 = ⟨1, 24, false, .sl true [] 0, .slice 63, []⟩ := rfl
theorem tt_59 : tt 59 = ⟨5, 104, true, .agg [.sl true [] 0, .sl true [] 0, .sl true [] 0, .sl true [] 0, .int .i64 0], .struct [(0, 26), (3, 57), (4, 3)], []⟩ := rfl
theorem tt_61 : tt 61 = ⟨2, 16, true, .agg [.int .i64 0, .int .i64 0], .struct [(0, 3), (1, 3)], [.int .i64, .int .i64]⟩ := rfl
theorem tt_63 : tt 63 = ⟨5, 56, true, .agg [.int .i64 0, .int .i64 0, .int .i64 0, .int .i64 0, .sl true [] 0], .struct [(0, 3), (1, 61), (3, 3), (4, 34)], []⟩ := rfl
theorem tt_65 : tt 65 = ⟨5, 56, true, .agg [.int .i64 0, .int .i64 0, .int .i64 0, .int .i64 0, .sl true [] 0], .struct [(0, 3), (1, 61), (3, 3), (4, 34)], []⟩ := rfl
theorem tt_66 : tt 66 = ⟨1, 8, false, .nilp, .ptr 69, []⟩ := rfl
theorem tt_67 : tt 67 = ⟨1, 24, false, .sl true [] 0, .slice 5, []⟩ := rfl
theorem tt_69 : tt 69 = ⟨2, 32, true, .agg [.nilp, .sl true [] 0], .struct [(0, 66), (1, 67)], []⟩ := rfl
theorem tt_85 : tt 85 = ⟨5, 40, true, .agg [.int .i64 0, .int .i64 0, .int .i64 0, .int .i64 0, .bool false], .struct [(0, 61), (2, 61), (4, 4)], [.int .i64, .int .i64, .int .i64, .int .i64, .bool]⟩ := rfl
theorem tt_93 : tt 93 = ⟨1, 24, false, .sl true [] 0, .slice 20, []⟩ := rfl
theorem tt_95 : tt 95 = ⟨1, 8, false, .nilp, .ptr 38, []⟩ := rfl
theorem tt_96 : tt 96 = ⟨1, 8, false, .nilp, .ptr 3, []⟩ := rfl
theorem tt_98 : tt 98 = ⟨1, 24, false, .sl true [] 0, .slice 9, []⟩ := rfl
theorem tt_101 : tt 101 = ⟨1, 8, false, .nilp, .ptr 5, []⟩ := rfl
theorem tt_103 : tt 103 = ⟨8, 64, true, .agg [.int .i64 0, .int .i64 0, .int .i64 0, .int .i64 0, .int .i64 0, .int .i64 0, .int .i64 0, .int .i64 0], .arr 2 38, []⟩ := rfl
theorem tt_122 : tt 122 = ⟨1, 8, false, .nilp, .ptr 128, []⟩ := rfl
theorem tt_126 : tt 126 = ⟨2, 24, true, .agg [.str [], .int .i64 0], .struct [(0, 9), (1, 3)], []⟩ := rfl
theorem tt_128 : tt 128 = ⟨3, 32, true, .agg [.str [], .int .i64 0, .int .i64 0], .struct [(0, 126), (2, 3)], []⟩ := rfl
theorem tt_129 : tt 129 = ⟨1, 8, false, .int .u64 0, .int .u64, []⟩ := rfl
theorem tt_134 : tt 134 = ⟨1, 4, false, .int .u32 0, .int .u32, []⟩ := rfl
theorem tt_138 : tt 138 = ⟨1, 8, false, .nilp, .ptr 126, []⟩ := rfl
theorem tt_141 : tt 141 = ⟨24, 24, true, .agg [.int .u8 0, .int .u8 0, .int .u8 0, .int .u8 0, .int .u8 0, .int .u8 0, .int .u8 0, .int .u8 0, .int .u8 0, .int .u8 0, .int .u8 0, .int .u8 0, .int .u8 0, .int .u8 0, .int .u8 0, .int .u8 0, .int .u8 0, .int .u8 0, .int .u8 0, .int .u8 0, .int .u8 0, .int .u8 0, .int .u8 0, .int .u8 0], .arr 24 5, []⟩ := rfl
theorem tt_150 : tt 150 = ⟨20, 160, true, .agg [.int .u64 0, .int .u64 0, .int .u64 0, .int .u64 0, .int .u64 0, .int .u64 0, .int .u64 0, .int .u64 0, .int .u64 0, .int .u64 0, .int .u64 0, .int .u64 0, .int .u64 0, .int .u64 0, .int .u64 0, .int .u64 0, .int .u64 0, .int .u64 0, .int .u64 0, .int .u64 0], .arr 20 129, []⟩ := rfl
attribute [push_cast] tt_2 tt_3 tt_4 tt_5 tt_9 tt_20 tt_22 tt_23 tt_24 tt_26 tt_27 tt_30 tt_34 tt_38 tt_46 tt_48 tt_52 tt_54 tt_57 tt_59 tt_61 tt_63 tt_65 tt_66 tt_67 tt_69 tt_85 tt_93 tt_95 tt_96 tt_98 tt_101 tt_103 tt_122 tt_126 tt_128 tt_129 tt_134 tt_138 tt_141 tt_150
theorem row_2 : TIok Tryz.prog 2 ty2 := TIok.of_row (by kernel_rfl) (z := .int .i64 0) (by kernel_rfl) (fun _ _ _ => ofConst_sound (.int .i64 0)) (by kernel_rfl) (by kernel_rfl) (fun h => absurd h (by decide))
theorem row_3 : TIok Tryz.prog 3 ty3 := TIok.of_row (by kernel_rfl) (z := .int .i64 0) (by kernel_rfl) (fun _ _ _ => ofConst_sound (.int .i64 0)) (by kernel_rfl) (by kernel_rfl) (fun h => absurd h (by decide))
theorem row_4 : TIok Tryz.prog 4 ty4 := TIok.of_row (by kernel_rfl) (z := .bool false) (by kernel_rfl) (fun _ _ _ => ofConst_sound (.bool false)) (by kernel_rfl) (by kernel_rfl) (fun h => absurd h (by decide))
theorem row_5 : TIok Tryz.prog 5 ty5 := TIok.of_row (by kernel_rfl) (z := .int .u8 0) (by kernel_rfl) (fun _ _ _ => ofConst_sound (.int .u8 0)) (by kernel_rfl) (by kernel_rfl) (fun h => absurd h (by decide))
theorem row_9 : TIok Tryz.prog 9 ty9 := TIok.of_row (by kernel_rfl) (z := .string ByteArray.empty) (by kernel_rfl) (fun _ _ _ => ofConst_sound (.string ByteArray.empty)) (by kernel_rfl) (by kernel_rfl) (fun h => absurd h (by decide))
theorem row_20 : TIok Tryz.prog 20 ty20 := TIok.of_row (by kernel_rfl) (z := .nilIface) (by kernel_rfl) (fun _ _ _ => ofConst_sound (.nilIface)) (by kernel_rfl) (by kernel_rfl) (fun h => absurd h (by decide))
theorem row_22 : TIok Tryz.prog 22 ty22 := TIok.of_row (by kernel_rfl) (z := .slice none 0 0) (by kernel_rfl) (fun _ _ _ => ofConst_sound (.slice none 0 0)) (by kernel_rfl) (by kernel_rfl) (fun h => absurd h (by decide))
theorem row_23 : TIok Tryz.prog 23 ty23 := TIok.of_row (by kernel_rfl) (z := .slice none 0 0) (by kernel_rfl) (fun _ _ _ => ofConst_sound (.slice none 0 0)) (by kernel_rfl) (by kernel_rfl) (fun h => absurd h (by decide))
theorem row_24 : TIok Tryz.prog 24 ty24 := TIok.of_row (by kernel_rfl) (z := .slice none 0 0) (by kernel_rfl) (fun _ _ _ => ofConst_sound (.slice none 0 0)) (by kernel_rfl) (by kernel_rfl) (fun h => absurd h (by decide))
theorem row_26 : TIok Tryz.prog 26 ty26 := TIok.of_row (by kernel_rfl) (z := .agg #[.slice none 0 0, .slice none 0 0, .slice none 0 0]) (by kernel_rfl) (fun _ _ _ => ofConst_sound (.agg #[.slice none 0 0, .slice none 0 0, .slice none 0 0])) (by kernel_rfl) (by kernel_rfl) (fun _ => .inl rfl)
theorem row_27 : TIok Tryz.prog 27 ty27 := TIok.of_row (by kernel_rfl) (z := .slice none 0 0) (by kernel_rfl) (fun _ _ _ => ofConst_sound (.slice none 0 0)) (by kernel_rfl) (by kernel_rfl) (fun h => absurd h (by decide))
theorem row_30 : TIok Tryz.prog 30 ty30 := TIok.of_row (by kernel_rfl) (z := .int .i64 0) (by kernel_rfl) (fun _ _ _ => ofConst_sound (.int .i64 0)) (by kernel_rfl) (by kernel_rfl) (fun h => absurd h (by decide))
theorem row_34 : TIok Tryz.prog 34 ty34 := TIok.of_row (by kernel_rfl) (z := .slice none 0 0) (by kernel_rfl) (fun _ _ _ => ofConst_sound (.slice none 0 0)) (by kernel_rfl) (by kernel_rfl) (fun h => absurd h (by decide))
theorem row_38 : TIok Tryz.prog 38 ty38 := TIok.of_row (by kernel_rfl) (z := .agg #[.int .i64 0, .int .i64 0, .int .i64 0, .int .i64 0]) (by kernel_rfl) (fun _ _ _ => ofConst_sound (.agg #[.int .i64 0, .int .i64 0, .int .i64 0, .int .i64 0])) (by kernel_rfl) (by kernel_rfl) (fun _ => .inr (by kernel_rfl))
theorem row_46 : TIok Tryz.prog 46 ty46 := TIok.of_row (by kernel_rfl) (z := .agg #[.int .i64 0, .int .i64 0, .int .i64 0]) (by kernel_rfl) (fun _ _ _ => ofConst_sound (.agg #[.int .i64 0, .int .i64 0, .int .i64 0])) (by kernel_rfl) (by kernel_rfl) (fun _ => .inr (by kernel_rfl))
theorem row_48 : TIok Tryz.prog 48 ty48 := TIok.of_row (by kernel_rfl) (z := .pointer none) (by kernel_rfl) (fun _ _ _ => ofConst_sound (.pointer none)) (by kernel_rfl) (by kernel_rfl) (fun h => absurd h (by decide))
theorem row_52 : TIok Tryz.prog 52 ty52 := TIok.of_row (by kernel_rfl) (z := .slice none 0 0) (by kernel_rfl) (fun _ _ _ => ofConst_sound (.slice none 0 0)) (by kernel_rfl) (by kernel_rfl) (fun h => absurd h (by decide))
theorem row_54 : TIok Tryz.prog 54 ty54 := TIok.of_row (by kernel_rfl) (z := .agg #[.slice none 0 0, .slice none 0 0, .slice none 0 0, .slice none 0 0]) (by kernel_rfl) (fun _ _ _ => ofConst_sound (.agg #[.slice none 0 0, .slice none 0 0, .slice none 0 0, .slice none 0 0])) (by kernel_rfl) (by kernel_rfl) (fun _ => .inl rfl)
theorem row_57 : TIok Tryz.prog 57 ty57 := TIok.of_row (by kernel_rfl) (z := .slice none 0 0) (by kernel_rfl) (fun _ _ _ => ofConst_sound (.slice none 0 0)) (by kernel_rfl) (by kernel_rfl) (fun h => absurd h (by decide))
theorem row_59 : TIok Tryz.prog 59 ty59 := TIok.of_row (by kernel_rfl) (z := .agg #[.slice none 0 0, .slice none 0 0, .slice none 0 0, .slice none 0 0, .int .i64 0]) (by kernel_rfl) (fun _ _ _ => ofConst_sound (.agg #[.slice none 0 0, .slice none 0 0, .slice none 0 0, .slice none 0 0, .int .i64 0])) (by kernel_rfl) (by kernel_rfl) (fun _ => .inl rfl)
theorem row_61 : TIok Tryz.prog 61 ty61 := TIok.of_row (by kernel_rfl) (z := .agg #[.int .i64 0, .int .i64 0]) (by kernel_rfl) (fun _ _ _ => ofConst_sound (.agg #[.int .i64 0, .int .i64 0])) (by kernel_rfl) (by kernel_rfl) (fun _ => .inr (by kernel_rfl))
theorem row_63 : TIok Tryz.prog 63 ty63 := TIok.of_row (by kernel_rfl) (z := .agg #[.int .i64 0, .int .i64 0, .int .i64 0, .int .i64 0, .slice none 0 0]) (by kernel_rfl) (fun _ _ _ => ofConst_sound (.agg #[.int .i64 0, .int .i64 0, .int .i64 0, .int .i64 0, .slice none 0 0])) (by kernel_rfl) (by kernel_rfl) (fun _ => .inl rfl)
theorem row_65 : TIok Tryz.prog 65 ty65 := TIok.of_row (by kernel_rfl) (z := .agg #[.int .i64 0, .int .i64 0, .int .i64 0, .int .i64 0, .slice none 0 0]) (by kernel_rfl) (fun _ _ _ => ofConst_sound (.agg #[.int .i64 0, .int .i64 0, .int .i64 0, .int .i64 0, .slice none 0 0])) (by kernel_rfl) (by kernel_rfl) (fun _ => .inl rfl)
theorem row_66 : TIok Tryz.prog 66 ty66 := TIok.of_row (by kernel_rfl) (z := .pointer none) (by kernel_rfl) (fun _ _ _ => ofConst_sound (.pointer none)) (by kernel_rfl) (by kernel_rfl) (fun h => absurd h (by decide))
theorem row_67 : TIok Tryz.prog 67 ty67 := TIok.of_row (by kernel_rfl) (z := .slice none 0 0) (by kernel_rfl) (fun _ _ _ => ofConst_sound (.slice none 0 0)) (by kernel_rfl) (by kernel_rfl) (fun h => absurd h (by decide))
theorem row_69 : TIok Tryz.prog 69 ty69 := TIok.of_row (by kernel_rfl) (z := .agg #[.pointer none, .slice none 0 0]) (by kernel_rfl) (fun _ _ _ => ofConst_sound (.agg #[.pointer none, .slice none 0 0])) (by kernel_rfl) (by kernel_rfl) (fun _ => .inl rfl)
theorem row_85 : TIok Tryz.prog 85 ty85 := TIok.of_row (by kernel_rfl) (z := .agg #[.int .i64 0, .int .i64 0, .int .i64 0, .int .i64 0, .bool false]) (by kernel_rfl) (fun _ _ _ => ofConst_sound (.agg #[.int .i64 0, .int .i64 0, .int .i64 0, .int .i64 0, .bool false])) (by kernel_rfl) (by kernel_rfl) (fun _ => .inr (by kernel_rfl))
theorem row_93 : TIok Tryz.prog 93 ty93 := TIok.of_row (by kernel_rfl) (z := .slice none 0 0) (by kernel_rfl) (fun _ _ _ => ofConst_sound (.slice none 0 0)) (by kernel_rfl) (by kernel_rfl) (fun h => absurd h (by decide))
theorem row_95 : TIok Tryz.prog 95 ty95 := TIok.of_row (by kernel_rfl) (z := .pointer none) (by kernel_rfl) (fun _ _ _ => ofConst_sound (.pointer none)) (by kernel_rfl) (by kernel_rfl) (fun h => absurd h (by decide))
theorem row_96 : TIok Tryz.prog 96 ty96 := TIok.of_row (by kernel_rfl) (z := .pointer none) (by kernel_rfl) (fun _ _ _ => ofConst_sound (.pointer none)) (by kernel_rfl) (by kernel_rfl) (fun h => absurd h (by decide))
theorem row_98 : TIok Tryz.prog 98 ty98 := TIok.of_row (by kernel_rfl) (z := .slice none 0 0) (by kernel_rfl) (fun _ _ _ => ofConst_sound (.slice none 0 0)) (by kernel_rfl) (by kernel_rfl) (fun h => absurd h (by decide))
theorem row_101 : TIok Tryz.prog 101 ty101 := TIok.of_row (by kernel_rfl) (z := .pointer none) (by kernel_rfl) (fun _ _ _ => ofConst_sound (.pointer none)) (by kernel_rfl) (by kernel_rfl) (fun h => absurd h (by decide))
theorem row_103 : TIok Tryz.prog 103 ty103 := TIok.of_row (by kernel_rfl) (z := .agg #[.int .i64 0, .int .i64 0, .int .i64 0, .int .i64 0, .int .i64 0, .int .i64 0, .int .i64 0, .int .i64 0]) (by kernel_rfl) (fun _ _ _ => ofConst_sound (.agg #[.int .i64 0, .int .i64 0, .int .i64 0, .int .i64 0, .int .i64 0, .int .i64 0, .int .i64 0, .int .i64 0])) (by kernel_rfl) (by kernel_rfl) (fun _ => .inl rfl)
theorem row_122 : TIok Tryz.prog 122 ty122 := TIok.of_row (by kernel_rfl) (z := .pointer none) (by kernel_rfl) (fun _ _ _ => ofConst_sound (.pointer none)) (by kernel_rfl) (by kernel_rfl) (fun h => absurd h (by decide))
theorem row_126 : TIok Tryz.prog 126 ty126 := TIok.of_row (by kernel_rfl) (z := .agg #[.string ByteArray.empty, .int .i64 0]) (by kernel_rfl) (fun _ _ _ => ofConst_sound (.agg #[.string ByteArray.empty, .int .i64 0])) (by kernel_rfl) (by kernel_rfl) (fun _ => .inl rfl)
theorem row_128 : TIok Tryz.prog 128 ty128 := TIok.of_row (by kernel_rfl) (z := .agg #[.string ByteArray.empty, .int .i64 0, .int .i64 0]) (by kernel_rfl) (fun _ _ _ => ofConst_sound (.agg #[.string ByteArray.empty, .int .i64 0, .int .i64 0])) (by kernel_rfl) (by kernel_rfl) (fun _ => .inl rfl)
theorem row_129 : TIok Tryz.prog 129 ty129 := TIok.of_row (by kernel_rfl) (z := .int .u64 0) (by kernel_rfl) (fun _ _ _ => ofConst_sound (.int .u64 0)) (by kernel_rfl) (by kernel_rfl) (fun h => absurd h (by decide))
theorem row_134 : TIok Tryz.prog 134 ty134 := TIok.of_row (by kernel_rfl) (z := .int .u32 0) (by kernel_rfl) (fun _ _ _ => ofConst_sound (.int .u32 0)) (by kernel_rfl) (by kernel_rfl) (fun h => absurd h (by decide))
theorem row_138 : TIok Tryz.prog 138 ty138 := TIok.of_row (by kernel_rfl) (z := .pointer none) (by kernel_rfl) (fun _ _ _ => ofConst_sound (.pointer none)) (by kernel_rfl) (by kernel_rfl) (fun h => absurd h (by decide))
theorem row_141 : TIok Tryz.prog 141 ty141 := TIok.of_row (by kernel_rfl) (z := .agg #[.int .u8 0, .int .u8 0, .int .u8 0, .int .u8 0, .int .u8 0, .int .u8 0, .int .u8 0, .int .u8 0, .int .u8 0, .int .u8 0, .int .u8 0, .int .u8 0, .int .u8 0, .int .u8 0, .int .u8 0, .int .u8 0, .int .u8 0, .int .u8 0, .int .u8 0, .int .u8 0, .int .u8 0, .int .u8 0, .int .u8 0, .int .u8 0]) (by kernel_rfl) (fun _ _ _ => ofConst_sound (.agg #[.int .u8 0, .int .u8 0, .int .u8 0, .int .u8 0, .int .u8 0, .int .u8 0, .int .u8 0, .int .u8 0, .int .u8 0, .int .u8 0, .int .u8 0, .int .u8 0, .int .u8 0, .int .u8 0, .int .u8 0, .int .u8 0, .int .u8 0, .int .u8 0, .int .u8 0, .int .u8 0, .int .u8 0, .int .u8 0, .int .u8 0, .int .u8 0])) (by kernel_rfl) (by kernel_rfl) (fun _ => .inl rfl)
theorem row_150 : TIok Tryz.prog 150 ty150 := TIok.of_row (by kernel_rfl) (z := .agg #[.int .u64 0, .int .u64 0, .int .u64 0, .int .u64 0, .int .u64 0, .int .u64 0, .int .u64 0, .int .u64 0, .int .u64 0, .int .u64 0, .int .u64 0, .int .u64 0, .int .u64 0, .int .u64 0, .int .u64 0, .int .u64 0, .int .u64 0, .int .u64 0, .int .u64 0, .int .u64 0]) (by kernel_rfl) (fun _ _ _ => ofConst_sound (.agg #[.int .u64 0, .int .u64 0, .int .u64 0, .int .u64 0, .int .u64 0, .int .u64 0, .int .u64 0, .int .u64 0, .int .u64 0, .int .u64 0, .int .u64 0, .int .u64 0, .int .u64 0, .int .u64 0, .int .u64 0, .int .u64 0, .int .u64 0, .int .u64 0, .int .u64 0, .int .u64 0])) (by kernel_rfl) (by kernel_rfl) (fun _ => .inl rfl)
theorem allOK : AllOK Tryz.prog 0 ttL := ⟨fun h => absurd rfl h, fun h => absurd rfl h, fun _ => row_2, fun _ => row_3, fun _ => row_4, fun _ => row_5, fun h => absurd rfl h, fun h => absurd rfl h, fun h => absurd rfl h, fun _ => row_9, fun h => absurd rfl h, fun h => absurd rfl h, fun h => absurd rfl h, fun h => absurd rfl h, fun h => absurd rfl h, fun h => absurd rfl h, fun h => absurd rfl h, fun h => absurd rfl h, fun h => absurd rfl h, fun h => absurd rfl h, fun _ => row_20, fun h => absurd rfl h, fun _ => row_22, fun _ => row_23, fun _ => row_24, fun h => absurd rfl h, fun _ => row_26, fun _ => row_27, fun h => absurd rfl h, fun h => absurd rfl h, fun _ => row_30, fun h => absurd rfl h, fun h => absurd rfl h, fun h => absurd rfl h, fun _ => row_34, fun h => absurd rfl h, fun h => absurd rfl h, fun h => absurd rfl h, fun _ => row_38, fun h => absurd rfl h, fun h => absurd rfl h, fun h => absurd rfl h, fun h => absurd rfl h, fun h => absurd rfl h, fun h => absurd rfl h, fun h => absurd rfl h, fun _ => row_46, fun h => absurd rfl h, fun _ => row_48, fun h => absurd rfl h, fun h => absurd rfl h, fun h => absurd rfl h, fun _ => row_52, fun h => absurd rfl h, fun _ => row_54, fun h => absurd rfl h, fun h => absurd rfl h, fun _ => row_57, fun h => absurd rfl h, fun _ => row_59, fun h => absurd rfl h, fun _ => row_61, fun h => absurd rfl h, fun _ => row_63, fun h => absurd rfl h, fun _ => row_65, fun _ => row_66, fun _ => row_67, fun h => absurd rfl h, fun _ => row_69, fun h => absurd rfl h, fun h => absurd rfl h, fun h => absurd rfl h, fun h => absurd rfl h, fun h => absurd rfl h, fun h => absurd rfl h, fun h => absurd rfl h, fun h => absurd rfl h, fun h => absurd rfl h, fun h => absurd rfl h, fun h => absurd rfl h, fun h => absurd rfl h, fun h => absurd rfl h, fun h => absurd rfl h, fun h => absurd rfl h, fun _ => row_85, fun h => absurd rfl h, fun h => absurd rfl h, fun h => absurd rfl h, fun h => absurd rfl h, fun h => absurd rfl h, fun h => absurd rfl h, fun h => absurd rfl h, fun _ => row_93, fun h => absurd rfl h, fun _ => row_95, fun _ => row_96, fun h => absurd rfl h, fun _ => row_98, fun h => absurd rfl h, fun h => absurd rfl h, fun _ => row_101, fun h => absurd rfl h, fun _ => row_103, fun h => absurd rfl h, fun h => absurd rfl h, fun h => absurd rfl h, fun h => absurd rfl h, fun h => absurd rfl h, fun h => absurd rfl h, fun h => absurd rfl h, fun h => absurd rfl h, fun h => absurd rfl h, fun h => absurd rfl h, fun h => absurd rfl h, fun h => absurd rfl h, fun h => absurd rfl h, fun h => absurd rfl h, fun h => absurd rfl h, fun h => absurd rfl h, fun h => absurd rfl h, fun h => absurd rfl h, fun _ => row_122, fun h => absurd rfl h, fun h => absurd rfl h, fun h => absurd rfl h, fun _ => row_126, fun h => absurd rfl h, fun _ => row_128, fun _ => row_129, fun h => absurd rfl h, fun h => absurd rfl h, fun h => absurd rfl h, fun h => absurd rfl h, fun _ => row_134, fun h => absurd rfl h, fun h => absurd rfl h, fun h => absurd rfl h, fun _ => row_138, fun h => absurd rfl h, fun h => absurd rfl h, fun _ => row_141, fun h => absurd rfl h, fun h => absurd rfl h, fun h => absurd rfl h, fun h => absurd rfl h, fun h => absurd rfl h, fun h => absurd rfl h, fun h => absurd rfl h, fun h => absurd rfl h, fun _ => row_150, fun h => absurd rfl h, fun h => absurd rfl h, fun h => absurd rfl h, fun h => absurd rfl h, fun h => absurd rfl h, fun h => absurd rfl h, fun h => absurd rfl h, fun h => absurd rfl h, fun h => absurd rfl h, fun h => absurd rfl h, fun h => absurd rfl h, fun h => absurd rfl h, fun h => absurd rfl h, fun h => absurd rfl h, fun h => absurd rfl h, fun h => absurd rfl h, fun h => absurd rfl h, fun h => absurd rfl h, fun h => absurd rfl h, fun h => absurd rfl h, fun h => absurd rfl h, fun h => absurd rfl h, trivial⟩
theorem tok : TOK Tryz.prog tt := fun t h => by have := tok_of allOK t h; rwa [Nat.zero_add] at this
end Go.Proofs.YtafongdfnpnneaaGreatDoor

/- Chapters 7 and 8: cubes as pairs of words, their cells, what the functions answer. -/
set_option maxRecDepth 100000
set_option linter.all false
namespace Go.Proofs.YtafongdfnpnneaaGreatDoor
open Go.Vm

structure Cu where
  v : W64
  m : W64
  deriving DecidableEq
instance : Inhabited Cu := ⟨⟨0#64, 0#64⟩⟩
def encC (c : Cu) : List V := [.int .u64 c.v.toNat, .int .u64 c.m.toNat]
def slC (l : List Cu) : V := .sl false (l.flatMap encC) l.length
theorem lenC (x : Cu) : (encC x).length = 2 := rfl
theorem belC {n : Nat} (x : Cu) : belAll n (encC x) = true := rfl
theorem bel_Cs {n : Nat} (xs : List Cu) : belAll n (xs.flatMap encC) = true := belAll_flat belC xs
theorem bel_slC {n : Nat} (l : List Cu) : (slC l).bel n = true := by unfold slC; rw [bel_sl]; exact bel_Cs l
theorem mixed : Tryz.prog.follows .mixedOrders = true := by kernel_rfl
def cfg0 : Cfg := { lv := [], ef := [], ord := [], em := [] }
theorem ones_C {g : Bool} {p : Prop} : ∀ {xs : List Cu}, ones g (xs.flatMap encC) p = p
  | [] => rfl
  | x :: xs => by simp only [List.flatMap_cons, encC, List.cons_append, List.nil_append, ones, V.one]; exact ones_C
theorem take_C {xs : List Cu} : (xs.flatMap encC).take (xs.length * 2) = xs.flatMap encC := by
  rw [List.take_of_length_le (by rw [len_flat lenC]; exact Nat.le_refl _)]

/-- the w lowest bits -/
def low (w : Nat) : W64 := BitVec.allOnes 64 >>> (64 - w)
theorem low_bit {w i : Nat} (hw : w ≤ 64) (hi : i < 64) : (low w).getLsbD i = decide (i < w) := by
  simp only [low, BitVec.getLsbD_ushiftRight, BitVec.getLsbD_allOnes]
  congr 1
  apply propext
  omega
def okW (w : Int) : Bool := decide (1 ≤ w) && decide (w ≤ 64)
def chkC (c : Cu) (w : Int) : Int := if okW w then (if c.m &&& ~~~ low w.toNat = 0#64 then (if c.v &&& ~~~ c.m = 0#64 then 0 else 5) else 9) else 10
def mem (c : Cu) (n : W64) : Bool := decide ((c.v ^^^ n) &&& c.m = 0#64)
def meet (a b : Cu) : Cu × Bool := if (a.v ^^^ b.v) &&& a.m &&& b.m = 0#64 then (⟨a.v &&& a.m ||| b.v &&& b.m, a.m ||| b.m⟩, true) else (⟨0#64, 0#64⟩, false)
def sub (a b : Cu) : Bool := decide (b.m &&& ~~~ a.m = 0#64) && decide ((a.v ^^^ b.v) &&& b.m = 0#64)
def canon (c : Cu) : Cu := ⟨c.v &&& c.m, c.m⟩
def encCB (r : Cu × Bool) : V := .tup [.agg (encC r.1), .bool r.2]

theorem bit_ext {x y : W64} (h : ∀ i, i < 64 → x.getLsbD i = y.getLsbD i) : x = y := BitVec.eq_of_getLsbD_eq h
theorem and_not_zero {x y : W64} : x &&& ~~~ y = 0#64 ↔ x &&& y = x := by
  constructor
  · intro h
    refine bit_ext fun i hi => ?_
    have := congrArg (fun z => z.getLsbD i) h
    simp only [BitVec.getLsbD_and, BitVec.getLsbD_or, BitVec.getLsbD_not, BitVec.getLsbD_zero, BitVec.getLsbD_xor, decide_true, Bool.true_and, hi] at this ⊢
    generalize x.getLsbD i = a at this ⊢
    generalize y.getLsbD i = b at this ⊢
    revert this
    cases a <;> cases b <;> decide
  · intro h
    refine bit_ext fun i hi => ?_
    have := congrArg (fun z => z.getLsbD i) h
    simp only [BitVec.getLsbD_and, BitVec.getLsbD_or, BitVec.getLsbD_not, BitVec.getLsbD_zero, BitVec.getLsbD_xor, decide_true, Bool.true_and, hi] at this ⊢
    generalize x.getLsbD i = a at this ⊢
    generalize y.getLsbD i = b at this ⊢
    revert this
    cases a <;> cases b <;> decide
theorem xor_and_zero {x y m : W64} : (x ^^^ y) &&& m = 0#64 ↔ x &&& m = y &&& m := by
  constructor
  · intro h
    refine bit_ext fun i hi => ?_
    have := congrArg (fun z => z.getLsbD i) h
    simp only [BitVec.getLsbD_and, BitVec.getLsbD_or, BitVec.getLsbD_not, BitVec.getLsbD_zero, BitVec.getLsbD_xor, decide_true, Bool.true_and, hi] at this ⊢
    generalize x.getLsbD i = a at this ⊢
    generalize y.getLsbD i = b at this ⊢
    generalize m.getLsbD i = c at this ⊢
    revert this
    cases a <;> cases b <;> cases c <;> decide
  · intro h
    refine bit_ext fun i hi => ?_
    have := congrArg (fun z => z.getLsbD i) h
    simp only [BitVec.getLsbD_and, BitVec.getLsbD_or, BitVec.getLsbD_not, BitVec.getLsbD_zero, BitVec.getLsbD_xor, decide_true, Bool.true_and, hi] at this ⊢
    generalize x.getLsbD i = a at this ⊢
    generalize y.getLsbD i = b at this ⊢
    generalize m.getLsbD i = c at this ⊢
    revert this
    cases a <;> cases b <;> cases c <;> decide
end Go.Proofs.YtafongdfnpnneaaGreatDoor

/- Chapter 44: the scanners' small steps. -/
set_option maxRecDepth 100000
set_option maxHeartbeats 4000000
set_option linter.all false
namespace Go.Proofs.YtafongdfnpnneaaGreatDoor
open Go.Vm

theorem take_rest {α : Type} {l : List α} {i : Nat} : (l.drop i).take (l.length - i) = l.drop i := List.take_of_length_le (by rw [List.length_drop]; exact Nat.le_refl _)
theorem ibeq_dec {a b : Int} : (a == b) = decide (a = b) := by rw [Bool.eq_iff_iff, beq_iff_eq, decide_eq_true_eq]
/-- whether s begins with p -/
def begins (s p : List UInt8) : Bool := decide (p.length ≤ s.length) && (s.take p.length == p)
def cutP (s p : List UInt8) : List UInt8 × Bool := if begins s p = true then (s.drop p.length, true) else (s, false)
def encSB (r : List UInt8 × Bool) : V := .tup [.str r.1, .bool r.2]
theorem begins_le {s p : List UInt8} (h : begins s p = true) : p.length ≤ s.length := by
  simp only [begins, Bool.and_eq_true, decide_eq_true_eq] at h; exact h.1
theorem pc92 (s p : List UInt8) : PC Tryz.prog 92 [.str s, .str p] (.bool (begins s p)) := by
  refine PC.walk tok mixed cfg0 Tryz.func92 rfl Tryz.call92 (by simp ) (by first | rfl | simp ) ?_; simp (maxSteps := 2000000) -implicitDefEqProofs +contextual (disch := first | assumption | omega | decide +kernel) only [push_cast, ↓capI, br2_true, br2_false, frk_tt, frk_tf, frk_f, frkD_tt, frkD_tf, frkD_f, pk2_true, pk2_false, imp_true, seval, Nat.reduceLeDiff, Nat.reduceEqDiff, reduceCtorEq, ↓reduceIte, cfg0, take_rest, ibeq_dec, Tryz.ntmps92]
  refine ⟨fun h => ?_, fun h => ?_⟩
  · refine endK.ret ?_ (by first | rfl | simp ); simp [evRes, getT, retV, Tryz.f92,  begins, h]
  · refine endK.ret ?_ (by first | rfl | simp ); simp [evRes, getT, retV, Tryz.f92,  begins, h]
theorem pc82 (s p : List UInt8) : PC Tryz.prog 82 [.str s, .str p] (.bool (begins s p)) := by
  refine PC.walk tok mixed cfg0 Tryz.func82 rfl Tryz.call82 (by simp ) (by first | rfl | simp ) ?_; simp (maxSteps := 2000000) -implicitDefEqProofs +contextual (disch := first | assumption | omega | decide +kernel) only [push_cast, ↓capI, br2_true, br2_false, frk_tt, frk_tf, frk_f, frkD_tt, frkD_tf, frkD_f, pk2_true, pk2_false, imp_true, seval, Nat.reduceLeDiff, Nat.reduceEqDiff, reduceCtorEq, ↓reduceIte, cfg0, take_rest, ibeq_dec, Tryz.ntmps82]
  refine callO.pc (pc92 s p) ?_
  simp (maxSteps := 2000000) -implicitDefEqProofs +contextual (disch := first | assumption | omega | decide +kernel) only [push_cast, ↓capI, br2_true, br2_false, frk_tt, frk_tf, frk_f, frkD_tt, frkD_tf, frkD_f, pk2_true, pk2_false, imp_true, seval, Nat.reduceLeDiff, Nat.reduceEqDiff, reduceCtorEq, ↓reduceIte, cfg0, take_rest, ibeq_dec]
  refine endK.ret ?_ (by first | rfl | simp ); simp [evRes, getT, retV, Tryz.f82]
theorem pc84 (s : List UInt8) (i : Int) (r : List V) (hr : belAll 1 r = true) : GCall Tryz.prog 84 [.ptr 0 0 0] [.cells 0 (.str s :: .int .i64 i :: r)] (.bool (decide (i = s.length))) [.cells 0 (.str s :: .int .i64 i :: r)] := by
  refine GC.walk tok mixed cfg0 Tryz.func84 rfl Tryz.call84 ?_; simp (maxSteps := 2000000) -implicitDefEqProofs +contextual (disch := first | assumption | omega | decide +kernel) only [push_cast, ↓capI, br2_true, br2_false, frk_tt, frk_tf, frk_f, frkD_tt, frkD_tf, frkD_f, pk2_true, pk2_false, imp_true, seval, Nat.reduceLeDiff, Nat.reduceEqDiff, reduceCtorEq, ↓reduceIte, cfg0, take_rest, ibeq_dec, Tryz.ntmps84]
  refine endG.ret ([]) (by first | rfl | simp [fzs_ok, getO, setO, fzs, fz, fzH, Nat.beq, tt_3, tt_4, tt_5, tt_9, tt_129, tt_122, tt_126, tt_128, tt_138, tt_134, cfg0, take_rest, ibeq_dec, hr]) (by simp) (by simp [fzs_ok, imp, lenOK_iff, List.take_of_length_le, evRes, getT, getO, setO, fzs, fz, fzH, Nat.beq, retV, Res.then, ldT, ldR, mkV, getV, tt_3, tt_4, tt_5, tt_9, tt_129, tt_122, tt_126, tt_128, tt_138, tt_134, cfg0, take_rest, ibeq_dec, Tryz.f84, hr]) (by first | rfl | simp [hr]) (by first | rfl | simp [hr])
theorem pc71 (s p : List UInt8) (i : Nat) (r : List V) (hr : belAll 1 r = true) (hi : i ≤ s.length) (hs : s.length ≤ 4000000000) (hp : p.length ≤ 4000000000) : GCall Tryz.prog 71 [.ptr 0 0 0, .str p] [.cells 0 (.str s :: .int .i64 i :: r)] (.bool (begins (s.drop i) p))
    [.cells 0 (.str s :: .int .i64 (if begins (s.drop i) p = true then (i : Int) + p.length else i) :: r)] := by
  refine GC.walk tok mixed cfg0 Tryz.func71 rfl Tryz.call71 ?_; simp (maxSteps := 2000000) -implicitDefEqProofs +contextual (disch := first | assumption | omega | decide +kernel) only [push_cast, ↓capI, br2_true, br2_false, frk_tt, frk_tf, frk_f, frkD_tt, frkD_tf, frkD_f, pk2_true, pk2_false, imp_true, seval, Nat.reduceLeDiff, Nat.reduceEqDiff, reduceCtorEq, ↓reduceIte, cfg0, take_rest, ibeq_dec, Tryz.ntmps71]
  refine callG.pc1 (pc82 (s.drop i) p) ?_
  cases h : begins (s.drop i) p
  · simp (maxSteps := 2000000) -implicitDefEqProofs +contextual (disch := first | assumption | omega | decide +kernel) only [push_cast, ↓capI, br2_true, br2_false, frk_tt, frk_tf, frk_f, frkD_tt, frkD_tf, frkD_f, pk2_true, pk2_false, imp_true, seval, Nat.reduceLeDiff, Nat.reduceEqDiff, reduceCtorEq, ↓reduceIte, cfg0, take_rest, ibeq_dec]
    refine endG.ret ([]) (by first | rfl | simp [fzs_ok, getO, setO, fzs, fz, fzH, Nat.beq, tt_3, tt_4, tt_5, tt_9, tt_129, tt_122, tt_126, tt_128, tt_138, tt_134, cfg0, take_rest, ibeq_dec, hr]) (by simp) (by simp [fzs_ok, imp, lenOK_iff, List.take_of_length_le, evRes, getT, getO, setO, fzs, fz, fzH, Nat.beq, retV, Res.then, ldT, ldR, mkV, getV, tt_3, tt_4, tt_5, tt_9, tt_129, tt_122, tt_126, tt_128, tt_138, tt_134, cfg0, take_rest, ibeq_dec, Tryz.f71, hr]) (by first | rfl | simp [hr]) (by first | rfl | simp [hr])
  · simp (maxSteps := 2000000) -implicitDefEqProofs +contextual (disch := first | assumption | omega | decide +kernel) only [push_cast, ↓capI, br2_true, br2_false, frk_tt, frk_tf, frk_f, frkD_tt, frkD_tf, frkD_f, pk2_true, pk2_false, imp_true, seval, Nat.reduceLeDiff, Nat.reduceEqDiff, reduceCtorEq, ↓reduceIte, cfg0, take_rest, ibeq_dec]
    refine endG.ret ([]) (by first | rfl | simp [fzs_ok, getO, setO, fzs, fz, fzH, Nat.beq, tt_3, tt_4, tt_5, tt_9, tt_129, tt_122, tt_126, tt_128, tt_138, tt_134, cfg0, take_rest, ibeq_dec, hr]) (by simp) (by simp [fzs_ok, imp, lenOK_iff, List.take_of_length_le, evRes, getT, getO, setO, fzs, fz, fzH, Nat.beq, retV, Res.then, ldT, ldR, mkV, getV, tt_3, tt_4, tt_5, tt_9, tt_129, tt_122, tt_126, tt_128, tt_138, tt_134, cfg0, take_rest, ibeq_dec, Tryz.f71, hr]) (by first | rfl | simp [hr]) (by first | rfl | simp [hr])
end Go.Proofs.YtafongdfnpnneaaGreatDoor

/- Chapter 44: the first place of a byte in a text. -/
set_option maxRecDepth 100000
set_option maxHeartbeats 4000000
set_option linter.all false
namespace Go.Proofs.YtafongdfnpnneaaGreatDoor
open Go.Vm

def idxGo (c : Int) : List UInt8 → Nat → Int
  | [], _ => -1
  | x :: l, i => if (x.toNat : Int) = c then i else idxGo c l (i + 1)
def idxB (s : List UInt8) (c : Int) : Int := idxGo c s 0
theorem find_idx {s : List UInt8} {c : UInt8} : ∀ {i : Nat}, i ≤ s.length → (match (List.range' i (s.length - i)).find? (fun j => s[j]! == c) with | some j => (j : Int) | none => -1) = idxGo c.toNat (s.drop i) i := by
  intro i hi
  generalize hk : s.length - i = k
  induction k generalizing i with
  | zero =>
    rw [List.drop_of_length_le (by omega)]
    rfl
  | succ k ih =>
    have h : i < s.length := by omega
    rw [List.drop_eq_getElem_cons h, List.range'_succ, List.find?_cons, idxGo, List.getElem!_eq_getElem?_getD, List.getElem?_eq_getElem h, Option.getD_some]
    by_cases he : s[i] = c
    · simp [he]
    · have h1 : (s[i] == c) = false := by simpa using he
      have h2 : ¬ (s[i].toNat : Int) = (c.toNat : Int) := by
        intro e
        exact he (UInt8.toNat_inj.1 (by omega))
      rw [h1, if_neg h2]
      exact ih (by omega) (by omega)
theorem firstIdx_eq {s : List UInt8} {c : Int} (hc : 0 ≤ c ∧ c ≤ 255) : firstIdx ⟨s.toArray⟩ c.toNat.toUInt8 = idxB s c := by
  have hg : ∀ i : Nat, (⟨s.toArray⟩ : ByteArray)[i]! = s[i]! := by
    intro i
    have hs : (⟨s.toArray⟩ : ByteArray).size = s.length := by simp [ByteArray.size]
    by_cases h : i < s.length
    · rw [getElem!_pos (⟨s.toArray⟩ : ByteArray) i (by rw [hs]; exact h), getElem!_pos s i h]
      rfl
    · rw [getElem!_neg (⟨s.toArray⟩ : ByteArray) i (by rw [hs]; exact h), getElem!_neg s i h]
  have hcc : ((c.toNat.toUInt8).toNat : Int) = c := by
    rw [Nat.toUInt8_eq, UInt8.toNat_ofNat']
    omega
  have hs : (⟨s.toArray⟩ : ByteArray).size = s.length := by simp [ByteArray.size]
  have := find_idx (s := s) (c := c.toNat.toUInt8) (i := 0) (Nat.zero_le _)
  rw [hcc, List.drop_zero, Nat.sub_zero, ← List.range_eq_range'] at this
  rw [firstIdx, hs, idxB, ← this]
  simp only [hg]
  rfl
theorem x104 (s : List UInt8) (c : Int) (hc : 0 ≤ c ∧ c ≤ 255) : XCall Tryz.prog 77 [.str s, .int .u8 c] (.int .i64 (idxB s c)) := by
  intro own w β vals h
  match vals, h with
  | [a, b], h =>
    simp only [VRs, VR, and_true] at h
    obtain ⟨rfl, rfl⟩ := h
    refine ⟨.int .i64 (idxB s c), ?_, by simp only [VR]⟩
    rw [run_callFunc_extern (fn := Tryz.f77) (e := Extern.BytealgIndexByte.indexByte) Tryz.func77 (by kernel_rfl) (by kernel_rfl) (by kernel_rfl) (by rfl)]
    rw [run_indexByte_string, firstIdx_eq hc]
    rfl
  | [], h => simp [VRs] at h
  | [_], h => simp [VRs] at h
  | _ :: _ :: _ :: _, h => simp [VRs] at h
theorem pc65 (s : List UInt8) (c : Int) (hc : 0 ≤ c ∧ c ≤ 255) : PC Tryz.prog 65 [.str s, .int .u8 c] (.int .i64 (idxB s c)) := by
  refine PC.walk tok mixed cfg0 Tryz.func65 rfl Tryz.call65 (by simp ) (by first | rfl | simp ) ?_; simp (maxSteps := 2000000) -implicitDefEqProofs +contextual (disch := first | assumption | omega | decide +kernel) only [push_cast, ↓capI, br2_true, br2_false, frk_tt, frk_tf, frk_f, frkD_tt, frkD_tf, frkD_f, pk2_true, pk2_false, imp_true, seval, Nat.reduceLeDiff, Nat.reduceEqDiff, reduceCtorEq, ↓reduceIte, cfg0, take_rest, ibeq_dec, Tryz.ntmps65]
  refine callO.ext (x104 s c hc) ?_
  simp (maxSteps := 2000000) -implicitDefEqProofs +contextual (disch := first | assumption | omega | decide +kernel) only [push_cast, ↓capI, br2_true, br2_false, frk_tt, frk_tf, frk_f, frkD_tt, frkD_tf, frkD_f, pk2_true, pk2_false, imp_true, seval, Nat.reduceLeDiff, Nat.reduceEqDiff, reduceCtorEq, ↓reduceIte, cfg0, take_rest, ibeq_dec]
  refine endK.ret ?_ (by first | rfl | simp ); simp [evRes, getT, retV, Tryz.f65]
theorem pc93 (s : List UInt8) (c : Int) (hc : 0 ≤ c ∧ c ≤ 255) : PC Tryz.prog 93 [.str s, .int .u8 c] (.int .i64 (idxB s c)) := by
  refine PC.walk tok mixed cfg0 Tryz.func93 rfl Tryz.call93 (by simp ) (by first | rfl | simp ) ?_; simp (maxSteps := 2000000) -implicitDefEqProofs +contextual (disch := first | assumption | omega | decide +kernel) only [push_cast, ↓capI, br2_true, br2_false, frk_tt, frk_tf, frk_f, frkD_tt, frkD_tf, frkD_f, pk2_true, pk2_false, imp_true, seval, Nat.reduceLeDiff, Nat.reduceEqDiff, reduceCtorEq, ↓reduceIte, cfg0, take_rest, ibeq_dec, Tryz.ntmps93]
  refine callO.pc (pc65 s c hc) ?_
  simp (maxSteps := 2000000) -implicitDefEqProofs +contextual (disch := first | assumption | omega | decide +kernel) only [push_cast, ↓capI, br2_true, br2_false, frk_tt, frk_tf, frk_f, frkD_tt, frkD_tf, frkD_f, pk2_true, pk2_false, imp_true, seval, Nat.reduceLeDiff, Nat.reduceEqDiff, reduceCtorEq, ↓reduceIte, cfg0, take_rest, ibeq_dec]
  refine endK.ret ?_ (by first | rfl | simp ); simp [evRes, getT, retV, Tryz.f93]
end Go.Proofs.YtafongdfnpnneaaGreatDoor

/- Chapter 44: decimal numbers read by the program. -/
set_option maxRecDepth 100000
set_option maxHeartbeats 4000000
set_option linter.all false
namespace Go.Proofs.YtafongdfnpnneaaGreatDoor
open Go.Vm

def isDig (b : UInt8) : Bool := decide (48 ≤ b.toNat) && decide (b.toNat ≤ 57)
def hexs : List UInt8 := [48, 49, 50, 51, 52, 53, 54, 55, 56, 57, 97, 98, 99, 100, 101, 102]
theorem idx_dig {b : UInt8} : idxB [48, 49, 50, 51, 52, 53, 54, 55, 56, 57] (b.toNat : Int) = if isDig b = true then (b.toNat : Int) - 48 else -1 := by
  have key : ∀ n : Fin 256, idxB [48, 49, 50, 51, 52, 53, 54, 55, 56, 57] ((n.val : Nat) : Int) = if (decide (48 ≤ n.val) && decide (n.val ≤ 57)) = true then ((n.val : Nat) : Int) - 48 else -1 := by decide +kernel
  exact key ⟨b.toNat, b.toNat_lt⟩
theorem callO.part0 {P : Program} {H : List Ob} {KV : V → List Ob → Prop} {n : Nat} {args a b args0 : List V} {v : V} {G G' : List Ob} (ps : List Nat) (h : GCall P n args0 G v G') (hn : ps.Nodup) (hk' : G'.length = G.length)
    (ha : a ++ args ++ b = rns (qn ps H.length) args0) (hG : objsAt H ps (rnOs (qn ps H.length) G)) (k : KV (v.rn (qn ps H.length)) (setPs H ps (rnOs (qn ps H.length) G'))) : callO P (.fn (.func n) a b) args H KV :=
  callO.part (G' := G') (J := []) ps (by rw [List.append_nil]; exact h) hn hk' ha hG (by rw [rnOs, List.append_nil]; exact k)
def num (s : List UInt8) (i : Int) : List Ob := [.cells 0 [.str s, .int .i64 i, .int .i64 10]]
theorem pc83 (s : List UInt8) (i : Nat) (hs : s.length ≤ 4000000000) (h : i < s.length) (hd : isDig s[i] = true) :
    GCall Tryz.prog 83 [.ptr 0 0 0, .int .i64 10] (num s i) (.tup [.int .i64 ((s[i].toNat : Int) - 48), .bool true]) (num s ((i : Int) + 1)) := by
  have hn : ¬ (i : Int) = s.length := by omega
  have hb : (s[i].toNat : Int) ≤ 255 := by have := s[i].toNat_lt; omega
  have hd2 := hd
  simp only [isDig, Bool.and_eq_true, decide_eq_true_eq] at hd2
  have hneg : ¬ (s[i].toNat : Int) - 48 < 0 := by omega
  have hx := pc93 [48, 49, 50, 51, 52, 53, 54, 55, 56, 57] (s[i].toNat : Int) ⟨by omega, hb⟩
  rw [idx_dig, if_pos hd] at hx
  unfold num
  refine GC.walk tok mixed cfg0 Tryz.func83 rfl Tryz.call83 ?_; simp (maxSteps := 2000000) -implicitDefEqProofs +contextual (disch := first | assumption | omega | decide +kernel) only [push_cast, ↓capI, br2_true, br2_false, frk_tt, frk_tf, frk_f, frkD_tt, frkD_tf, frkD_f, pk2_true, pk2_false, imp_true, seval, Nat.reduceLeDiff, Nat.reduceEqDiff, reduceCtorEq, ↓reduceIte, cfg0, take_rest, ibeq_dec, V.rn, rns, qn, setPs, rnOs, Ob.rn, List.set_cons_zero, List.size_toArray, Tryz.ntmps83]
  refine callO.part0 [0] (pc84 s i [.int .i64 10] rfl) (by decide) rfl rfl ⟨by rfl, by simp, trivial⟩ ?_
  have hgd : s.getD i 0 = s[i] := by rw [List.getD_eq_getElem?_getD, List.getElem?_eq_getElem h]; rfl
  simp (maxSteps := 2000000) -implicitDefEqProofs +contextual (disch := first | assumption | omega | decide +kernel) only [push_cast, ↓capI, br2_true, br2_false, frk_tt, frk_tf, frk_f, frkD_tt, frkD_tf, frkD_f, pk2_true, pk2_false, imp_true, seval, Nat.reduceLeDiff, Nat.reduceEqDiff, reduceCtorEq, ↓reduceIte, cfg0, take_rest, ibeq_dec, V.rn, rns, qn, setPs, rnOs, Ob.rn, List.set_cons_zero, List.size_toArray, hn, hgd]
  refine callG.pc1 hx ?_
  simp (maxSteps := 2000000) -implicitDefEqProofs +contextual (disch := first | assumption | omega | decide +kernel) only [push_cast, ↓capI, br2_true, br2_false, frk_tt, frk_tf, frk_f, frkD_tt, frkD_tf, frkD_f, pk2_true, pk2_false, imp_true, seval, Nat.reduceLeDiff, Nat.reduceEqDiff, reduceCtorEq, ↓reduceIte, cfg0, take_rest, ibeq_dec, V.rn, rns, qn, setPs, rnOs, Ob.rn, List.set_cons_zero, List.size_toArray, hneg]
  refine endG.ret ([]) (by first | rfl | simp [fzs_ok, getO, setO, fzs, fz, fzH, Nat.beq, tt_3, tt_4, tt_5, tt_9, tt_129, tt_122, tt_126, tt_128, tt_138, tt_134, cfg0, take_rest, ibeq_dec, V.rn, rns, qn, setPs, rnOs, Ob.rn, List.set_cons_zero, List.size_toArray]) (by simp) (by simp [fzs_ok, imp, lenOK_iff, List.take_of_length_le, evRes, getT, getO, setO, fzs, fz, fzH, Nat.beq, retV, Res.then, ldT, ldR, mkV, getV, tt_3, tt_4, tt_5, tt_9, tt_129, tt_122, tt_126, tt_128, tt_138, tt_134, cfg0, take_rest, ibeq_dec, V.rn, rns, qn, setPs, rnOs, Ob.rn, List.set_cons_zero, List.size_toArray, Tryz.f83]) (by first | rfl | simp ) (by first | rfl | simp )
theorem pc103_no (s : List UInt8) (i : Nat) (hs : s.length ≤ 4000000000) (hi : i ≤ s.length) (hd : ∀ h : i < s.length, isDig s[i] = false) :
    GCall Tryz.prog 83 [.ptr 0 0 0, .int .i64 10] (num s i) (.tup [.int .i64 0, .bool false]) (num s i) := by
  unfold num
  refine GC.walk tok mixed cfg0 Tryz.func83 rfl Tryz.call83 ?_; simp (maxSteps := 2000000) -implicitDefEqProofs +contextual (disch := first | assumption | omega | decide +kernel) only [push_cast, ↓capI, br2_true, br2_false, frk_tt, frk_tf, frk_f, frkD_tt, frkD_tf, frkD_f, pk2_true, pk2_false, imp_true, seval, Nat.reduceLeDiff, Nat.reduceEqDiff, reduceCtorEq, ↓reduceIte, cfg0, take_rest, ibeq_dec, V.rn, rns, qn, setPs, rnOs, Ob.rn, List.set_cons_zero, List.size_toArray, Tryz.ntmps83]
  refine callO.part0 [0] (pc84 s i [.int .i64 10] rfl) (by decide) rfl rfl ⟨by rfl, by simp, trivial⟩ ?_
  by_cases h : i < s.length
  case neg =>
    have hn : (i : Int) = s.length := by omega
    simp (maxSteps := 2000000) -implicitDefEqProofs +contextual (disch := first | assumption | omega | decide +kernel) only [push_cast, ↓capI, br2_true, br2_false, frk_tt, frk_tf, frk_f, frkD_tt, frkD_tf, frkD_f, pk2_true, pk2_false, imp_true, seval, Nat.reduceLeDiff, Nat.reduceEqDiff, reduceCtorEq, ↓reduceIte, cfg0, take_rest, ibeq_dec, V.rn, rns, qn, setPs, rnOs, Ob.rn, List.set_cons_zero, List.size_toArray, hn]
    refine endG.ret ([]) (by first | rfl | simp [fzs_ok, getO, setO, fzs, fz, fzH, Nat.beq, tt_3, tt_4, tt_5, tt_9, tt_129, tt_122, tt_126, tt_128, tt_138, tt_134, cfg0, take_rest, ibeq_dec, V.rn, rns, qn, setPs, rnOs, Ob.rn, List.set_cons_zero, List.size_toArray, hn]) (by simp) (by simp [fzs_ok, imp, lenOK_iff, List.take_of_length_le, evRes, getT, getO, setO, fzs, fz, fzH, Nat.beq, retV, Res.then, ldT, ldR, mkV, getV, tt_3, tt_4, tt_5, tt_9, tt_129, tt_122, tt_126, tt_128, tt_138, tt_134, cfg0, take_rest, ibeq_dec, V.rn, rns, qn, setPs, rnOs, Ob.rn, List.set_cons_zero, List.size_toArray, Tryz.f83, hn]) (by first | rfl | simp [hn]) (by first | rfl | simp [hn])
  have hn : ¬ (i : Int) = s.length := by omega
  have hb : (s[i].toNat : Int) ≤ 255 := by have := s[i].toNat_lt; omega
  have hx := pc93 [48, 49, 50, 51, 52, 53, 54, 55, 56, 57] (s[i].toNat : Int) ⟨by omega, hb⟩
  rw [idx_dig, if_neg (by rw [hd h]; simp)] at hx
  have hgd : s.getD i 0 = s[i] := by rw [List.getD_eq_getElem?_getD, List.getElem?_eq_getElem h]; rfl
  simp (maxSteps := 2000000) -implicitDefEqProofs +contextual (disch := first | assumption | omega | decide +kernel) only [push_cast, ↓capI, br2_true, br2_false, frk_tt, frk_tf, frk_f, frkD_tt, frkD_tf, frkD_f, pk2_true, pk2_false, imp_true, seval, Nat.reduceLeDiff, Nat.reduceEqDiff, reduceCtorEq, ↓reduceIte, cfg0, take_rest, ibeq_dec, V.rn, rns, qn, setPs, rnOs, Ob.rn, List.set_cons_zero, List.size_toArray, hn, hgd]
  refine callG.pc1 hx ?_
  simp (maxSteps := 2000000) -implicitDefEqProofs +contextual (disch := first | assumption | omega | decide +kernel) only [push_cast, ↓capI, br2_true, br2_false, frk_tt, frk_tf, frk_f, frkD_tt, frkD_tf, frkD_f, pk2_true, pk2_false, imp_true, seval, Nat.reduceLeDiff, Nat.reduceEqDiff, reduceCtorEq, ↓reduceIte, cfg0, take_rest, ibeq_dec, V.rn, rns, qn, setPs, rnOs, Ob.rn, List.set_cons_zero, List.size_toArray]
  refine endG.ret ([]) (by first | rfl | simp [fzs_ok, getO, setO, fzs, fz, fzH, Nat.beq, tt_3, tt_4, tt_5, tt_9, tt_129, tt_122, tt_126, tt_128, tt_138, tt_134, cfg0, take_rest, ibeq_dec, V.rn, rns, qn, setPs, rnOs, Ob.rn, List.set_cons_zero, List.size_toArray]) (by simp) (by simp [fzs_ok, imp, lenOK_iff, List.take_of_length_le, evRes, getT, getO, setO, fzs, fz, fzH, Nat.beq, retV, Res.then, ldT, ldR, mkV, getV, tt_3, tt_4, tt_5, tt_9, tt_129, tt_122, tt_126, tt_128, tt_138, tt_134, cfg0, take_rest, ibeq_dec, V.rn, rns, qn, setPs, rnOs, Ob.rn, List.set_cons_zero, List.size_toArray, Tryz.f83]) (by first | rfl | simp ) (by first | rfl | simp )
def valL : List UInt8 → Nat → Option Nat
  | [], v => some v
  | c :: l, v => if isDig c = true then valL l (v * 10 + (c.toNat - 48)) else none
def valR (s : List UInt8) (i : Nat) : V := match valL (s.drop i) 0 with
  | some v => .tup [.int .u64 v, .int .i64 ((s.length - i : Nat) : Int), .bool (decide (i < s.length))]
  | none => .tup [.int .u64 0, .int .i64 0, .bool false]
theorem valR_some {s : List UInt8} {i v : Nat} (h : valL (s.drop i) 0 = some v) : valR s i = .tup [.int .u64 v, .int .i64 ((s.length - i : Nat) : Int), .bool (decide (i < s.length))] := by rw [valR, h]
theorem valR_none {s : List UInt8} {i : Nat} (h : valL (s.drop i) 0 = none) : valR s i = .tup [.int .u64 0, .int .i64 0, .bool false] := by rw [valR, h]
theorem pc73 (s : List UInt8) (i : Nat) (hs : s.length ≤ 4000000000) (hi : i ≤ s.length) (h9 : s.length - i ≤ 9) :
    GCall Tryz.prog 73 [.ptr 0 0 0, .int .u64 4294967295] (num s i) (valR s i) [.dead] := by
  unfold num
  refine GC.walk tok mixed cfg0 Tryz.func73 rfl Tryz.call73 ?_; simp (maxSteps := 2000000) -implicitDefEqProofs +contextual (disch := first | assumption | omega | decide +kernel) only [push_cast, ↓capI, br2_true, br2_false, frk_tt, frk_tf, frk_f, frkD_tt, frkD_tf, frkD_f, pk2_true, pk2_false, imp_true, seval, Nat.reduceLeDiff, Nat.reduceEqDiff, reduceCtorEq, ↓reduceIte, cfg0, take_rest, ibeq_dec, V.rn, rns, qn, setPs, rnOs, Ob.rn, List.set_cons_zero, List.size_toArray, Tryz.ntmps73]
  refine T.lp tok mixed cfg0 (fun ((j, v) : Nat × Nat) => kp 2 (dd 2 (sv (.int .u64 (v : Int)) (sv (.int .i64 ((j - i : Nat) : Int)) (dd 1 (kp 1 (dd 41 (nl)))))))) (fun H0 ((j, v) : Nat × Nat) => num s j) (fun ((j, v) : Nat × Nat) => i ≤ j ∧ j ≤ s.length ∧ v < 10 ^ (j - i) ∧ valL (s.drop j) v = valL (s.drop i) 0) (fun ((j, v) : Nat × Nat) => s.length - j) ((i, 0)) ?_ ?_ ?_
  · exact ⟨Nat.le_refl _, hi, by simp, rfl⟩
  · unfold num
    exact Gn.canon (J := []) (by first | rfl | (simp [List.append_nil]; done) | (simp [List.append_nil]; rfl)) (by simp [wk, putT, kp, dd, sv, nl]) (by simp [List.length_append]) (by simp [kp, dd, sv, nl]) (by simp )
  rintro ⟨j, v⟩ ⟨hij, hj, hv, hr⟩
  have hv9 : v < 1000000000 := Nat.lt_of_lt_of_le hv (Nat.pow_le_pow_right (by omega) (by omega : j - i ≤ 9))
  simp (maxSteps := 2000000) -implicitDefEqProofs +contextual (disch := first | assumption | omega | decide +kernel) only [push_cast, ↓capI, br2_true, br2_false, frk_tt, frk_tf, frk_f, frkD_tt, frkD_tf, frkD_f, pk2_true, pk2_false, imp_true, seval, Nat.reduceLeDiff, Nat.reduceEqDiff, reduceCtorEq, ↓reduceIte, cfg0, take_rest, ibeq_dec, V.rn, rns, qn, setPs, rnOs, Ob.rn, List.set_cons_zero, List.size_toArray, num]
  refine callO.part0 [0] (pc84 s j [.int .i64 10] rfl) (by decide) rfl rfl ⟨by rfl, by simp, trivial⟩ ?_
  by_cases hlt : j < s.length
  case neg =>
    have hn : (j : Int) = s.length := by omega
    rw [List.drop_of_length_le (by omega), valL] at hr
    have hdec : decide ((0 : Int) < (s.length : Int) - (i : Int)) = decide (i < s.length) := by
      rw [decide_eq_decide]; omega
    rw [valR_some hr.symm]
    simp (maxSteps := 2000000) -implicitDefEqProofs +contextual (disch := first | assumption | omega | decide +kernel) only [push_cast, ↓capI, br2_true, br2_false, frk_tt, frk_tf, frk_f, frkD_tt, frkD_tf, frkD_f, pk2_true, pk2_false, imp_true, seval, Nat.reduceLeDiff, Nat.reduceEqDiff, reduceCtorEq, ↓reduceIte, cfg0, take_rest, ibeq_dec, V.rn, rns, qn, setPs, rnOs, Ob.rn, List.set_cons_zero, List.size_toArray, hn]
    refine endG.gn (Gn.freeze (id := 0) rfl) ?_; refine endG.ret ([]) (by first | rfl | simp [fzs_ok, getO, setO, fzs, fz, fzH, Nat.beq, tt_3, tt_4, tt_5, tt_9, tt_129, tt_122, tt_126, tt_128, tt_138, tt_134, cfg0, take_rest, ibeq_dec, V.rn, rns, qn, setPs, rnOs, Ob.rn, List.set_cons_zero, List.size_toArray, hdec]) (by simp) (by simp [fzs_ok, imp, lenOK_iff, List.take_of_length_le, evRes, getT, getO, setO, fzs, fz, fzH, Nat.beq, retV, Res.then, ldT, ldR, mkV, getV, tt_3, tt_4, tt_5, tt_9, tt_129, tt_122, tt_126, tt_128, tt_138, tt_134, cfg0, take_rest, ibeq_dec, V.rn, rns, qn, setPs, rnOs, Ob.rn, List.set_cons_zero, List.size_toArray, Tryz.f73, hdec]) (by first | rfl | simp [hdec]) (by first | rfl | simp [hdec])
  have hn : ¬ (j : Int) = s.length := by omega
  rw [List.drop_eq_getElem_cons hlt, valL] at hr
  simp (maxSteps := 2000000) -implicitDefEqProofs +contextual (disch := first | assumption | omega | decide +kernel) only [push_cast, ↓capI, br2_true, br2_false, frk_tt, frk_tf, frk_f, frkD_tt, frkD_tf, frkD_f, pk2_true, pk2_false, imp_true, seval, Nat.reduceLeDiff, Nat.reduceEqDiff, reduceCtorEq, ↓reduceIte, cfg0, take_rest, ibeq_dec, V.rn, rns, qn, setPs, rnOs, Ob.rn, List.set_cons_zero, List.size_toArray, hn]
  cases hd : isDig s[j]
  case false =>
    refine callO.part0 [0] (pc103_no s j hs hj (fun _ => hd)) (by decide) rfl rfl ⟨by rfl, by simp, trivial⟩ ?_
    rw [hd, if_neg (by simp)] at hr
    rw [valR_none hr.symm]
    simp (maxSteps := 2000000) -implicitDefEqProofs +contextual (disch := first | assumption | omega | decide +kernel) only [push_cast, ↓capI, br2_true, br2_false, frk_tt, frk_tf, frk_f, frkD_tt, frkD_tf, frkD_f, pk2_true, pk2_false, imp_true, seval, Nat.reduceLeDiff, Nat.reduceEqDiff, reduceCtorEq, ↓reduceIte, cfg0, take_rest, ibeq_dec, V.rn, rns, qn, setPs, rnOs, Ob.rn, List.set_cons_zero, List.size_toArray, num]
    refine endG.gn (Gn.freeze (id := 0) rfl) ?_; refine endG.ret ([]) (by first | rfl | simp [fzs_ok, getO, setO, fzs, fz, fzH, Nat.beq, tt_3, tt_4, tt_5, tt_9, tt_129, tt_122, tt_126, tt_128, tt_138, tt_134, cfg0, take_rest, ibeq_dec, V.rn, rns, qn, setPs, rnOs, Ob.rn, List.set_cons_zero, List.size_toArray]) (by simp) (by simp [fzs_ok, imp, lenOK_iff, List.take_of_length_le, evRes, getT, getO, setO, fzs, fz, fzH, Nat.beq, retV, Res.then, ldT, ldR, mkV, getV, tt_3, tt_4, tt_5, tt_9, tt_129, tt_122, tt_126, tt_128, tt_138, tt_134, cfg0, take_rest, ibeq_dec, V.rn, rns, qn, setPs, rnOs, Ob.rn, List.set_cons_zero, List.size_toArray, Tryz.f73]) (by first | rfl | simp ) (by first | rfl | simp )
  refine callO.part0 [0] (pc83 s j hs hlt hd) (by decide) rfl rfl ⟨by rfl, by simp, trivial⟩ ?_
  rw [hd, if_pos rfl] at hr
  have hd2 := hd
  simp only [isDig, Bool.and_eq_true, decide_eq_true_eq] at hd2
  have hc : ((s[j].toNat : Int) - 48) = ((s[j].toNat - 48 : Nat) : Int) := by omega
  have hp : v * 10 + (s[j].toNat - 48) < 10 ^ (j + 1 - i) := by
    rw [show j + 1 - i = (j - i) + 1 by omega, Nat.pow_succ]
    omega
  have hp2 : v * 10 + (s[j].toNat - 48) < 1000000000 := Nat.lt_of_lt_of_le hp (Nat.pow_le_pow_right (by omega) (by omega : j + 1 - i ≤ 9))
  generalize s[j].toNat - 48 = c at hr hc hp hp2
  rw [hc]
  simp (maxSteps := 2000000) -implicitDefEqProofs +contextual (disch := first | assumption | omega | decide +kernel) only [push_cast, ↓capI, br2_true, br2_false, frk_tt, frk_tf, frk_f, frkD_tt, frkD_tf, frkD_f, pk2_true, pk2_false, imp_true, seval, Nat.reduceLeDiff, Nat.reduceEqDiff, reduceCtorEq, ↓reduceIte, cfg0, take_rest, ibeq_dec, V.rn, rns, qn, setPs, rnOs, Ob.rn, List.set_cons_zero, List.size_toArray, num]
  have hji : (j : Int) - (i : Int) + 1 = ((j + 1 - i : Nat) : Int) := by omega
  refine ⟨(j + 1, v * 10 + c), ⟨by simp only; omega, by simp only; omega, hp, hr⟩, by (try simp only); omega, ?_⟩; exact Gn.canon (by first | rfl | (simp [List.append_nil, num, hji]; rfl)) (by simp [wk, num, hji]) (by simp [List.length_append]) (by simp ) (by simp )
end Go.Proofs.YtafongdfnpnneaaGreatDoor

/- Chapter 44: integers read by the program. -/
set_option maxRecDepth 100000
set_option maxHeartbeats 4000000
set_option linter.all false
namespace Go.Proofs.YtafongdfnpnneaaGreatDoor
open Go.Vm

def canonD (d : List UInt8) : Bool := decide (d.length = 1) || (decide (d ≠ []) && (((d.getD 0 0).toNat : Int) != 48))
theorem pcj70 (s : List UInt8) : PCJ Tryz.prog 70 [.str s] (.ptr 0 0 0) (num s 0) := by
  refine PCJ.walk tok mixed cfg0 Tryz.func70 rfl Tryz.call70 (by simp ) ?_; simp (maxSteps := 2000000) -implicitDefEqProofs +contextual (disch := first | assumption | omega | decide +kernel) only [push_cast, ↓capI, br2_true, br2_false, frk_tt, frk_tf, frk_f, frkD_tt, frkD_tf, frkD_f, pk2_true, pk2_false, imp_true, seval, Nat.reduceLeDiff, Nat.reduceEqDiff, reduceCtorEq, ↓reduceIte, cfg0, take_rest, ibeq_dec, V.rn, rns, qn, setPs, rnOs, Ob.rn, List.set_cons_zero, List.size_toArray, Tryz.ntmps70]
  refine endJ.ret ([]) (by simp [fzs_ok, getO, setO, fzs, fz, fzH, Nat.beq, tt_3, tt_4, tt_5, tt_9, tt_129, tt_122, tt_126, tt_128, tt_138, tt_134, cfg0, take_rest, ibeq_dec, V.rn, rns, qn, setPs, rnOs, Ob.rn, List.set_cons_zero, List.size_toArray, num]) (by simp [fzs_ok, imp, lenOK_iff, List.take_of_length_le, evRes, getT, getO, setO, fzs, fz, fzH, Nat.beq, retV, Res.then, ldT, ldR, mkV, getV, tt_3, tt_4, tt_5, tt_9, tt_129, tt_122, tt_126, tt_128, tt_138, tt_134, cfg0, take_rest, ibeq_dec, V.rn, rns, qn, setPs, rnOs, Ob.rn, List.set_cons_zero, List.size_toArray, Tryz.f70, num]) (by first | rfl | simp [num]) (by first | rfl | simp [num])
theorem pc72 (d : List UInt8) : PC Tryz.prog 72 [.str d] (.bool (canonD d)) := by
  refine PC.walk tok mixed cfg0 Tryz.func72 rfl Tryz.call72 (by simp ) (by first | rfl | simp ) ?_; simp (maxSteps := 2000000) -implicitDefEqProofs +contextual (disch := first | assumption | omega | decide +kernel) only [push_cast, ↓capI, br2_true, br2_false, frk_tt, frk_tf, frk_f, frkD_tt, frkD_tf, frkD_f, pk2_true, pk2_false, imp_true, seval, Nat.reduceLeDiff, Nat.reduceEqDiff, reduceCtorEq, ↓reduceIte, cfg0, take_rest, ibeq_dec, V.rn, rns, qn, setPs, rnOs, Ob.rn, List.set_cons_zero, List.size_toArray, Tryz.ntmps72]
  refine ⟨fun h => ⟨fun h2 => ?_, fun h2 => ?_⟩, fun h => ?_⟩
  · have h3 : (0 : Int) < (d.length : Int) := by
      have := List.length_pos_iff.2 h2
      omega
    have h4 : ¬ d.length = 1 := by omega
    refine ⟨h3, fun _ => ?_⟩
    refine endK.ret ?_ (by first | rfl | simp ); simp [evRes, getT, retV, Tryz.f72,  canonD, h2, h4]
  · refine endK.ret ?_ (by first | rfl | simp ); simp [evRes, getT, retV, Tryz.f72,  canonD]
  · have h4 : d.length = 1 := by omega
    refine endK.ret ?_ (by first | rfl | simp ); simp [evRes, getT, retV, Tryz.f72,  canonD, h4]
def parseI (s : List UInt8) : Int × Bool :=
  if begins s [45] = true then
    (if 9 < (s.drop 1).length ∨ canonD (s.drop 1) = false then (0, false) else match valL (s.drop 1) 0 with
      | some v => if v = 0 then (0, false) else (-(v : Int), true)
      | none => (0, false))
  else (if 9 < s.length ∨ canonD s = false then (0, false) else match valL s 0 with
    | some v => ((v : Int), true)
    | none => (0, false))
def encIB (r : Int × Bool) : V := .tup [.int .i64 r.1, .bool r.2]
theorem valL_lt : ∀ {s : List UInt8} {v r : Nat}, valL s v = some r → r < (v + 1) * 10 ^ s.length
  | [], v, r, h => by
    simp only [valL, Option.some.injEq] at h
    simp; omega
  | c :: s, v, r, h => by
    rw [valL] at h
    split at h
    · rename_i hd
      simp only [isDig, Bool.and_eq_true, decide_eq_true_eq] at hd
      have := valL_lt h
      rw [List.length_cons, Nat.pow_succ]
      refine Nat.lt_of_lt_of_le this ?_
      have : (v * 10 + (c.toNat - 48) + 1) ≤ (v + 1) * 10 := by omega
      calc (v * 10 + (c.toNat - 48) + 1) * 10 ^ s.length ≤ ((v + 1) * 10) * 10 ^ s.length := Nat.mul_le_mul_right _ this
        _ = (v + 1) * (10 ^ s.length * 10) := by rw [Nat.mul_assoc, Nat.mul_comm 10]
    · cases h
theorem canonD_pos {d : List UInt8} (h : canonD d = true) : 0 < d.length := by
  cases d with
  | nil => simp [canonD] at h
  | cons => simp
theorem pc60 (s : List UInt8) (hs : s.length ≤ 4000000000) : PC Tryz.prog 60 [.str s] (encIB (parseI s)) := by
  refine PC.walk tok mixed cfg0 Tryz.func60 rfl Tryz.call60 (by simp ) (by first | rfl | simp ) ?_; simp (maxSteps := 2000000) -implicitDefEqProofs +contextual (disch := first | assumption | omega | decide +kernel) only [push_cast, ↓capI, br2_true, br2_false, frk_tt, frk_tf, frk_f, frkD_tt, frkD_tf, frkD_f, pk2_true, pk2_false, imp_true, seval, Nat.reduceLeDiff, Nat.reduceEqDiff, reduceCtorEq, ↓reduceIte, cfg0, take_rest, ibeq_dec, V.rn, rns, qn, setPs, rnOs, Ob.rn, List.set_cons_zero, List.size_toArray, Tryz.ntmps60]
  refine callO.pcj (pcj70 s) ?_
  simp (maxSteps := 2000000) -implicitDefEqProofs +contextual (disch := first | assumption | omega | decide +kernel) only [push_cast, ↓capI, br2_true, br2_false, frk_tt, frk_tf, frk_f, frkD_tt, frkD_tf, frkD_f, pk2_true, pk2_false, imp_true, seval, Nat.reduceLeDiff, Nat.reduceEqDiff, reduceCtorEq, ↓reduceIte, cfg0, take_rest, ibeq_dec, V.rn, rns, qn, setPs, rnOs, Ob.rn, List.set_cons_zero, List.size_toArray, num, V.sh, shs, shOs, Ob.sh]
  refine callO.part0 [0] (pc71 s [45] 0 [.int .i64 10] rfl (Nat.zero_le _) hs (by decide)) (by decide) rfl rfl ⟨by rfl, by simp, trivial⟩ ?_
  rw [List.drop_zero]
  have hmin : min (s.length - 0) s.length = s.length := by omega
  have htk : List.take (s.length - 0) s = s := by rw [Nat.sub_zero]; exact List.take_length
  unfold parseI
  cases hb : begins s [45]
  · rw [if_neg (by simp)]
    simp (maxSteps := 2000000) -implicitDefEqProofs +contextual (disch := first | assumption | omega | decide +kernel) only [push_cast, ↓capI, br2_true, br2_false, frk_tt, frk_tf, frk_f, frkD_tt, frkD_tf, frkD_f, pk2_true, pk2_false, imp_true, seval, Nat.reduceLeDiff, Nat.reduceEqDiff, reduceCtorEq, ↓reduceIte, cfg0, take_rest, ibeq_dec, V.rn, rns, qn, setPs, rnOs, Ob.rn, List.set_cons_zero, List.size_toArray, htk, hmin, Nat.sub_zero, List.take_length, Nat.min_self]
    refine ⟨fun h9 => ?_, fun h9 => ?_⟩
    · have h9n : ¬ 9 < s.length := by omega
      refine callO.pc (pc72 s) ?_
      cases hc : canonD s
      · simp (maxSteps := 2000000) -implicitDefEqProofs +contextual (disch := first | assumption | omega | decide +kernel) only [push_cast, ↓capI, br2_true, br2_false, frk_tt, frk_tf, frk_f, frkD_tt, frkD_tf, frkD_f, pk2_true, pk2_false, imp_true, seval, Nat.reduceLeDiff, Nat.reduceEqDiff, reduceCtorEq, ↓reduceIte, cfg0, take_rest, ibeq_dec, V.rn, rns, qn, setPs, rnOs, Ob.rn, List.set_cons_zero, List.size_toArray, hc]
        refine endK.ret ?_ (by first | rfl | simp ); simp [evRes, getT, retV, Tryz.f60,  encIB, h9n, hc]
      simp (maxSteps := 2000000) -implicitDefEqProofs +contextual (disch := first | assumption | omega | decide +kernel) only [push_cast, ↓capI, br2_true, br2_false, frk_tt, frk_tf, frk_f, frkD_tt, frkD_tf, frkD_f, pk2_true, pk2_false, imp_true, seval, Nat.reduceLeDiff, Nat.reduceEqDiff, reduceCtorEq, ↓reduceIte, cfg0, take_rest, ibeq_dec, V.rn, rns, qn, setPs, rnOs, Ob.rn, List.set_cons_zero, List.size_toArray, hc]
      refine callO.part0 [0] (pc73 s 0 hs (Nat.zero_le _) (by omega)) (by decide) rfl rfl ⟨by rfl, by simp, trivial⟩ ?_
      have hv := @valL_lt s 0
      have hp9 : 10 ^ s.length ≤ 1000000000 := Nat.pow_le_pow_right (by omega) (by omega : s.length ≤ 9)
      cases he : valL s 0 with
      | none =>
        rw [valR_none (by rw [List.drop_zero]; exact he)]
        simp (maxSteps := 2000000) -implicitDefEqProofs +contextual (disch := first | assumption | omega | decide +kernel) only [push_cast, ↓capI, br2_true, br2_false, frk_tt, frk_tf, frk_f, frkD_tt, frkD_tf, frkD_f, pk2_true, pk2_false, imp_true, seval, Nat.reduceLeDiff, Nat.reduceEqDiff, reduceCtorEq, ↓reduceIte, cfg0, take_rest, ibeq_dec, V.rn, rns, qn, setPs, rnOs, Ob.rn, List.set_cons_zero, List.size_toArray, he]
        refine endK.ret ?_ (by first | rfl | simp ); simp [evRes, getT, retV, Tryz.f60,  encIB, h9n, hc, he]
      | some v =>
        have hv2 := hv he
        have hpos := canonD_pos hc
        rw [valR_some (by rw [List.drop_zero]; exact he)]
        simp (maxSteps := 2000000) -implicitDefEqProofs +contextual (disch := first | assumption | omega | decide +kernel) only [push_cast, ↓capI, br2_true, br2_false, frk_tt, frk_tf, frk_f, frkD_tt, frkD_tf, frkD_f, pk2_true, pk2_false, imp_true, seval, Nat.reduceLeDiff, Nat.reduceEqDiff, reduceCtorEq, ↓reduceIte, cfg0, take_rest, ibeq_dec, V.rn, rns, qn, setPs, rnOs, Ob.rn, List.set_cons_zero, List.size_toArray, he, hpos]
        refine endK.ret ?_ (by first | rfl | simp ); simp [evRes, getT, retV, Tryz.f60,  encIB, or_self, if_false]
    · have h9n : 9 < s.length := by omega
      refine endK.ret ?_ (by first | rfl | simp ); simp [evRes, getT, retV, Tryz.f60,  encIB, h9n]
  · have hl := begins_le hb
    rw [if_pos rfl]
    simp (maxSteps := 2000000) -implicitDefEqProofs +contextual (disch := first | assumption | omega | decide +kernel) only [push_cast, ↓capI, br2_true, br2_false, frk_tt, frk_tf, frk_f, frkD_tt, frkD_tf, frkD_f, pk2_true, pk2_false, imp_true, seval, Nat.reduceLeDiff, Nat.reduceEqDiff, reduceCtorEq, ↓reduceIte, cfg0, take_rest, ibeq_dec, V.rn, rns, qn, setPs, rnOs, Ob.rn, List.set_cons_zero, List.size_toArray, htk, hmin, Nat.sub_zero, List.take_length, Nat.min_self]
    simp only [List.length_cons, List.length_nil] at hl
    have hl1 : (1 : Int) ≤ (s.length : Int) := by omega
    have hdl : (s.drop 1).length = s.length - 1 := List.length_drop
    refine ⟨hl1, fun _ => ⟨fun h9 => ?_, fun h9 => ?_⟩⟩
    · have h9n : ¬ 9 < (s.drop 1).length := by omega
      refine callO.pc (pc72 (s.drop 1)) ?_
      cases hc : canonD (s.drop 1)
      · simp (maxSteps := 2000000) -implicitDefEqProofs +contextual (disch := first | assumption | omega | decide +kernel) only [push_cast, ↓capI, br2_true, br2_false, frk_tt, frk_tf, frk_f, frkD_tt, frkD_tf, frkD_f, pk2_true, pk2_false, imp_true, seval, Nat.reduceLeDiff, Nat.reduceEqDiff, reduceCtorEq, ↓reduceIte, cfg0, take_rest, ibeq_dec, V.rn, rns, qn, setPs, rnOs, Ob.rn, List.set_cons_zero, List.size_toArray, hc]
        refine endK.ret ?_ (by first | rfl | simp ); simp [evRes, getT, retV, Tryz.f60,  encIB, h9n, hc]
      simp (maxSteps := 2000000) -implicitDefEqProofs +contextual (disch := first | assumption | omega | decide +kernel) only [push_cast, ↓capI, br2_true, br2_false, frk_tt, frk_tf, frk_f, frkD_tt, frkD_tf, frkD_f, pk2_true, pk2_false, imp_true, seval, Nat.reduceLeDiff, Nat.reduceEqDiff, reduceCtorEq, ↓reduceIte, cfg0, take_rest, ibeq_dec, V.rn, rns, qn, setPs, rnOs, Ob.rn, List.set_cons_zero, List.size_toArray, hc]
      refine callO.part0 [0] (pc73 s 1 hs (by omega) (by omega)) (by decide) rfl rfl ⟨by rfl, by simp, trivial⟩ ?_
      have hv := @valL_lt (s.drop 1) 0
      have hp9 : 10 ^ (s.drop 1).length ≤ 1000000000 := Nat.pow_le_pow_right (by omega) (by omega : (s.drop 1).length ≤ 9)
      cases he : valL (s.drop 1) 0 with
      | none =>
        rw [valR_none he]
        simp (maxSteps := 2000000) -implicitDefEqProofs +contextual (disch := first | assumption | omega | decide +kernel) only [push_cast, ↓capI, br2_true, br2_false, frk_tt, frk_tf, frk_f, frkD_tt, frkD_tf, frkD_f, pk2_true, pk2_false, imp_true, seval, Nat.reduceLeDiff, Nat.reduceEqDiff, reduceCtorEq, ↓reduceIte, cfg0, take_rest, ibeq_dec, V.rn, rns, qn, setPs, rnOs, Ob.rn, List.set_cons_zero, List.size_toArray, he]
        refine endK.ret ?_ (by first | rfl | simp ); simp [evRes, getT, retV, Tryz.f60,  encIB, h9n, hc, he]
      | some v =>
        have hv2 := hv he
        have hpos := canonD_pos hc
        have hpos2 : 1 < s.length := by omega
        have hd1 : decide (1 < s.length) = true := by simpa using hpos2
        rw [valR_some he]
        by_cases hv0 : v = 0
        · subst hv0
          simp (maxSteps := 2000000) -implicitDefEqProofs +contextual (disch := first | assumption | omega | decide +kernel) only [push_cast, ↓capI, br2_true, br2_false, frk_tt, frk_tf, frk_f, frkD_tt, frkD_tf, frkD_f, pk2_true, pk2_false, imp_true, seval, Nat.reduceLeDiff, Nat.reduceEqDiff, reduceCtorEq, ↓reduceIte, cfg0, take_rest, ibeq_dec, V.rn, rns, qn, setPs, rnOs, Ob.rn, List.set_cons_zero, List.size_toArray, he, hd1, hpos2]
          refine endK.ret ?_ (by first | rfl | simp ); simp [evRes, getT, retV, Tryz.f60,  encIB, or_self, if_false, if_true]
        · have hvi : ¬ (v : Int) = 0 := by omega
          simp (maxSteps := 2000000) -implicitDefEqProofs +contextual (disch := first | assumption | omega | decide +kernel) only [push_cast, ↓capI, br2_true, br2_false, frk_tt, frk_tf, frk_f, frkD_tt, frkD_tf, frkD_f, pk2_true, pk2_false, imp_true, seval, Nat.reduceLeDiff, Nat.reduceEqDiff, reduceCtorEq, ↓reduceIte, cfg0, take_rest, ibeq_dec, V.rn, rns, qn, setPs, rnOs, Ob.rn, List.set_cons_zero, List.size_toArray, he, hd1, hpos2, hvi]
          refine endK.ret ?_ (by first | rfl | simp ); simp [evRes, getT, retV, Tryz.f60,  encIB, or_self, if_false, hv0]
    · have h9n : 9 < (s.drop 1).length := by omega
      refine endK.ret ?_ (by first | rfl | simp ); simp [evRes, getT, retV, Tryz.f60,  encIB, h9n]
end Go.Proofs.YtafongdfnpnneaaGreatDoor

/- Chapter 40: topologies as plain lists, their cells, and what the functions answer. -/
set_option maxRecDepth 100000
set_option linter.all false
namespace Go.Proofs.YtafongdfnpnneaaGreatDoor.Top
open Go.Vm

structure Lk where
  a : Int × Int
  b : Int × Int
  dn : Bool
  deriving DecidableEq
instance : Inhabited Lk := ⟨⟨(0, 0), (0, 0), false⟩⟩
structure Tp where
  ports : List Int
  links : List Lk
  hosts : List (Int × Int)
  deriving DecidableEq

def encP (p : Int × Int) : List V := [.int .i64 p.1, .int .i64 p.2]
def encL (l : Lk) : List V := [.int .i64 l.a.1, .int .i64 l.a.2, .int .i64 l.b.1, .int .i64 l.b.2, .bool l.dn]
def slI (l : List Int) : V := .sl false (l.map (V.int .i64)) l.length
def slP (l : List (Int × Int)) : V := .sl false (l.flatMap encP) l.length
def slL (l : List Lk) : V := .sl false (l.flatMap encL) l.length
def encT (t : Tp) : List V := [slI t.ports, slL t.links, slP t.hosts]

theorem lenP (x : Int × Int) : (encP x).length = 2 := rfl
theorem lenL (x : Lk) : (encL x).length = 5 := rfl
theorem belP {n : Nat} (x : Int × Int) : belAll n (encP x) = true := rfl
theorem belL {n : Nat} (x : Lk) : belAll n (encL x) = true := rfl
theorem bel_ints {n : Nat} (xs : List Int) : belAll n (xs.map (V.int .i64)) = true := belAll_map (fun _ => rfl) xs
theorem bel_Ps {n : Nat} (xs : List (Int × Int)) : belAll n (xs.flatMap encP) = true := belAll_flat belP xs
theorem bel_Ls {n : Nat} (xs : List Lk) : belAll n (xs.flatMap encL) = true := belAll_flat belL xs
theorem bel_slI {n : Nat} (l : List Int) : (slI l).bel n = true := by unfold slI; simp only [V.bel]; exact belAll_map (fun _ => rfl) l
theorem bel_slP {n : Nat} (l : List (Int × Int)) : (slP l).bel n = true := by unfold slP; simp only [V.bel]; exact belAll_flat belP l
theorem bel_slL {n : Nat} (l : List Lk) : (slL l).bel n = true := by unfold slL; simp only [V.bel]; exact belAll_flat belL l
theorem belT {n : Nat} (t : Tp) : belAll n (encT t) = true := by simp only [encT, belAll, bel_slI, bel_slP, bel_slL, Bool.and_self]
theorem drop_cons {α : Type} {l : List α} {j : Nat} (h : j < l.length) : l.drop j = l[j] :: l.drop (j + 1) := List.drop_eq_getElem_cons h
theorem getI_nat {l : List Int} {i : Nat} (h : i < l.length) : getV ((l.map (V.int .i64)).drop (i * 1)) 0 1 = [.int .i64 l[i]] := get_map0 l i h
theorem getI_int {l : List Int} {i : Int} (h0 : 0 ≤ i) (h1 : i < l.length) : getV ((l.map (V.int .i64)).drop (i.toNat * 1)) 0 1 = [.int .i64 (l.getD i.toNat 0)] := by
  rw [getI_nat (by omega), List.getD_eq_getElem?_getD, List.getElem?_eq_getElem (by omega)]; rfl
theorem lenI_int {l : List Int} {i : Int} (h0 : 0 ≤ i) (h1 : i < l.length) : 1 ≤ ((l.map (V.int .i64)).drop (i.toNat * 1)).length := by
  rw [List.length_drop, List.length_map]; omega

/-- no list is longer than can be counted -/
structure Tp.fit (t : Tp) : Prop where
  ports : t.ports.length ≤ 4000000000000000000
  links : t.links.length ≤ 4000000000
  hosts : t.hosts.length ≤ 4000000000

def has (t : Tp) (a : Int × Int) : Bool := decide (0 ≤ a.1) && (decide (a.1 < t.ports.length) && (decide (0 ≤ a.2) && decide (a.2 < t.ports.getD a.1.toNat 0)))

/-- the first place, from j on, where f holds -/
def firstAt {α : Type} (f : α → Bool) : List α → Nat → Int × Bool
  | [], _ => (0, false)
  | x :: xs, j => if f x then (j, true) else firstAt f xs (j + 1)
def hostAt (t : Tp) (p : Int × Int) : Int × Bool := firstAt (fun h => decide (h = p)) t.hosts 0
def linkAt (t : Tp) (p : Int × Int) : Int × Bool := firstAt (fun l => decide (l.a = p) || decide (l.b = p)) t.links 0

theorem eqP {a b : Int × Int} : (a.1 == b.1 && a.2 == b.2) = decide (a = b) := by
  obtain ⟨a1, a2⟩ := a
  obtain ⟨b1, b2⟩ := b
  by_cases h1 : a1 = b1 <;> by_cases h2 : a2 = b2 <;> simp [h1, h2]
end Go.Proofs.YtafongdfnpnneaaGreatDoor.Top

/- Chapter 40: the host and the link at a port. -/
set_option maxRecDepth 100000
set_option linter.all false
namespace Go.Proofs.YtafongdfnpnneaaGreatDoor.Top
open Go.Vm

theorem firstAt_cons {α : Type} {f : α → Bool} {l : List α} {j : Nat} {r : Int × Bool} (h : j < l.length) (hr : firstAt f (l.drop j) j = r) :
    (f l[j] = true → r = ((j : Int), true)) ∧ (f l[j] = false → firstAt f (l.drop (j + 1)) (j + 1) = r) := by
  rw [drop_cons h, firstAt] at hr
  cases hf : f l[j] with
  | true => rw [hf] at hr; exact ⟨fun _ => hr.symm, fun h => by simp at h⟩
  | false => rw [hf] at hr; exact ⟨fun h => by simp at h, fun _ => hr⟩
theorem firstAt_end {α : Type} {f : α → Bool} {l : List α} {j : Nat} {r : Int × Bool} (h : ¬ j < l.length) (hr : firstAt f (l.drop j) j = r) : r = (0, false) := by
  rw [List.drop_of_length_le (by omega)] at hr; exact hr.symm


theorem pc52 (t : Tp) (p : Int × Int) (hf : t.fit) : PC Tryz.prog 52 [.agg (encT t), .agg (encP p)] (encIB (hostAt t p)) := by
  have := hf.hosts
  refine PC.walk tok mixed cfg0 Tryz.func52 rfl Tryz.call52 (by simp [belT, belP, bel_slI, bel_slL, bel_slP, bel_ints, bel_Ps, bel_Ls]) (by first | rfl | simp [belT, belP, bel_slI, bel_slL, bel_slP, bel_ints, bel_Ps, bel_Ls]) ?_; simp (maxSteps := 2000000) -implicitDefEqProofs +contextual (disch := first | assumption | omega | decide +kernel) only [push_cast, ↓capI, br2_true, br2_false, frk_tt, frk_tf, frk_f, frkD_tt, frkD_tf, frkD_f, pk2_true, pk2_false, imp_true, seval, Nat.reduceLeDiff, Nat.reduceEqDiff, reduceCtorEq, ↓reduceIte, encT, encP, encL, slI, slP, slL, cfg0, get_flat_part lenP, get_flat_part lenL, get_flat_drop lenL, len_flat lenP, len_flat lenL, eqP, Tryz.ntmps52]
  refine T.lp tok mixed cfg0 (fun (j : Nat) => dd 2 (kp 2 (dd 2 (sv (.int .i64 j) (dd 15 (nl)))))) (fun H0 (j : Nat) => H0) (fun (j : Nat) => firstAt (fun h => decide (h = p)) (t.hosts.drop j) j = hostAt t p) (fun (j : Nat) => t.hosts.length - j) (0) ?_ ?_ ?_
  · rfl
  · exact Gn.canon (J := _) (by first | rfl | (simp [List.append_nil]; done) | (simp [List.append_nil]; rfl)) (by simp [wk, slP, slL, slI, putT, kp, dd, sv, nl]) (by simp [List.length_append]) (by simp [belT, belP, bel_slI, bel_slL, bel_slP, bel_ints, bel_Ps, bel_Ls, kp, dd, sv, nl]) (by simp [belT, belP, bel_slI, bel_slL, bel_slP, bel_ints, bel_Ps, bel_Ls])
  · intro j hj
    simp (maxSteps := 2000000) -implicitDefEqProofs +contextual (disch := first | assumption | omega | decide +kernel) only [push_cast, ↓capI, br2_true, br2_false, frk_tt, frk_tf, frk_f, frkD_tt, frkD_tf, frkD_f, pk2_true, pk2_false, imp_true, seval, Nat.reduceLeDiff, Nat.reduceEqDiff, reduceCtorEq, ↓reduceIte, encT, encP, encL, slI, slP, slL, cfg0, get_flat_part lenP, get_flat_part lenL, get_flat_drop lenL, len_flat lenP, len_flat lenL, eqP]
    refine ⟨fun hlt => ⟨fun he => ?_, fun hne => ?_⟩, fun hge => ?_⟩
    · have := (firstAt_cons hlt hj).1 (by simp [he])
      refine endK.ret ?_ (by first | rfl | simp [belT, belP, bel_slI, bel_slL, bel_slP, bel_ints, bel_Ps, bel_Ls]); simp [evRes, getT, retV, Tryz.f52,  this, encIB]
    · refine ⟨j + 1, (firstAt_cons hlt hj).2 (by simp [hne]), by (try simp only); omega, ?_⟩; exact Gn.canon (by first | rfl | (simp [List.append_nil]; rfl)) (by simp [wk, slP, slL, slI]) (by simp [List.length_append]) (by simp [belT, belP, bel_slI, bel_slL, bel_slP, bel_ints, bel_Ps, bel_Ls]) (by simp [belT, belP, bel_slI, bel_slL, bel_slP, bel_ints, bel_Ps, bel_Ls])
    · refine endK.ret ?_ (by first | rfl | simp [belT, belP, bel_slI, bel_slL, bel_slP, bel_ints, bel_Ps, bel_Ls]); simp [evRes, getT, retV, Tryz.f52,  firstAt_end (by omega) hj, encIB]

theorem pc50 (t : Tp) (p : Int × Int) (hf : t.fit) : PC Tryz.prog 50 [.agg (encT t), .agg (encP p)] (encIB (hostAt t p)) := by
  have := hf.hosts
  refine PC.walk tok mixed cfg0 Tryz.func50 rfl Tryz.call50 (by simp [belT, belP, bel_slI, bel_slL, bel_slP, bel_ints, bel_Ps, bel_Ls]) (by first | rfl | simp [belT, belP, bel_slI, bel_slL, bel_slP, bel_ints, bel_Ps, bel_Ls]) ?_; simp (maxSteps := 2000000) -implicitDefEqProofs +contextual (disch := first | assumption | omega | decide +kernel) only [push_cast, ↓capI, br2_true, br2_false, frk_tt, frk_tf, frk_f, frkD_tt, frkD_tf, frkD_f, pk2_true, pk2_false, imp_true, seval, Nat.reduceLeDiff, Nat.reduceEqDiff, reduceCtorEq, ↓reduceIte, encT, encP, encL, slI, slP, slL, cfg0, get_flat_part lenP, get_flat_part lenL, get_flat_drop lenL, len_flat lenP, len_flat lenL, eqP, Tryz.ntmps50]
  refine T.lp tok mixed cfg0 (fun (j : Nat) => dd 3 (kp 1 (dd 5 (kp 2 (sv (.int .i64 j) (dd 9 (nl))))))) (fun H0 (j : Nat) => H0) (fun (j : Nat) => firstAt (fun h => decide (h = p)) (t.hosts.drop j) j = hostAt t p) (fun (j : Nat) => t.hosts.length - j) (0) ?_ ?_ ?_
  · rfl
  · exact Gn.canon (J := _) (by first | rfl | (simp [List.append_nil]; done) | (simp [List.append_nil]; rfl)) (by simp [wk, slP, slL, slI, putT, kp, dd, sv, nl]) (by simp [List.length_append]) (by simp [belT, belP, bel_slI, bel_slL, bel_slP, bel_ints, bel_Ps, bel_Ls, kp, dd, sv, nl]) (by simp [belT, belP, bel_slI, bel_slL, bel_slP, bel_ints, bel_Ps, bel_Ls])
  · intro j hj
    simp (maxSteps := 2000000) -implicitDefEqProofs +contextual (disch := first | assumption | omega | decide +kernel) only [push_cast, ↓capI, br2_true, br2_false, frk_tt, frk_tf, frk_f, frkD_tt, frkD_tf, frkD_f, pk2_true, pk2_false, imp_true, seval, Nat.reduceLeDiff, Nat.reduceEqDiff, reduceCtorEq, ↓reduceIte, encT, encP, encL, slI, slP, slL, cfg0, get_flat_part lenP, get_flat_part lenL, get_flat_drop lenL, len_flat lenP, len_flat lenL, eqP]
    refine ⟨fun hlt => ⟨fun he => ?_, fun hne => ?_⟩, fun hge => ?_⟩
    · have := (firstAt_cons hlt hj).1 (by simp [he])
      refine endK.ret ?_ (by first | rfl | simp [belT, belP, bel_slI, bel_slL, bel_slP, bel_ints, bel_Ps, bel_Ls]); simp [evRes, getT, retV, Tryz.f50,  this, encIB]
    · refine ⟨j + 1, (firstAt_cons hlt hj).2 (by simp [hne]), by (try simp only); omega, ?_⟩; exact Gn.canon (by first | rfl | (simp [List.append_nil]; rfl)) (by simp [wk, slP, slL, slI]) (by simp [List.length_append]) (by simp [belT, belP, bel_slI, bel_slL, bel_slP, bel_ints, bel_Ps, bel_Ls]) (by simp [belT, belP, bel_slI, bel_slL, bel_slP, bel_ints, bel_Ps, bel_Ls])
    · refine endK.ret ?_ (by first | rfl | simp [belT, belP, bel_slI, bel_slL, bel_slP, bel_ints, bel_Ps, bel_Ls]); simp [evRes, getT, retV, Tryz.f50,  firstAt_end (by omega) hj, encIB]

theorem pc62 (t : Tp) (p : Int × Int) (hf : t.fit) : PC Tryz.prog 62 [.agg (encT t), .agg (encP p)] (encIB (linkAt t p)) := by
  have := hf.links
  refine PC.walk tok mixed cfg0 Tryz.func62 rfl Tryz.call62 (by simp [belT, belP, bel_slI, bel_slL, bel_slP, bel_ints, bel_Ps, bel_Ls]) (by first | rfl | simp [belT, belP, bel_slI, bel_slL, bel_slP, bel_ints, bel_Ps, bel_Ls]) ?_; simp (maxSteps := 2000000) -implicitDefEqProofs +contextual (disch := first | assumption | omega | decide +kernel) only [push_cast, ↓capI, br2_true, br2_false, frk_tt, frk_tf, frk_f, frkD_tt, frkD_tf, frkD_f, pk2_true, pk2_false, imp_true, seval, Nat.reduceLeDiff, Nat.reduceEqDiff, reduceCtorEq, ↓reduceIte, encT, encP, encL, slI, slP, slL, cfg0, get_flat_part lenP, get_flat_part lenL, get_flat_drop lenL, len_flat lenP, len_flat lenL, eqP, Tryz.ntmps62]
  refine T.lp tok mixed cfg0 (fun (j : Nat) => dd 2 (kp 2 (dd 2 (sv (.int .i64 j) (dd 26 (nl)))))) (fun H0 (j : Nat) => H0) (fun (j : Nat) => firstAt (fun l => decide (l.a = p) || decide (l.b = p)) (t.links.drop j) j = linkAt t p) (fun (j : Nat) => t.links.length - j) (0) ?_ ?_ ?_
  · rfl
  · exact Gn.canon (J := _) (by first | rfl | (simp [List.append_nil]; done) | (simp [List.append_nil]; rfl)) (by simp [wk, slP, slL, slI, putT, kp, dd, sv, nl]) (by simp [List.length_append]) (by simp [belT, belP, bel_slI, bel_slL, bel_slP, bel_ints, bel_Ps, bel_Ls, kp, dd, sv, nl]) (by simp [belT, belP, bel_slI, bel_slL, bel_slP, bel_ints, bel_Ps, bel_Ls])
  · intro j hj
    simp (maxSteps := 2000000) -implicitDefEqProofs +contextual (disch := first | assumption | omega | decide +kernel) only [push_cast, ↓capI, br2_true, br2_false, frk_tt, frk_tf, frk_f, frkD_tt, frkD_tf, frkD_f, pk2_true, pk2_false, imp_true, seval, Nat.reduceLeDiff, Nat.reduceEqDiff, reduceCtorEq, ↓reduceIte, encT, encP, encL, slI, slP, slL, cfg0, get_flat_part lenP, get_flat_part lenL, get_flat_drop lenL, len_flat lenP, len_flat lenL, eqP]
    refine ⟨fun hlt => ?_, fun hge => ?_⟩
    · have hc := firstAt_cons hlt hj
      repeat' (first | intro _ | refine And.intro ?_ ?_)
      all_goals first
        | (have := hc.1 (by simp [*])
           refine endK.ret ?_ (by first | rfl | simp [belT, belP, bel_slI, bel_slL, bel_slP, bel_ints, bel_Ps, bel_Ls]); simp [evRes, getT, retV, Tryz.f62,  this, encIB]
           done)
        | refine ⟨j + 1, hc.2 (by simp [*]), by (try simp only); omega, ?_⟩; exact Gn.canon (by first | rfl | (simp [List.append_nil]; rfl)) (by simp [wk, slP, slL, slI]) (by simp [List.length_append]) (by simp [belT, belP, bel_slI, bel_slL, bel_slP, bel_ints, bel_Ps, bel_Ls]) (by simp [belT, belP, bel_slI, bel_slL, bel_slP, bel_ints, bel_Ps, bel_Ls])
    · refine endK.ret ?_ (by first | rfl | simp [belT, belP, bel_slI, bel_slL, bel_slP, bel_ints, bel_Ps, bel_Ls]); simp [evRes, getT, retV, Tryz.f62,  firstAt_end (by omega) hj, encIB]

theorem pc74 (t : Tp) (p : Int × Int) (hf : t.fit) : PC Tryz.prog 74 [.agg (encT t), .agg (encP p)] (encIB (linkAt t p)) := by
  have := hf.links
  refine PC.walk tok mixed cfg0 Tryz.func74 rfl Tryz.call74 (by simp [belT, belP, bel_slI, bel_slL, bel_slP, bel_ints, bel_Ps, bel_Ls]) (by first | rfl | simp [belT, belP, bel_slI, bel_slL, bel_slP, bel_ints, bel_Ps, bel_Ls]) ?_; simp (maxSteps := 2000000) -implicitDefEqProofs +contextual (disch := first | assumption | omega | decide +kernel) only [push_cast, ↓capI, br2_true, br2_false, frk_tt, frk_tf, frk_f, frkD_tt, frkD_tf, frkD_f, pk2_true, pk2_false, imp_true, seval, Nat.reduceLeDiff, Nat.reduceEqDiff, reduceCtorEq, ↓reduceIte, encT, encP, encL, slI, slP, slL, cfg0, get_flat_part lenP, get_flat_part lenL, get_flat_drop lenL, len_flat lenP, len_flat lenL, eqP, Tryz.ntmps74]
  refine T.lp tok mixed cfg0 (fun (j : Nat) => dd 3 (kp 1 (dd 5 (kp 2 (sv (.int .i64 j) (dd 16 (nl))))))) (fun H0 (j : Nat) => H0) (fun (j : Nat) => firstAt (fun l => decide (l.a = p) || decide (l.b = p)) (t.links.drop j) j = linkAt t p) (fun (j : Nat) => t.links.length - j) (0) ?_ ?_ ?_
  · rfl
  · exact Gn.canon (J := _) (by first | rfl | (simp [List.append_nil]; done) | (simp [List.append_nil]; rfl)) (by simp [wk, slP, slL, slI, putT, kp, dd, sv, nl]) (by simp [List.length_append]) (by simp [belT, belP, bel_slI, bel_slL, bel_slP, bel_ints, bel_Ps, bel_Ls, kp, dd, sv, nl]) (by simp [belT, belP, bel_slI, bel_slL, bel_slP, bel_ints, bel_Ps, bel_Ls])
  · intro j hj
    simp (maxSteps := 2000000) -implicitDefEqProofs +contextual (disch := first | assumption | omega | decide +kernel) only [push_cast, ↓capI, br2_true, br2_false, frk_tt, frk_tf, frk_f, frkD_tt, frkD_tf, frkD_f, pk2_true, pk2_false, imp_true, seval, Nat.reduceLeDiff, Nat.reduceEqDiff, reduceCtorEq, ↓reduceIte, encT, encP, encL, slI, slP, slL, cfg0, get_flat_part lenP, get_flat_part lenL, get_flat_drop lenL, len_flat lenP, len_flat lenL, eqP]
    refine ⟨fun hlt => ?_, fun hge => ?_⟩
    · have hc := firstAt_cons hlt hj
      repeat' (first | intro _ | refine And.intro ?_ ?_)
      all_goals first
        | (have := hc.1 (by simp [*])
           refine endK.ret ?_ (by first | rfl | simp [belT, belP, bel_slI, bel_slL, bel_slP, bel_ints, bel_Ps, bel_Ls]); simp [evRes, getT, retV, Tryz.f74,  this, encIB]
           done)
        | refine ⟨j + 1, hc.2 (by simp [*]), by (try simp only); omega, ?_⟩; exact Gn.canon (by first | rfl | (simp [List.append_nil]; rfl)) (by simp [wk, slP, slL, slI]) (by simp [List.length_append]) (by simp [belT, belP, bel_slI, bel_slL, bel_slP, bel_ints, bel_Ps, bel_Ls]) (by simp [belT, belP, bel_slI, bel_slL, bel_slP, bel_ints, bel_Ps, bel_Ls])
    · refine endK.ret ?_ (by first | rfl | simp [belT, belP, bel_slI, bel_slL, bel_slP, bel_ints, bel_Ps, bel_Ls]); simp [evRes, getT, retV, Tryz.f74,  firstAt_end (by omega) hj, encIB]
end Go.Proofs.YtafongdfnpnneaaGreatDoor.Top

/- Chapter 40: whether a port exists. -/
set_option maxRecDepth 100000
set_option linter.all false
namespace Go.Proofs.YtafongdfnpnneaaGreatDoor.Top
open Go.Vm

theorem pc31 (t : Tp) (p : Int × Int) : PC Tryz.prog 31 [.agg (encT t), .agg (encP p)] (.bool (has t p)) := by
  refine PC.walk tok mixed cfg0 Tryz.func31 rfl Tryz.call31 (by simp [belAll, V.bel, belT, belP]) rfl ?_
  simp (maxSteps := 2000000) -implicitDefEqProofs +contextual (disch := first | assumption | omega | decide +kernel) only [push_cast, ↓capI, br2_true, br2_false, frk_tt, frk_tf, frk_f, frkD_tt, frkD_tf, frkD_f, pk2_true, pk2_false, imp_true, seval, Nat.reduceLeDiff, Nat.reduceEqDiff, reduceCtorEq, ↓reduceIte, encT, encP, encL, slI, slP, slL, cfg0, Tryz.ntmps31, getI_int]
  repeat' (first | intro _ | refine And.intro ?_ ?_)
  all_goals
    refine endK.ret ?_ rfl
    simp only [evRes, getT, retV, Tryz.f31]
    simp [has, *]
theorem pc37 (t : Tp) (p : Int × Int) : PC Tryz.prog 37 [.agg (encT t), .agg (encP p)] (.bool (has t p)) := by
  refine PC.walk tok mixed cfg0 Tryz.func37 rfl Tryz.call37 (by simp [belAll, V.bel, belT, belP]) rfl ?_
  simp (maxSteps := 2000000) -implicitDefEqProofs +contextual (disch := first | assumption | omega | decide +kernel) only [push_cast, ↓capI, br2_true, br2_false, frk_tt, frk_tf, frk_f, frkD_tt, frkD_tf, frkD_f, pk2_true, pk2_false, imp_true, seval, Nat.reduceLeDiff, Nat.reduceEqDiff, reduceCtorEq, ↓reduceIte, encT, encP, encL, slI, slP, slL, cfg0, Tryz.ntmps37, getI_int]
  repeat' (first | intro _ | refine And.intro ?_ ?_)
  all_goals
    refine endK.ret ?_ rfl
    simp only [evRes, getT, retV, Tryz.f37]
    simp [has, *]
end Go.Proofs.YtafongdfnpnneaaGreatDoor.Top

/- Chapter 40: all uses of ports. -/
set_option maxRecDepth 100000
set_option linter.all false
namespace Go.Proofs.YtafongdfnpnneaaGreatDoor.Top
open Go.Vm

def endsOf (l : List Lk) : List (Int × Int) := l.flatMap fun x => [x.a, x.b]
def ends (t : Tp) : List (Int × Int) := endsOf t.links ++ t.hosts
theorem ones_P {g : Bool} {p : Prop} : ∀ {xs : List (Int × Int)}, ones g (xs.flatMap encP) p = p
  | [] => rfl
  | x :: xs => by simp only [List.flatMap_cons, encP, List.cons_append, List.nil_append, ones, V.one]; exact ones_P
theorem take_P {xs : List (Int × Int)} : (xs.flatMap encP).take (xs.length * 2) = xs.flatMap encP := by
  rw [List.take_of_length_le (by rw [len_flat lenP]; exact Nat.le_refl _)]
theorem endsOf_length (l : List Lk) : (endsOf l).length = 2 * l.length := by
  induction l with
  | nil => rfl
  | cons x l ih => simp only [endsOf, List.flatMap_cons, List.length_append, List.length_cons, List.length_nil] at ih ⊢; omega
theorem endsOf_take {l : List Lk} {j : Nat} (h : j < l.length) : endsOf (l.take (j + 1)) = endsOf (l.take j) ++ [l[j].a, l[j].b] := by
  unfold endsOf
  rw [List.take_add_one, List.getElem?_eq_getElem h, List.flatMap_append]
  rfl

theorem pc30 (t : Tp) (hf : t.fit) : PC Tryz.prog 30 [.agg (encT t)] (slP (ends t)) := by
  have hfl := hf.links
  have hfh := hf.hosts
  refine PC.walk tok mixed cfg0 Tryz.func30 rfl Tryz.call30 (by simp [belT, belP, bel_slI, bel_slL, bel_slP, bel_ints, bel_Ps, bel_Ls]) (by first | rfl | simp [belT, belP, bel_slI, bel_slL, bel_slP, bel_ints, bel_Ps, bel_Ls]) ?_; simp (maxSteps := 2000000) -implicitDefEqProofs +contextual (disch := first | assumption | omega | decide +kernel) only [push_cast, ↓capI, br2_true, br2_false, frk_tt, frk_tf, frk_f, frkD_tt, frkD_tf, frkD_f, pk2_true, pk2_false, imp_true, seval, Nat.reduceLeDiff, Nat.reduceEqDiff, reduceCtorEq, ↓reduceIte, encT, encP, encL, slI, slP, slL, cfg0, get_flat_part lenP, get_flat_part lenL, get_flat_drop lenL, len_flat lenP, len_flat lenL, eqP, endsOf_length, ones_P, take_P, Tryz.ntmps30]
  refine T.lp tok mixed cfg0 (fun ((j, ver) : Nat × Nat) => dd 1 (kp 1 (dd 1 (sv (.buf 1 ver 0 (2 * j) 2) (dd 3 (kp 2 (sv (.int .i64 j) (dd 15 (nl))))))))) (fun H0 ((j, ver) : Nat × Nat) => [.cells 0 (encT t), .cells ver ((endsOf (t.links.take j)).flatMap encP)]) (fun ((j, ver) : Nat × Nat) => j ≤ t.links.length) (fun ((j, ver) : Nat × Nat) => t.links.length - j) ((0, 0)) ?_ ?_ ?_
  · exact Nat.zero_le _
  · refine (Gn.ownNil (t := 3) (sz := 2) rfl).trans ?_
    exact Gn.canon (J := []) (by first | rfl | (simp [List.append_nil]; done) | (simp [List.append_nil]; rfl)) (by simp [wk, putT, kp, dd, sv, nl]) (by simp [List.length_append]) (by simp [belT, belP, bel_slI, bel_slL, bel_slP, bel_ints, bel_Ps, bel_Ls, kp, dd, sv, nl]) (by simp [belT, belP, bel_slI, bel_slL, bel_slP, bel_ints, bel_Ps, bel_Ls])
  · rintro ⟨j, ver⟩ hj
    simp only at hj
    simp (maxSteps := 2000000) -implicitDefEqProofs +contextual (disch := first | assumption | omega | decide +kernel) only [push_cast, ↓capI, br2_true, br2_false, frk_tt, frk_tf, frk_f, frkD_tt, frkD_tf, frkD_f, pk2_true, pk2_false, imp_true, seval, Nat.reduceLeDiff, Nat.reduceEqDiff, reduceCtorEq, ↓reduceIte, encT, encP, encL, slI, slP, slL, cfg0, get_flat_part lenP, get_flat_part lenL, get_flat_drop lenL, len_flat lenP, len_flat lenL, eqP, endsOf_length, ones_P, take_P]
    refine ⟨fun hlt => ?_, fun hge => ?_⟩
    · refine ⟨(j + 1, ver + 1), hlt, by simp only; omega, ?_⟩
      exact Gn.canon (J := [.cells 0 (encL t.links[j])]) (by simp [endsOf_take hlt, encP, encL, encT, slI, slL, slP]) (by simp [wk, slL, Nat.mul_add]) (by simp) (by simp [belT, belP, bel_slI, bel_slL, bel_slP, bel_ints, bel_Ps, bel_Ls]) (by simp [belT, belP, bel_slI, bel_slL, bel_slP, bel_ints, bel_Ps, bel_Ls])
    · obtain rfl : j = t.links.length := by omega
      refine endK.gn (Gn.freeze (id := 1) rfl) (endK.ret ?_ (bel_slP (ends t)))
      simp only [List.take_length, evRes, getT, retV, Tryz.f30, fzs, fz, Nat.beq_refl]
      simp only [List.drop_zero, Nat.beq]
      rw [List.take_of_length_le (by rw [List.length_append, len_flat lenP, len_flat lenP, endsOf_length]; omega)]
      simp [ends, endsOf_length, slP]
theorem pc36 (t : Tp) (hf : t.fit) : PC Tryz.prog 36 [.agg (encT t)] (slP (ends t)) := by
  have hfl := hf.links
  have hfh := hf.hosts
  refine PC.walk tok mixed cfg0 Tryz.func36 rfl Tryz.call36 (by simp [belT, belP, bel_slI, bel_slL, bel_slP, bel_ints, bel_Ps, bel_Ls]) (by first | rfl | simp [belT, belP, bel_slI, bel_slL, bel_slP, bel_ints, bel_Ps, bel_Ls]) ?_; simp (maxSteps := 2000000) -implicitDefEqProofs +contextual (disch := first | assumption | omega | decide +kernel) only [push_cast, ↓capI, br2_true, br2_false, frk_tt, frk_tf, frk_f, frkD_tt, frkD_tf, frkD_f, pk2_true, pk2_false, imp_true, seval, Nat.reduceLeDiff, Nat.reduceEqDiff, reduceCtorEq, ↓reduceIte, encT, encP, encL, slI, slP, slL, cfg0, get_flat_part lenP, get_flat_part lenL, get_flat_drop lenL, len_flat lenP, len_flat lenL, eqP, endsOf_length, ones_P, take_P, Tryz.ntmps36]
  refine T.lp tok mixed cfg0 (fun ((j, ver) : Nat × Nat) => dd 1 (kp 1 (dd 1 (sv (.buf 1 ver 0 (2 * j) 2) (sv (.int .i64 j) (dd 26 (nl))))))) (fun H0 ((j, ver) : Nat × Nat) => [.cells 0 (encT t), .cells ver ((endsOf (t.links.take j)).flatMap encP)]) (fun ((j, ver) : Nat × Nat) => j ≤ t.links.length) (fun ((j, ver) : Nat × Nat) => t.links.length - j) ((0, 0)) ?_ ?_ ?_
  · exact Nat.zero_le _
  · refine (Gn.ownNil (t := 3) (sz := 2) rfl).trans ?_
    exact Gn.canon (J := []) (by first | rfl | (simp [List.append_nil]; done) | (simp [List.append_nil]; rfl)) (by simp [wk, putT, kp, dd, sv, nl]) (by simp [List.length_append]) (by simp [belT, belP, bel_slI, bel_slL, bel_slP, bel_ints, bel_Ps, bel_Ls, kp, dd, sv, nl]) (by simp [belT, belP, bel_slI, bel_slL, bel_slP, bel_ints, bel_Ps, bel_Ls])
  · rintro ⟨j, ver⟩ hj
    simp only at hj
    simp (maxSteps := 2000000) -implicitDefEqProofs +contextual (disch := first | assumption | omega | decide +kernel) only [push_cast, ↓capI, br2_true, br2_false, frk_tt, frk_tf, frk_f, frkD_tt, frkD_tf, frkD_f, pk2_true, pk2_false, imp_true, seval, Nat.reduceLeDiff, Nat.reduceEqDiff, reduceCtorEq, ↓reduceIte, encT, encP, encL, slI, slP, slL, cfg0, get_flat_part lenP, get_flat_part lenL, get_flat_drop lenL, len_flat lenP, len_flat lenL, eqP, endsOf_length, ones_P, take_P]
    refine ⟨fun hlt => ?_, fun hge => ?_⟩
    · refine ⟨(j + 1, ver + 1), hlt, by simp only; omega, ?_⟩
      exact Gn.canon (J := []) (by simp [endsOf_take hlt, encP, encL, encT, slI, slL, slP]) (by simp [wk, slL, Nat.mul_add]) (by simp) (by simp [belT, belP, bel_slI, bel_slL, bel_slP, bel_ints, bel_Ps, bel_Ls]) (by simp [belT, belP, bel_slI, bel_slL, bel_slP, bel_ints, bel_Ps, bel_Ls])
    · obtain rfl : j = t.links.length := by omega
      refine endK.gn (Gn.freeze (id := 1) rfl) (endK.ret ?_ (bel_slP (ends t)))
      simp only [List.take_length, evRes, getT, retV, Tryz.f36, fzs, fz, Nat.beq_refl]
      simp only [List.drop_zero, Nat.beq]
      rw [List.take_of_length_le (by rw [List.length_append, len_flat lenP, len_flat lenP, endsOf_length]; omega)]
      simp [ends, endsOf_length, slP]
end Go.Proofs.YtafongdfnpnneaaGreatDoor.Top

/- Chapter 40: what a port is used for; whether a topology is small. -/
set_option maxRecDepth 100000
set_option linter.all false
namespace Go.Proofs.YtafongdfnpnneaaGreatDoor.Top
open Go.Vm

def small (t : Tp) : Bool := decide ((t.ports.length : Int) ≤ 20) && (decide ((t.links.length : Int) ≤ 40) && decide ((t.hosts.length : Int) ≤ 20))
theorem small_fit {t : Tp} (h : small t = true) : t.fit := by
  simp only [small, Bool.and_eq_true, decide_eq_true_eq] at h
  exact ⟨by omega, by omega, by omega⟩

theorem pc4 (t : Tp) : PC Tryz.prog 4 [.agg (encT t)] (.bool (small t)) := by
  refine PC.walk tok mixed cfg0 Tryz.func4 rfl Tryz.call4 (by simp [belAll, V.bel, belT, belP]) rfl ?_
  simp (maxSteps := 2000000) -implicitDefEqProofs +contextual (disch := first | assumption | omega | decide +kernel) only [push_cast, ↓capI, br2_true, br2_false, frk_tt, frk_tf, frk_f, frkD_tt, frkD_tf, frkD_f, pk2_true, pk2_false, imp_true, seval, Nat.reduceLeDiff, Nat.reduceEqDiff, reduceCtorEq, ↓reduceIte, encT, encP, encL, slI, slP, slL, cfg0, get_flat_part lenP, get_flat_part lenL, get_flat_drop lenL, len_flat lenP, len_flat lenL, eqP, Tryz.ntmps4]
  repeat' (first | intro _ | refine And.intro ?_ ?_)
  all_goals
    refine endK.ret ?_ rfl
    simp only [evRes, getT, retV, Tryz.f4]
    simp [small, *]

/-- (kind, index) -/
def useOf (t : Tp) (p : Int × Int) : Int × Int := if (linkAt t p).2 then (1, (linkAt t p).1) else if (hostAt t p).2 then (2, (hostAt t p).1) else (0, 0)
def encII (r : Int × Int) : V := .tup [.int .i64 r.1, .int .i64 r.2]

theorem pc61 (t : Tp) (p : Int × Int) (hf : t.fit) : PC Tryz.prog 61 [.agg (encT t), .agg (encP p)] (encII (useOf t p)) := by
  refine PC.walk tok mixed cfg0 Tryz.func61 rfl Tryz.call61 (by simp [belAll, V.bel, belT, belP]) rfl ?_
  simp (maxSteps := 2000000) -implicitDefEqProofs +contextual (disch := first | assumption | omega | decide +kernel) only [push_cast, ↓capI, br2_true, br2_false, frk_tt, frk_tf, frk_f, frkD_tt, frkD_tf, frkD_f, pk2_true, pk2_false, imp_true, seval, Nat.reduceLeDiff, Nat.reduceEqDiff, reduceCtorEq, ↓reduceIte, encT, encP, encL, slI, slP, slL, cfg0, get_flat_part lenP, get_flat_part lenL, get_flat_drop lenL, len_flat lenP, len_flat lenL, eqP, Tryz.ntmps61]
  refine callO.pc (pc74 t p hf) ?_
  simp (maxSteps := 2000000) -implicitDefEqProofs +contextual (disch := first | assumption | omega | decide +kernel) only [push_cast, ↓capI, br2_true, br2_false, frk_tt, frk_tf, frk_f, frkD_tt, frkD_tf, frkD_f, pk2_true, pk2_false, imp_true, seval, Nat.reduceLeDiff, Nat.reduceEqDiff, reduceCtorEq, ↓reduceIte, encT, encP, encL, slI, slP, slL, cfg0, get_flat_part lenP, get_flat_part lenL, get_flat_drop lenL, len_flat lenP, len_flat lenL, eqP, encIB]
  refine ⟨fun h => ?_, fun h => callO.pc (pc50 t p hf) ?_⟩
  · refine endK.ret ?_ rfl
    simp [evRes, getT, retV, Tryz.f61, useOf, encII, h]
  simp (maxSteps := 2000000) -implicitDefEqProofs +contextual (disch := first | assumption | omega | decide +kernel) only [push_cast, ↓capI, br2_true, br2_false, frk_tt, frk_tf, frk_f, frkD_tt, frkD_tf, frkD_f, pk2_true, pk2_false, imp_true, seval, Nat.reduceLeDiff, Nat.reduceEqDiff, reduceCtorEq, ↓reduceIte, encT, encP, encL, slI, slP, slL, cfg0, get_flat_part lenP, get_flat_part lenL, get_flat_drop lenL, len_flat lenP, len_flat lenL, eqP, encIB]
  repeat' (first | intro _ | refine And.intro ?_ ?_)
  all_goals
    refine endK.ret ?_ rfl
    simp [evRes, getT, retV, Tryz.f61, useOf, encII, *]
end Go.Proofs.YtafongdfnpnneaaGreatDoor.Top

/- Chapter 40: whether two topologies are equal. -/
set_option maxRecDepth 100000
set_option linter.all false
namespace Go.Proofs.YtafongdfnpnneaaGreatDoor.Top
open Go.Vm

theorem eqL {x y : Lk} : (x.a.1 == y.a.1 && (x.a.2 == y.a.2 && (x.b.1 == y.b.1 && (x.b.2 == y.b.2 && (x.dn == y.dn))))) = decide (x = y) := by
  obtain ⟨⟨a1, a2⟩, ⟨b1, b2⟩, d⟩ := x
  obtain ⟨⟨c1, c2⟩, ⟨e1, e2⟩, f⟩ := y
  simp only [Lk.mk.injEq, Prod.mk.injEq, Bool.decide_and, Bool.and_assoc]
  rfl
theorem Tp.ext' {a b : Tp} (h1 : a.ports = b.ports) (h2 : a.links = b.links) (h3 : a.hosts = b.hosts) : a = b := by
  cases a; cases b; simp_all

end Go.Proofs.YtafongdfnpnneaaGreatDoor.Top

/- Chapter 40: copies of a topology. -/
set_option maxRecDepth 100000
set_option linter.all false
namespace Go.Proofs.YtafongdfnpnneaaGreatDoor.Top
open Go.Vm

theorem ones_L {g : Bool} {p : Prop} : ∀ {xs : List Lk}, ones g (xs.flatMap encL) p = p
  | [] => rfl
  | x :: xs => by simp only [List.flatMap_cons, encL, List.cons_append, List.nil_append, ones, V.one]; exact ones_L
theorem ones_I {g : Bool} {p : Prop} : ∀ {xs : List Int}, ones g (xs.map (V.int .i64)) p = p
  | [] => rfl
  | x :: xs => by simp only [List.map_cons, ones, V.one]; exact ones_I
theorem take_L {xs : List Lk} : (xs.flatMap encL).take (xs.length * 5) = xs.flatMap encL := by
  rw [List.take_of_length_le (by rw [len_flat lenL]; exact Nat.le_refl _)]
theorem take_I {xs : List Int} : (xs.map (V.int .i64)).take (xs.length * 1) = xs.map (V.int .i64) := by
  rw [List.take_of_length_le (by rw [List.length_map, Nat.mul_one]; exact Nat.le_refl _)]
def cfg26 : Cfg := { lv := [], ef := [], ord := [(1, [0, 1, 3, 4, 6, 7, 2, 5, 8, 9, 10])], em := [] }

/-- the values and the objects of a copy: its lists begin at object k -/
def bufT (k : Nat) (t : Tp) : List V := [.buf k 0 0 t.ports.length 1, .buf (k + 1) 0 0 t.links.length 5, .buf (k + 2) 0 0 t.hosts.length 2]
def obsT (t : Tp) : List Ob := [.cells 0 (t.ports.map (V.int .i64)), .cells 0 (t.links.flatMap encL), .cells 0 (t.hosts.flatMap encP)]

theorem pcj32 (t : Tp) (hf : t.fit) (hp : t.ports.length ≤ 4000000000) : PCJ Tryz.prog 32 [.agg (encT t)] (.agg (bufT 2 t)) (.dead :: .dead :: obsT t) := by
  have ha2 := hf.links
  have ha3 := hf.hosts
  refine PCJ.walk tok mixed cfg26 Tryz.func32 rfl Tryz.call32 (by simp [belT, belP, bel_slI, bel_slL, bel_slP, bel_ints, bel_Ps, bel_Ls]) ?_; simp (maxSteps := 2000000) -implicitDefEqProofs +contextual (disch := first | assumption | omega | decide +kernel) only [push_cast, ↓capI, br2_true, br2_false, frk_tt, frk_tf, frk_f, frkD_tt, frkD_tf, frkD_f, pk2_true, pk2_false, imp_true, seval, Nat.reduceLeDiff, Nat.reduceEqDiff, reduceCtorEq, ↓reduceIte, encT, encP, encL, slI, slP, slL, cfg0, get_flat_part lenP, get_flat_part lenL, get_flat_drop lenL, len_flat lenP, len_flat lenL, eqP, eqL, getI_nat, ones_P, ones_L, ones_I, take_P, take_L, take_I, Tryz.ntmps32, cfg26]
  refine endJ.gn (Gn.freeze (id := 0) rfl) ?_; refine endJ.gn (Gn.freeze (id := 1) rfl) ?_; refine endJ.ret ([]) (by simp [belT, belP, bel_slI, bel_slL, bel_slP, bel_ints, bel_Ps, bel_Ls, fzs_ok, getO, setO, fzs, fz, fzH, Nat.beq, tt_26, tt_61, tt_22, tt_23, tt_24, tt_3, tt_4, tt_85, encT, encP, encL, slI, slP, slL, cfg0, get_flat_part lenP, get_flat_part lenL, get_flat_drop lenL, len_flat lenP, len_flat lenL, eqP, eqL, getI_nat, ones_P, ones_L, ones_I, take_P, take_L, take_I, bufT, obsT]) (by simp [belT, belP, bel_slI, bel_slL, bel_slP, bel_ints, bel_Ps, bel_Ls, fzs_ok, imp, lenOK_iff, List.take_of_length_le, evRes, getT, getO, setO, fzs, fz, fzH, Nat.beq, retV, Res.then, ldT, ldR, mkV, getV, tt_26, tt_61, tt_22, tt_23, tt_24, tt_3, tt_4, tt_85, encT, encP, encL, slI, slP, slL, cfg0, get_flat_part lenP, get_flat_part lenL, get_flat_drop lenL, len_flat lenP, len_flat lenL, eqP, eqL, getI_nat, ones_P, ones_L, ones_I, take_P, take_L, take_I, Tryz.f32, bufT, obsT]) (by first | rfl | simp [belT, belP, bel_slI, bel_slL, bel_slP, bel_ints, bel_Ps, bel_Ls, bufT, obsT]) (by first | rfl | simp [belT, belP, bel_slI, bel_slL, bel_slP, bel_ints, bel_Ps, bel_Ls, bufT, obsT])
theorem pcj54 (t : Tp) (hf : t.fit) (hp : t.ports.length ≤ 4000000000) : PCJ Tryz.prog 54 [.agg (encT t)] (.agg (bufT 3 t)) (.dead :: .dead :: .dead :: obsT t) := by
  have ha2 := hf.links
  have ha3 := hf.hosts
  refine PCJ.walk tok mixed cfg0 Tryz.func54 rfl Tryz.call54 (by simp [belT, belP, bel_slI, bel_slL, bel_slP, bel_ints, bel_Ps, bel_Ls]) ?_; simp (maxSteps := 2000000) -implicitDefEqProofs +contextual (disch := first | assumption | omega | decide +kernel) only [push_cast, ↓capI, br2_true, br2_false, frk_tt, frk_tf, frk_f, frkD_tt, frkD_tf, frkD_f, pk2_true, pk2_false, imp_true, seval, Nat.reduceLeDiff, Nat.reduceEqDiff, reduceCtorEq, ↓reduceIte, encT, encP, encL, slI, slP, slL, cfg0, get_flat_part lenP, get_flat_part lenL, get_flat_drop lenL, len_flat lenP, len_flat lenL, eqP, eqL, getI_nat, ones_P, ones_L, ones_I, take_P, take_L, take_I, Tryz.ntmps54]
  refine endJ.gn (Gn.freeze (id := 0) rfl) ?_; refine endJ.gn (Gn.freeze (id := 1) rfl) ?_; refine endJ.gn (Gn.freeze (id := 2) rfl) ?_; refine endJ.ret ([]) (by simp [belT, belP, bel_slI, bel_slL, bel_slP, bel_ints, bel_Ps, bel_Ls, fzs_ok, getO, setO, fzs, fz, fzH, Nat.beq, tt_26, tt_61, tt_22, tt_23, tt_24, tt_3, tt_4, tt_85, encT, encP, encL, slI, slP, slL, cfg0, get_flat_part lenP, get_flat_part lenL, get_flat_drop lenL, len_flat lenP, len_flat lenL, eqP, eqL, getI_nat, ones_P, ones_L, ones_I, take_P, take_L, take_I, bufT, obsT]) (by simp [belT, belP, bel_slI, bel_slL, bel_slP, bel_ints, bel_Ps, bel_Ls, fzs_ok, imp, lenOK_iff, List.take_of_length_le, evRes, getT, getO, setO, fzs, fz, fzH, Nat.beq, retV, Res.then, ldT, ldR, mkV, getV, tt_26, tt_61, tt_22, tt_23, tt_24, tt_3, tt_4, tt_85, encT, encP, encL, slI, slP, slL, cfg0, get_flat_part lenP, get_flat_part lenL, get_flat_drop lenL, len_flat lenP, len_flat lenL, eqP, eqL, getI_nat, ones_P, ones_L, ones_I, take_P, take_L, take_I, Tryz.f54, bufT, obsT]) (by first | rfl | simp [belT, belP, bel_slI, bel_slL, bel_slP, bel_ints, bel_Ps, bel_Ls, bufT, obsT]) (by first | rfl | simp [belT, belP, bel_slI, bel_slL, bel_slP, bel_ints, bel_Ps, bel_Ls, bufT, obsT])
theorem pc32 (t : Tp) (hf : t.fit) (hp : t.ports.length ≤ 4000000000) : PC Tryz.prog 32 [.agg (encT t)] (.agg (encT t)) := by
  have ha2 := hf.links
  have ha3 := hf.hosts
  refine PC.walk tok mixed cfg26 Tryz.func32 rfl Tryz.call32 (by simp [belT, belP, bel_slI, bel_slL, bel_slP, bel_ints, bel_Ps, bel_Ls]) (by first | rfl | simp [belT, belP, bel_slI, bel_slL, bel_slP, bel_ints, bel_Ps, bel_Ls]) ?_; simp (maxSteps := 2000000) -implicitDefEqProofs +contextual (disch := first | assumption | omega | decide +kernel) only [push_cast, ↓capI, br2_true, br2_false, frk_tt, frk_tf, frk_f, frkD_tt, frkD_tf, frkD_f, pk2_true, pk2_false, imp_true, seval, Nat.reduceLeDiff, Nat.reduceEqDiff, reduceCtorEq, ↓reduceIte, encT, encP, encL, slI, slP, slL, cfg0, get_flat_part lenP, get_flat_part lenL, get_flat_drop lenL, len_flat lenP, len_flat lenL, eqP, eqL, getI_nat, ones_P, ones_L, ones_I, take_P, take_L, take_I, Tryz.ntmps32, cfg26]
  refine endK.gn (Gn.freeze (id := 2) rfl) ?_; refine endK.gn (Gn.freeze (id := 3) rfl) ?_; refine endK.gn (Gn.freeze (id := 4) rfl) ?_; refine endK.ret ?_ (by first | rfl | simp [belT, belP, bel_slI, bel_slL, bel_slP, bel_ints, bel_Ps, bel_Ls]); simp [belT, belP, bel_slI, bel_slL, bel_slP, bel_ints, bel_Ps, bel_Ls, fzs_ok, imp, lenOK_iff, List.take_of_length_le, evRes, getT, getO, setO, fzs, fz, fzH, Nat.beq, retV, Res.then, ldT, ldR, mkV, getV, tt_26, tt_61, tt_22, tt_23, tt_24, tt_3, tt_4, tt_85, encT, encP, encL, slI, slP, slL, cfg0, get_flat_part lenP, get_flat_part lenL, get_flat_drop lenL, len_flat lenP, len_flat lenL, eqP, eqL, getI_nat, ones_P, ones_L, ones_I, take_P, take_L, take_I, Tryz.f32]
theorem pc54 (t : Tp) (hf : t.fit) (hp : t.ports.length ≤ 4000000000) : PC Tryz.prog 54 [.agg (encT t)] (.agg (encT t)) := by
  have ha2 := hf.links
  have ha3 := hf.hosts
  refine PC.walk tok mixed cfg0 Tryz.func54 rfl Tryz.call54 (by simp [belT, belP, bel_slI, bel_slL, bel_slP, bel_ints, bel_Ps, bel_Ls]) (by first | rfl | simp [belT, belP, bel_slI, bel_slL, bel_slP, bel_ints, bel_Ps, bel_Ls]) ?_; simp (maxSteps := 2000000) -implicitDefEqProofs +contextual (disch := first | assumption | omega | decide +kernel) only [push_cast, ↓capI, br2_true, br2_false, frk_tt, frk_tf, frk_f, frkD_tt, frkD_tf, frkD_f, pk2_true, pk2_false, imp_true, seval, Nat.reduceLeDiff, Nat.reduceEqDiff, reduceCtorEq, ↓reduceIte, encT, encP, encL, slI, slP, slL, cfg0, get_flat_part lenP, get_flat_part lenL, get_flat_drop lenL, len_flat lenP, len_flat lenL, eqP, eqL, getI_nat, ones_P, ones_L, ones_I, take_P, take_L, take_I, Tryz.ntmps54]
  refine endK.gn (Gn.freeze (id := 3) rfl) ?_; refine endK.gn (Gn.freeze (id := 4) rfl) ?_; refine endK.gn (Gn.freeze (id := 5) rfl) ?_; refine endK.ret ?_ (by first | rfl | simp [belT, belP, bel_slI, bel_slL, bel_slP, bel_ints, bel_Ps, bel_Ls]); simp [belT, belP, bel_slI, bel_slL, bel_slP, bel_ints, bel_Ps, bel_Ls, fzs_ok, imp, lenOK_iff, List.take_of_length_le, evRes, getT, getO, setO, fzs, fz, fzH, Nat.beq, retV, Res.then, ldT, ldR, mkV, getV, tt_26, tt_61, tt_22, tt_23, tt_24, tt_3, tt_4, tt_85, encT, encP, encL, slI, slP, slL, cfg0, get_flat_part lenP, get_flat_part lenL, get_flat_drop lenL, len_flat lenP, len_flat lenL, eqP, eqL, getI_nat, ones_P, ones_L, ones_I, take_P, take_L, take_I, Tryz.f54]
end Go.Proofs.YtafongdfnpnneaaGreatDoor.Top

/- Chapter 40: which error a topology has. -/
set_option maxRecDepth 100000
set_option linter.all false
namespace Go.Proofs.YtafongdfnpnneaaGreatDoor.Top
open Go.Vm

theorem lenI_nat {l : List Int} {i : Nat} (h : i < l.length) : 1 ≤ ((l.map (V.int .i64)).drop (i * 1)).length := by
  rw [List.length_drop, List.length_map]; omega
def badN (n : Int) : Bool := decide (n < 1) || decide (16 < n)
def dup : List (Int × Int) → List (Int × Int) → Bool
  | _, [] => false
  | pre, a :: r => pre.any (fun b => decide (a = b)) || dup (pre ++ [a]) r
def chk1 (t : Tp) : Int :=
  if t.ports.any badN then 9 else if (ends t).any (fun a => !has t a) then 9 else if dup [] (ends t) then 7 else if t.links.any (fun l => decide (l.a.1 = l.b.1)) then 2 else 0
def chk (t : Tp) : Int :=
  if (t.ports.length : Int) = 0 then 8 else if 16 < (t.ports.length : Int) then 12 else if 32 < (t.links.length : Int) then 12 else if 16 < (t.hosts.length : Int) then 12 else chk1 t

theorem any_cons {α : Type} {f : α → Bool} {l : List α} {j : Nat} {r : Bool} (h : j < l.length) (hr : (l.drop j).any f = r) : (f l[j] = true → r = true) ∧ (f l[j] = false → (l.drop (j + 1)).any f = r) := by
  rw [drop_cons h, List.any_cons] at hr
  cases hf : f l[j] with
  | true => rw [hf] at hr; exact ⟨fun _ => by simpa using hr.symm, fun h => by simp at h⟩
  | false => rw [hf] at hr; exact ⟨fun h => by simp at h, fun _ => by simpa using hr⟩
theorem any_end {α : Type} {f : α → Bool} {l : List α} {j : Nat} {r : Bool} (h : ¬ j < l.length) (hr : (l.drop j).any f = r) : r = false := by
  rw [List.drop_of_length_le (by omega)] at hr; exact hr.symm

theorem pc15 (t : Tp) (hf : t.fit) : PC Tryz.prog 15 [.agg (encT t)] (.int .i64 (chk t)) := by
  refine PC.walk tok mixed cfg0 Tryz.func15 rfl Tryz.call15 (by simp [belAll, V.bel, belT, belP]) rfl ?_
  have hfp := hf.ports
  have hfl := hf.links
  have hfh := hf.hosts
  simp (maxSteps := 2000000) -implicitDefEqProofs +contextual (disch := first | assumption | omega | decide +kernel) only [push_cast, ↓capI, br2_true, br2_false, frk_tt, frk_tf, frk_f, frkD_tt, frkD_tf, frkD_f, pk2_true, pk2_false, imp_true, seval, Nat.reduceLeDiff, Nat.reduceEqDiff, reduceCtorEq, ↓reduceIte, encT, encP, encL, slI, slP, slL, cfg0, get_flat_part lenP, get_flat_part lenL, get_flat_drop lenL, len_flat lenP, len_flat lenL, eqP, getI_nat, Tryz.ntmps15]
  repeat' (first | intro _ | refine And.intro ?_ ?_)
  all_goals try (refine endK.ret ?_ rfl; simp only [evRes, getT, retV, Tryz.f15, chk, *, ↓reduceIte]; done)
  have hc : chk t = chk1 t := by simp only [chk, *, ↓reduceIte]
  rw [hc]
  refine T.rounds tok mixed cfg0 (fun j : Nat => ⟨(.dead :: .ptr 0 0 0 :: .int .i64 0 :: .dead :: .dead :: .dead :: .dead :: .dead :: .dead :: .dead :: .dead :: .dead :: .dead :: .dead :: .dead :: .dead :: .dead :: .dead :: .dead :: .dead :: .dead :: .dead :: .dead :: .dead :: .dead :: .dead :: .dead :: .dead :: .dead :: .dead :: .dead :: .dead :: .dead :: .dead :: .dead :: slI t.ports :: .int .i64 t.ports.length :: .int .i64 j :: .dead :: .dead :: .dead :: .dead :: .dead :: .dead :: .dead :: .dead :: .dead :: .dead :: .dead :: .dead :: .dead :: .dead :: .dead :: .dead :: .dead :: .dead :: .dead :: .dead :: .dead :: .dead :: .dead :: .dead :: .dead :: .dead :: .dead :: .dead :: .dead :: .dead :: .dead :: .dead :: .dead :: .dead :: .dead :: .dead :: .dead :: .dead :: .dead :: .dead :: .dead :: .dead :: .dead :: .dead :: .dead :: .dead :: .dead :: .dead :: .dead :: .dead :: .dead :: .dead :: .dead :: .dead :: .dead :: .dead :: .dead :: .dead :: []), [.cells 0 (encT t)]⟩)
    (fun j => (t.ports.drop j).any badN = t.ports.any badN) (fun j => t.ports.length - j) 0 ?_ rfl ?_
  · exact Gn.canon (J := []) rfl (by simp [wk, slI]) (by simp) (by simp [belT, belP, bel_slI, bel_slL, bel_slP, bel_ints, bel_Ps, bel_Ls]) (by simp [belT, belP, bel_slI, bel_slL, bel_slP, bel_ints, bel_Ps, bel_Ls])
  intro j hj
  simp (maxSteps := 2000000) -implicitDefEqProofs +contextual (disch := first | assumption | omega | decide +kernel) only [push_cast, ↓capI, br2_true, br2_false, frk_tt, frk_tf, frk_f, frkD_tt, frkD_tf, frkD_f, pk2_true, pk2_false, imp_true, seval, Nat.reduceLeDiff, Nat.reduceEqDiff, reduceCtorEq, ↓reduceIte, encT, encP, encL, slI, slP, slL, cfg0, get_flat_part lenP, get_flat_part lenL, get_flat_drop lenL, len_flat lenP, len_flat lenL, eqP, getI_nat]
  refine ⟨fun hlt => ?_, fun hge => ?_⟩
  · have hx := any_cons hlt hj
    repeat' (first | intro _ | refine And.intro ?_ ?_)
    all_goals first
      | (refine endK.ret ?_ rfl
         have := hx.1 (by simp [badN, *])
         simp [evRes, getT, retV, Tryz.f15, chk1, this]
         done)
      | (refine ⟨j + 1, hx.2 (by simp [badN, *]), by simp only; omega, ?_⟩
         refine Gn.canon (J := []) rfl ?_ (by simp) (by simp [belT, belP, bel_slI, bel_slL, bel_slP, bel_ints, bel_Ps, bel_Ls]) (by simp [belT, belP, bel_slI, bel_slL, bel_slP, bel_ints, bel_Ps, bel_Ls])
         skip
         simp [wk, slI])
  have h1 := any_end hge hj
  clear hge hj
  refine callO.pc (pc30 t hf) ?_
  simp (maxSteps := 2000000) -implicitDefEqProofs +contextual (disch := first | assumption | omega | decide +kernel) only [push_cast, ↓capI, br2_true, br2_false, frk_tt, frk_tf, frk_f, frkD_tt, frkD_tf, frkD_f, pk2_true, pk2_false, imp_true, seval, Nat.reduceLeDiff, Nat.reduceEqDiff, reduceCtorEq, ↓reduceIte, encT, encP, encL, slI, slP, slL, cfg0, get_flat_part lenP, get_flat_part lenL, get_flat_drop lenL, len_flat lenP, len_flat lenL, eqP, getI_nat]
  refine T.rounds tok mixed cfg0 (fun j : Nat => ⟨(.dead :: .ptr 0 0 0 :: .int .i64 0 :: .dead :: .dead :: slP (ends t) :: .dead :: .dead :: .dead :: .dead :: .dead :: .dead :: .dead :: .dead :: .dead :: .dead :: .dead :: .dead :: .dead :: .dead :: .dead :: .dead :: .dead :: .dead :: .dead :: .dead :: .dead :: .dead :: .dead :: .dead :: .dead :: .dead :: .dead :: .dead :: .dead :: .dead :: .dead :: .dead :: .dead :: .dead :: .dead :: .dead :: .dead :: .dead :: .dead :: .dead :: .dead :: .dead :: .dead :: .dead :: slP (ends t) :: .int .i64 (ends t).length :: .int .i64 j :: .dead :: .dead :: .dead :: .dead :: .dead :: .dead :: .dead :: .dead :: .dead :: .dead :: .dead :: .dead :: .dead :: .dead :: .dead :: .dead :: .dead :: .dead :: .dead :: .dead :: .dead :: .dead :: .dead :: .dead :: .dead :: .dead :: .dead :: .dead :: .dead :: .dead :: .dead :: .dead :: .dead :: .dead :: .dead :: .dead :: .dead :: .dead :: .dead :: .dead :: .dead :: .dead :: .dead :: []), [.cells 0 (encT t)]⟩)
    (fun j => ((ends t).drop j).any (fun a => !has t a) = (ends t).any (fun a => !has t a)) (fun j => (ends t).length - j) 0 ?_ rfl ?_
  · exact Gn.canon (J := []) rfl (by simp [wk, slP]) (by simp) (by simp [belT, belP, bel_slI, bel_slL, bel_slP, bel_ints, bel_Ps, bel_Ls]) (by simp [belT, belP, bel_slI, bel_slL, bel_slP, bel_ints, bel_Ps, bel_Ls])
  have hle : (ends t).length ≤ 20000000000 := by simp only [ends, List.length_append, endsOf_length]; omega
  intro j hj
  simp (maxSteps := 2000000) -implicitDefEqProofs +contextual (disch := first | assumption | omega | decide +kernel) only [push_cast, ↓capI, br2_true, br2_false, frk_tt, frk_tf, frk_f, frkD_tt, frkD_tf, frkD_f, pk2_true, pk2_false, imp_true, seval, Nat.reduceLeDiff, Nat.reduceEqDiff, reduceCtorEq, ↓reduceIte, encT, encP, encL, slI, slP, slL, cfg0, get_flat_part lenP, get_flat_part lenL, get_flat_drop lenL, len_flat lenP, len_flat lenL, eqP, getI_nat]
  refine ⟨fun hlt => ?_, fun hge => ?_⟩
  · have hx := any_cons hlt hj
    refine callO.pc (pc31 t (ends t)[j]) ?_
    simp (maxSteps := 2000000) -implicitDefEqProofs +contextual (disch := first | assumption | omega | decide +kernel) only [push_cast, ↓capI, br2_true, br2_false, frk_tt, frk_tf, frk_f, frkD_tt, frkD_tf, frkD_f, pk2_true, pk2_false, imp_true, seval, Nat.reduceLeDiff, Nat.reduceEqDiff, reduceCtorEq, ↓reduceIte, encT, encP, encL, slI, slP, slL, cfg0, get_flat_part lenP, get_flat_part lenL, get_flat_drop lenL, len_flat lenP, len_flat lenL, eqP, getI_nat]
    refine ⟨fun hh => ?_, fun hh => ?_⟩
    · refine endK.ret ?_ rfl
      have := hx.1 (by simp [hh])
      simp [evRes, getT, retV, Tryz.f15, chk1, h1, this]
    · refine ⟨j + 1, hx.2 (by simp [hh]), by simp only; omega, ?_⟩
      refine Gn.canon rfl ?_ (by simp) (by simp [belT, belP, bel_slI, bel_slL, bel_slP, bel_ints, bel_Ps, bel_Ls]) (by simp [belT, belP, bel_slI, bel_slL, bel_slP, bel_ints, bel_Ps, bel_Ls])
      skip
      simp [wk, slP]
  have h2 := any_end hge hj
  clear hge hj
  refine T.rounds tok mixed cfg0 (fun i : Nat => ⟨(.dead :: .ptr 0 0 0 :: .int .i64 0 :: .dead :: .dead :: slP (ends t) :: .dead :: .dead :: .dead :: .dead :: .dead :: .dead :: .dead :: .dead :: .dead :: .dead :: .dead :: .dead :: .dead :: .dead :: .dead :: .dead :: .dead :: .dead :: .dead :: .dead :: .dead :: .dead :: .dead :: .dead :: .dead :: .dead :: .dead :: .dead :: .dead :: .dead :: .dead :: .dead :: .dead :: .dead :: .dead :: .dead :: .dead :: .dead :: .dead :: .dead :: .dead :: .dead :: .dead :: .dead :: .dead :: .dead :: .dead :: .dead :: .dead :: .dead :: .dead :: .dead :: .dead :: .dead :: .dead :: slP (ends t) :: .int .i64 (ends t).length :: .int .i64 i :: .dead :: .dead :: .dead :: .dead :: .dead :: .dead :: .dead :: .dead :: .dead :: .dead :: .dead :: .dead :: .dead :: .dead :: .dead :: .dead :: .dead :: .dead :: .dead :: .dead :: .dead :: .dead :: .dead :: .dead :: .dead :: .dead :: .dead :: .dead :: .dead :: .dead :: .dead :: .dead :: []), [.cells 0 (encT t)]⟩)
    (fun i => dup ((ends t).take i) ((ends t).drop i) = dup [] (ends t)) (fun i => (ends t).length - i) 0 ?_ rfl ?_
  · exact Gn.canon (J := []) rfl (by simp [wk, slP]) (by simp) (by simp [belT, belP, bel_slI, bel_slL, bel_slP, bel_ints, bel_Ps, bel_Ls]) (by simp [belT, belP, bel_slI, bel_slL, bel_slP, bel_ints, bel_Ps, bel_Ls])
  intro i hi
  simp (maxSteps := 2000000) -implicitDefEqProofs +contextual (disch := first | assumption | omega | decide +kernel) only [push_cast, ↓capI, br2_true, br2_false, frk_tt, frk_tf, frk_f, frkD_tt, frkD_tf, frkD_f, pk2_true, pk2_false, imp_true, seval, Nat.reduceLeDiff, Nat.reduceEqDiff, reduceCtorEq, ↓reduceIte, encT, encP, encL, slI, slP, slL, cfg0, get_flat_part lenP, get_flat_part lenL, get_flat_drop lenL, len_flat lenP, len_flat lenL, eqP, getI_nat]
  refine ⟨fun hlt => ?_, fun hge => ?_⟩
  · skip
    rw [drop_cons hlt, dup] at hi
    obtain ⟨pre, hpre⟩ : ∃ pre, pre = (ends t).take i := ⟨_, rfl⟩
    obtain ⟨x, hxe⟩ : ∃ x, x = (ends t)[i] := ⟨_, rfl⟩
    have hpl : pre.length = i := by rw [hpre, List.length_take]; omega
    rw [← hpre, ← hxe] at hi
    refine T.rounds tok mixed cfg0 (fun k : Nat => ⟨(.dead :: .ptr 0 0 0 :: .int .i64 0 :: .dead :: .dead :: slP (ends t) :: .dead :: .dead :: .dead :: .ptr 1 0 0 :: .dead :: .dead :: .dead :: .dead :: .dead :: .dead :: .dead :: .dead :: .dead :: .dead :: .dead :: .dead :: .dead :: .dead :: .dead :: .dead :: .dead :: .dead :: .dead :: .dead :: .dead :: .dead :: .dead :: .dead :: .dead :: .dead :: .dead :: .dead :: .dead :: .dead :: .dead :: .dead :: .dead :: .dead :: .dead :: .dead :: .dead :: .dead :: .dead :: .dead :: .dead :: .dead :: .dead :: .dead :: .dead :: .dead :: .dead :: .dead :: .dead :: .dead :: .dead :: slP (ends t) :: .int .i64 (ends t).length :: .int .i64 i :: .dead :: .dead :: .dead :: .dead :: .dead :: .dead :: slP pre :: .int .i64 pre.length :: .int .i64 k :: .dead :: .dead :: .dead :: .dead :: .dead :: .dead :: .dead :: .dead :: .dead :: .dead :: .dead :: .dead :: .dead :: .dead :: .dead :: .dead :: .dead :: .dead :: .dead :: .dead :: .dead :: .dead :: .dead :: []), [.cells 0 (encT t), .cells 0 (encP x)]⟩)
      (fun k => (pre.drop k).any (fun b => decide (x = b)) = pre.any (fun b => decide (x = b))) (fun k => pre.length - k) 0 ?_ rfl ?_
    · refine Gn.canon (J := []) (by rw [hxe]; rfl) ?_ (by simp) (by simp [belT, belP, bel_slI, bel_slL, bel_slP, bel_ints, bel_Ps, bel_Ls]) (by simp [belT, belP, bel_slI, bel_slL, bel_slP, bel_ints, bel_Ps, bel_Ls])
      simp [wk, slP, hpl]
      rw [take_flat lenP, hpre]
    intro k hk
    simp (maxSteps := 2000000) -implicitDefEqProofs +contextual (disch := first | assumption | omega | decide +kernel) only [push_cast, ↓capI, br2_true, br2_false, frk_tt, frk_tf, frk_f, frkD_tt, frkD_tf, frkD_f, pk2_true, pk2_false, imp_true, seval, Nat.reduceLeDiff, Nat.reduceEqDiff, reduceCtorEq, ↓reduceIte, encT, encP, encL, slI, slP, slL, cfg0, get_flat_part lenP, get_flat_part lenL, get_flat_drop lenL, len_flat lenP, len_flat lenL, eqP, getI_nat]
    refine ⟨fun hlt2 => ?_, fun hge2 => ?_⟩
    · have hx := any_cons hlt2 hk
      refine ⟨fun he => ?_, fun he => ?_⟩
      · refine endK.ret ?_ rfl
        have h3 := hx.1 (by simp [he])
        rw [h3] at hi
        simp [evRes, getT, retV, Tryz.f15, chk1, h1, h2, ← hi]
      · refine ⟨k + 1, hx.2 (by simp [he]), by simp only; omega, ?_⟩
        refine Gn.canon rfl ?_ (by simp) (by simp [belT, belP, bel_slI, bel_slL, bel_slP, bel_ints, bel_Ps, bel_Ls]) (by simp [belT, belP, bel_slI, bel_slL, bel_slP, bel_ints, bel_Ps, bel_Ls])
        skip
        simp [wk, slP]
    · have h3 := any_end hge2 hk
      rw [h3, Bool.false_or] at hi
      refine ⟨i + 1, ?_, by simp only; omega, ?_⟩
      · show dup ((ends t).take (i + 1)) ((ends t).drop (i + 1)) = _
        rw [List.take_add_one, List.getElem?_eq_getElem hlt, ← hpre, ← hxe]
        exact hi
      · refine Gn.canon rfl ?_ (by simp) (by simp [belT, belP, bel_slI, bel_slL, bel_slP, bel_ints, bel_Ps, bel_Ls]) (by simp [belT, belP, bel_slI, bel_slL, bel_slP, bel_ints, bel_Ps, bel_Ls])
        skip
        simp [wk, slP]
  have h3 : dup [] (ends t) = false := by rw [List.drop_of_length_le (by omega)] at hi; exact hi.symm
  clear hge hi
  refine T.rounds tok mixed cfg0 (fun j : Nat => ⟨(.dead :: .ptr 0 0 0 :: .int .i64 0 :: .dead :: .dead :: .dead :: .dead :: .dead :: .dead :: .dead :: .dead :: .dead :: .dead :: .dead :: .dead :: .dead :: .dead :: .dead :: .dead :: .dead :: .dead :: .dead :: .dead :: .dead :: .dead :: .dead :: .dead :: .dead :: .dead :: .dead :: .dead :: .dead :: .dead :: .dead :: .dead :: .dead :: .dead :: .dead :: .dead :: .dead :: .dead :: .dead :: .dead :: .dead :: .dead :: .dead :: .dead :: .dead :: .dead :: .dead :: .dead :: .dead :: .dead :: .dead :: .dead :: .dead :: .dead :: .dead :: .dead :: .dead :: .dead :: .dead :: .dead :: .dead :: .dead :: .dead :: .dead :: .dead :: .dead :: .dead :: .dead :: .dead :: .dead :: .dead :: .dead :: .dead :: .dead :: .dead :: .dead :: .dead :: .dead :: .dead :: slL t.links :: .int .i64 t.links.length :: .int .i64 j :: .dead :: .dead :: .dead :: .dead :: .dead :: .dead :: .dead :: .dead :: .dead :: .dead :: .dead :: []), [.cells 0 (encT t)]⟩)
    (fun j => (t.links.drop j).any (fun l => decide (l.a.1 = l.b.1)) = t.links.any (fun l => decide (l.a.1 = l.b.1))) (fun j => t.links.length - j) 0 ?_ rfl ?_
  · exact Gn.canon (J := []) rfl (by simp [wk, slL]) (by simp) (by simp [belT, belP, bel_slI, bel_slL, bel_slP, bel_ints, bel_Ps, bel_Ls]) (by simp [belT, belP, bel_slI, bel_slL, bel_slP, bel_ints, bel_Ps, bel_Ls])
  intro j hj
  simp (maxSteps := 2000000) -implicitDefEqProofs +contextual (disch := first | assumption | omega | decide +kernel) only [push_cast, ↓capI, br2_true, br2_false, frk_tt, frk_tf, frk_f, frkD_tt, frkD_tf, frkD_f, pk2_true, pk2_false, imp_true, seval, Nat.reduceLeDiff, Nat.reduceEqDiff, reduceCtorEq, ↓reduceIte, encT, encP, encL, slI, slP, slL, cfg0, get_flat_part lenP, get_flat_part lenL, get_flat_drop lenL, len_flat lenP, len_flat lenL, eqP, getI_nat]
  refine ⟨fun hlt => ?_, fun hge => ?_⟩
  · have hx := any_cons hlt hj
    refine ⟨fun he => ?_, fun he => ?_⟩
    · refine endK.ret ?_ rfl
      have h4 := hx.1 (by simp [he])
      simp [evRes, getT, retV, Tryz.f15, chk1, h1, h2, h3, h4]
    · refine ⟨j + 1, hx.2 (by simp [he]), by simp only; omega, ?_⟩
      refine Gn.canon rfl ?_ (by simp) (by simp [belT, belP, bel_slI, bel_slL, bel_slP, bel_ints, bel_Ps, bel_Ls]) (by simp [belT, belP, bel_slI, bel_slL, bel_slP, bel_ints, bel_Ps, bel_Ls])
      skip
      simp [wk, slL]
  · refine endK.ret ?_ rfl
    simp [evRes, getT, retV, Tryz.f15, chk1, h1, h2, h3, any_end hge hj]
end Go.Proofs.YtafongdfnpnneaaGreatDoor.Top

/- Chapter 40: the document's Check. -/
set_option maxRecDepth 100000
set_option linter.all false
namespace Go.Proofs.YtafongdfnpnneaaGreatDoor.Top
open Go.Vm

theorem pc19 (t : Tp) (hf : t.fit) : PC Tryz.prog 19 [.agg (encT t)] (.int .i64 (chk t)) := by
  refine PC.walk tok mixed cfg0 Tryz.func19 rfl Tryz.call19 (by simp [belAll, V.bel, belT, belP]) rfl ?_
  have hfp := hf.ports
  have hfl := hf.links
  have hfh := hf.hosts
  simp (maxSteps := 2000000) -implicitDefEqProofs +contextual (disch := first | assumption | omega | decide +kernel) only [push_cast, ↓capI, br2_true, br2_false, frk_tt, frk_tf, frk_f, frkD_tt, frkD_tf, frkD_f, pk2_true, pk2_false, imp_true, seval, Nat.reduceLeDiff, Nat.reduceEqDiff, reduceCtorEq, ↓reduceIte, encT, encP, encL, slI, slP, slL, cfg0, get_flat_part lenP, get_flat_part lenL, get_flat_drop lenL, len_flat lenP, len_flat lenL, eqP, getI_nat, Tryz.ntmps19]
  repeat' (first | intro _ | refine And.intro ?_ ?_)
  all_goals try (refine endK.ret ?_ rfl; simp only [evRes, getT, retV, Tryz.f19, chk, *, ↓reduceIte]; done)
  have hc : chk t = chk1 t := by simp only [chk, *, ↓reduceIte]
  rw [hc]
  refine T.rounds tok mixed cfg0 (fun j : Nat => ⟨(.dead :: .ptr 0 0 0 :: .int .i64 0 :: .int .i64 j :: .dead :: .dead :: .dead :: .dead :: .dead :: .dead :: .dead :: .dead :: .dead :: .dead :: .dead :: .dead :: .dead :: .dead :: .dead :: .dead :: .dead :: .dead :: .dead :: .dead :: .dead :: .dead :: .dead :: .dead :: .dead :: .dead :: .dead :: .dead :: .dead :: .dead :: .dead :: .dead :: .dead :: .dead :: .dead :: .dead :: .dead :: .dead :: .dead :: .dead :: .dead :: .dead :: .dead :: .dead :: .dead :: .dead :: .dead :: .dead :: .dead :: .dead :: .dead :: .dead :: .dead :: .dead :: .dead :: .dead :: .dead :: .dead :: .dead :: .dead :: .dead :: .dead :: .dead :: .dead :: .dead :: .dead :: .dead :: .dead :: .dead :: .dead :: .dead :: .dead :: .dead :: .dead :: .dead :: .dead :: .dead :: .dead :: .dead :: .dead :: .dead :: .dead :: .dead :: .dead :: .dead :: .dead :: .dead :: .dead :: .dead :: .dead :: .dead :: .dead :: .dead :: .dead :: .dead :: .dead :: .dead :: .dead :: .dead :: .dead :: .dead :: .dead :: .dead :: .dead :: .dead :: []), [.cells 0 (encT t)]⟩)
    (fun j => (t.ports.drop j).any badN = t.ports.any badN) (fun j => t.ports.length - j) 0 ?_ rfl ?_
  · exact Gn.canon (J := []) rfl (by simp [wk, slI]) (by simp) (by simp [belT, belP, bel_slI, bel_slL, bel_slP, bel_ints, bel_Ps, bel_Ls]) (by simp [belT, belP, bel_slI, bel_slL, bel_slP, bel_ints, bel_Ps, bel_Ls])
  intro j hj
  simp (maxSteps := 2000000) -implicitDefEqProofs +contextual (disch := first | assumption | omega | decide +kernel) only [push_cast, ↓capI, br2_true, br2_false, frk_tt, frk_tf, frk_f, frkD_tt, frkD_tf, frkD_f, pk2_true, pk2_false, imp_true, seval, Nat.reduceLeDiff, Nat.reduceEqDiff, reduceCtorEq, ↓reduceIte, encT, encP, encL, slI, slP, slL, cfg0, get_flat_part lenP, get_flat_part lenL, get_flat_drop lenL, len_flat lenP, len_flat lenL, eqP, getI_nat]
  refine ⟨fun hlt => ?_, fun hge => ?_⟩
  · have hx := any_cons hlt hj
    repeat' (first | intro _ | refine And.intro ?_ ?_)
    all_goals first
      | (refine endK.ret ?_ rfl
         have := hx.1 (by simp [badN, *])
         simp [evRes, getT, retV, Tryz.f19, chk1, this]
         done)
      | (refine ⟨j + 1, hx.2 (by simp [badN, *]), by simp only; omega, ?_⟩
         refine Gn.canon (J := []) rfl ?_ (by simp) (by simp [belT, belP, bel_slI, bel_slL, bel_slP, bel_ints, bel_Ps, bel_Ls]) (by simp [belT, belP, bel_slI, bel_slL, bel_slP, bel_ints, bel_Ps, bel_Ls])
         skip
         simp [wk, slI])
  have h1 := any_end hge hj
  clear hge hj
  refine callO.pc (pc36 t hf) ?_
  simp (maxSteps := 2000000) -implicitDefEqProofs +contextual (disch := first | assumption | omega | decide +kernel) only [push_cast, ↓capI, br2_true, br2_false, frk_tt, frk_tf, frk_f, frkD_tt, frkD_tf, frkD_f, pk2_true, pk2_false, imp_true, seval, Nat.reduceLeDiff, Nat.reduceEqDiff, reduceCtorEq, ↓reduceIte, encT, encP, encL, slI, slP, slL, cfg0, get_flat_part lenP, get_flat_part lenL, get_flat_drop lenL, len_flat lenP, len_flat lenL, eqP, getI_nat]
  refine T.rounds tok mixed cfg0 (fun j : Nat => ⟨(.dead :: .ptr 0 0 0 :: .int .i64 0 :: .dead :: slP (ends t) :: .int .i64 j :: .dead :: .dead :: .dead :: .dead :: .dead :: .dead :: .dead :: .dead :: .dead :: .dead :: .dead :: .dead :: .dead :: .dead :: .dead :: .dead :: .dead :: .dead :: .dead :: .dead :: .dead :: .dead :: .dead :: .dead :: .dead :: .dead :: .dead :: .dead :: .dead :: .dead :: .dead :: .dead :: .dead :: .dead :: .dead :: .dead :: .dead :: .dead :: .dead :: .dead :: .dead :: .dead :: .dead :: .dead :: .dead :: .dead :: .dead :: .dead :: .dead :: .dead :: .dead :: .dead :: .dead :: .dead :: .dead :: .dead :: .dead :: .dead :: .dead :: .dead :: .dead :: .dead :: .dead :: .dead :: .dead :: .dead :: .dead :: .dead :: .dead :: .dead :: .dead :: .dead :: .dead :: .dead :: .dead :: .dead :: .dead :: .dead :: .dead :: .dead :: .dead :: .dead :: .dead :: .dead :: .dead :: .dead :: .dead :: .dead :: .dead :: .dead :: .dead :: .dead :: .dead :: .dead :: .dead :: .dead :: .dead :: .dead :: .dead :: .dead :: .dead :: .dead :: .dead :: []), [.cells 0 (encT t)]⟩)
    (fun j => ((ends t).drop j).any (fun a => !has t a) = (ends t).any (fun a => !has t a)) (fun j => (ends t).length - j) 0 ?_ rfl ?_
  · exact Gn.canon (J := []) rfl (by simp [wk, slP]) (by simp) (by simp [belT, belP, bel_slI, bel_slL, bel_slP, bel_ints, bel_Ps, bel_Ls]) (by simp [belT, belP, bel_slI, bel_slL, bel_slP, bel_ints, bel_Ps, bel_Ls])
  have hle : (ends t).length ≤ 20000000000 := by simp only [ends, List.length_append, endsOf_length]; omega
  intro j hj
  simp (maxSteps := 2000000) -implicitDefEqProofs +contextual (disch := first | assumption | omega | decide +kernel) only [push_cast, ↓capI, br2_true, br2_false, frk_tt, frk_tf, frk_f, frkD_tt, frkD_tf, frkD_f, pk2_true, pk2_false, imp_true, seval, Nat.reduceLeDiff, Nat.reduceEqDiff, reduceCtorEq, ↓reduceIte, encT, encP, encL, slI, slP, slL, cfg0, get_flat_part lenP, get_flat_part lenL, get_flat_drop lenL, len_flat lenP, len_flat lenL, eqP, getI_nat]
  refine ⟨fun hlt => ?_, fun hge => ?_⟩
  · have hx := any_cons hlt hj
    skip
    refine callG.pc1 (pc37 t (ends t)[j]) ?_
    simp (maxSteps := 2000000) -implicitDefEqProofs +contextual (disch := first | assumption | omega | decide +kernel) only [push_cast, ↓capI, br2_true, br2_false, frk_tt, frk_tf, frk_f, frkD_tt, frkD_tf, frkD_f, pk2_true, pk2_false, imp_true, seval, Nat.reduceLeDiff, Nat.reduceEqDiff, reduceCtorEq, ↓reduceIte, encT, encP, encL, slI, slP, slL, cfg0, get_flat_part lenP, get_flat_part lenL, get_flat_drop lenL, len_flat lenP, len_flat lenL, eqP, getI_nat]
    refine ⟨fun hh => ?_, fun hh => ?_⟩
    · refine endK.ret ?_ rfl
      have := hx.1 (by simp [hh])
      simp [evRes, getT, retV, Tryz.f19, chk1, h1, this]
    · refine ⟨j + 1, hx.2 (by simp [hh]), by simp only; omega, ?_⟩
      refine Gn.canon (J := []) rfl ?_ (by simp) (by simp [belT, belP, bel_slI, bel_slL, bel_slP, bel_ints, bel_Ps, bel_Ls]) (by simp [belT, belP, bel_slI, bel_slL, bel_slP, bel_ints, bel_Ps, bel_Ls])
      skip
      simp [wk, slP]
  have h2 := any_end hge hj
  clear hge hj
  refine T.rounds tok mixed cfg0 (fun i : Nat => ⟨(.dead :: .ptr 0 0 0 :: .int .i64 0 :: .dead :: slP (ends t) :: .dead :: .int .i64 i :: .dead :: .dead :: .dead :: .dead :: .dead :: .dead :: .dead :: .dead :: .dead :: .dead :: .dead :: .dead :: .dead :: .dead :: .dead :: .dead :: .dead :: .dead :: .dead :: .dead :: .dead :: .dead :: .dead :: .dead :: .dead :: .dead :: .dead :: .dead :: .dead :: .dead :: .dead :: .dead :: .dead :: .dead :: .dead :: .dead :: .dead :: .dead :: .dead :: .dead :: .dead :: .dead :: .dead :: .dead :: .dead :: .dead :: .dead :: .dead :: .dead :: .dead :: .dead :: .dead :: .dead :: .dead :: .dead :: .dead :: .dead :: .dead :: .dead :: .dead :: .dead :: .dead :: .dead :: .dead :: .dead :: .dead :: .dead :: .dead :: .dead :: .dead :: .dead :: .dead :: .dead :: .dead :: .dead :: .dead :: .dead :: .dead :: .dead :: .dead :: .dead :: .dead :: .dead :: .dead :: .dead :: .dead :: .dead :: .dead :: .dead :: .dead :: .dead :: .dead :: .dead :: .dead :: .dead :: .dead :: .dead :: .dead :: .dead :: .dead :: .dead :: .dead :: []), [.cells 0 (encT t)]⟩)
    (fun i => dup ((ends t).take i) ((ends t).drop i) = dup [] (ends t)) (fun i => (ends t).length - i) 0 ?_ rfl ?_
  · exact Gn.canon (J := []) rfl (by simp [wk, slP]) (by simp) (by simp [belT, belP, bel_slI, bel_slL, bel_slP, bel_ints, bel_Ps, bel_Ls]) (by simp [belT, belP, bel_slI, bel_slL, bel_slP, bel_ints, bel_Ps, bel_Ls])
  intro i hi
  simp (maxSteps := 2000000) -implicitDefEqProofs +contextual (disch := first | assumption | omega | decide +kernel) only [push_cast, ↓capI, br2_true, br2_false, frk_tt, frk_tf, frk_f, frkD_tt, frkD_tf, frkD_f, pk2_true, pk2_false, imp_true, seval, Nat.reduceLeDiff, Nat.reduceEqDiff, reduceCtorEq, ↓reduceIte, encT, encP, encL, slI, slP, slL, cfg0, get_flat_part lenP, get_flat_part lenL, get_flat_drop lenL, len_flat lenP, len_flat lenL, eqP, getI_nat]
  refine ⟨fun hlt => ?_, fun hge => ?_⟩
  · rw [drop_cons hlt, dup] at hi
    obtain ⟨pre, hpre⟩ : ∃ pre, pre = (ends t).take i := ⟨_, rfl⟩
    have hpl : pre.length = i := by rw [hpre, List.length_take]; omega
    rw [← hpre] at hi
    refine T.rounds tok mixed cfg0 (fun k : Nat => ⟨(.dead :: .ptr 0 0 0 :: .int .i64 0 :: .dead :: slP (ends t) :: .dead :: .int .i64 i :: .int .i64 k :: .dead :: .dead :: .dead :: .dead :: .dead :: .dead :: .dead :: .dead :: .dead :: .dead :: .dead :: .dead :: .dead :: .dead :: .dead :: .dead :: .dead :: .dead :: .dead :: .dead :: .dead :: .dead :: .dead :: .dead :: .dead :: .dead :: .dead :: .dead :: .dead :: .dead :: .dead :: .dead :: .dead :: .dead :: .dead :: .dead :: .dead :: .dead :: .dead :: .dead :: .dead :: .dead :: .dead :: .dead :: .dead :: .dead :: .dead :: .dead :: .dead :: .dead :: .dead :: .dead :: .dead :: .dead :: .dead :: .dead :: .dead :: .dead :: .dead :: .dead :: .dead :: .dead :: .dead :: .dead :: .dead :: .dead :: .dead :: .dead :: .dead :: .dead :: .dead :: .dead :: .dead :: .dead :: .dead :: .dead :: .dead :: .dead :: .dead :: .dead :: .dead :: .dead :: .dead :: .dead :: .dead :: .dead :: .dead :: .dead :: .dead :: .dead :: .dead :: .dead :: .dead :: .dead :: .dead :: .dead :: .dead :: .dead :: .dead :: .dead :: .dead :: []), [.cells 0 (encT t)]⟩)
      (fun k => k ≤ i ∧ (pre.drop k).any (fun b => decide ((ends t)[i] = b)) = pre.any (fun b => decide ((ends t)[i] = b))) (fun k => i - k) 0 ?_ ⟨Nat.zero_le _, rfl⟩ ?_
    · exact Gn.canon (J := []) rfl (by simp [wk, slP]) (by simp) (by simp [belT, belP, bel_slI, bel_slL, bel_slP, bel_ints, bel_Ps, bel_Ls]) (by simp [belT, belP, bel_slI, bel_slL, bel_slP, bel_ints, bel_Ps, bel_Ls])
    intro k hk
    have hk0 := hk.1
    have hk1 := hk.2
    clear hk
    by_cases hki : k < i
    · have hke : k < (ends t).length := by omega
      simp (maxSteps := 2000000) -implicitDefEqProofs +contextual (disch := first | assumption | omega | decide +kernel) only [push_cast, ↓capI, br2_true, br2_false, frk_tt, frk_tf, frk_f, frkD_tt, frkD_tf, frkD_f, pk2_true, pk2_false, imp_true, seval, Nat.reduceLeDiff, Nat.reduceEqDiff, reduceCtorEq, ↓reduceIte, encT, encP, encL, slI, slP, slL, cfg0, get_flat_part lenP, get_flat_part lenL, get_flat_drop lenL, len_flat lenP, len_flat lenL, eqP, getI_nat, hki, hke, hlt]
      have hkp : k < pre.length := by omega
      have hpk : pre[k] = (ends t)[k] := by simp [hpre]
      have hx := any_cons hkp hk1
      rw [hpk] at hx
      refine ⟨fun he => ?_, fun he => ?_⟩
      · refine endK.ret ?_ rfl
        have h3 := hx.1 (by simp [he])
        rw [h3] at hi
        simp [evRes, getT, retV, Tryz.f19, chk1, h1, h2, ← hi]
      · refine ⟨k + 1, ⟨hki, hx.2 (by simp [he])⟩, by simp only; omega, ?_⟩
        refine Gn.canon (J := []) rfl ?_ (by simp) (by simp [belT, belP, bel_slI, bel_slL, bel_slP, bel_ints, bel_Ps, bel_Ls]) (by simp [belT, belP, bel_slI, bel_slL, bel_slP, bel_ints, bel_Ps, bel_Ls])
        skip
        simp [wk, slP]
    · simp (maxSteps := 2000000) -implicitDefEqProofs +contextual (disch := first | assumption | omega | decide +kernel) only [push_cast, ↓capI, br2_true, br2_false, frk_tt, frk_tf, frk_f, frkD_tt, frkD_tf, frkD_f, pk2_true, pk2_false, imp_true, seval, Nat.reduceLeDiff, Nat.reduceEqDiff, reduceCtorEq, ↓reduceIte, encT, encP, encL, slI, slP, slL, cfg0, get_flat_part lenP, get_flat_part lenL, get_flat_drop lenL, len_flat lenP, len_flat lenL, eqP, getI_nat, hki]
      have h3 := any_end (by omega : ¬ k < pre.length) hk1
      rw [h3, Bool.false_or] at hi
      refine ⟨i + 1, ?_, by simp only; omega, ?_⟩
      · show dup ((ends t).take (i + 1)) ((ends t).drop (i + 1)) = _
        rw [List.take_add_one, List.getElem?_eq_getElem hlt, ← hpre]
        exact hi
      · refine Gn.canon (J := []) rfl ?_ (by simp) (by simp [belT, belP, bel_slI, bel_slL, bel_slP, bel_ints, bel_Ps, bel_Ls]) (by simp [belT, belP, bel_slI, bel_slL, bel_slP, bel_ints, bel_Ps, bel_Ls])
        skip
        simp [wk, slP]
  have h3 : dup [] (ends t) = false := by rw [List.drop_of_length_le (by omega)] at hi; exact hi.symm
  clear hge hi
  refine T.rounds tok mixed cfg0 (fun j : Nat => ⟨(.dead :: .ptr 0 0 0 :: .int .i64 0 :: .dead :: .dead :: .dead :: .dead :: .dead :: .int .i64 j :: .dead :: .dead :: .dead :: .dead :: .dead :: .dead :: .dead :: .dead :: .dead :: .dead :: .dead :: .dead :: .dead :: .dead :: .dead :: .dead :: .dead :: .dead :: .dead :: .dead :: .dead :: .dead :: .dead :: .dead :: .dead :: .dead :: .dead :: .dead :: .dead :: .dead :: .dead :: .dead :: .dead :: .dead :: .dead :: .dead :: .dead :: .dead :: .dead :: .dead :: .dead :: .dead :: .dead :: .dead :: .dead :: .dead :: .dead :: .dead :: .dead :: .dead :: .dead :: .dead :: .dead :: .dead :: .dead :: .dead :: .dead :: .dead :: .dead :: .dead :: .dead :: .dead :: .dead :: .dead :: .dead :: .dead :: .dead :: .dead :: .dead :: .dead :: .dead :: .dead :: .dead :: .dead :: .dead :: .dead :: .dead :: .dead :: .dead :: .dead :: .dead :: .dead :: .dead :: .dead :: .dead :: .dead :: .dead :: .dead :: .dead :: .dead :: .dead :: .dead :: .dead :: .dead :: .dead :: .dead :: .dead :: .dead :: .dead :: .dead :: []), [.cells 0 (encT t)]⟩)
    (fun j => (t.links.drop j).any (fun l => decide (l.a.1 = l.b.1)) = t.links.any (fun l => decide (l.a.1 = l.b.1))) (fun j => t.links.length - j) 0 ?_ rfl ?_
  · exact Gn.canon (J := []) rfl (by simp [wk, slL]) (by simp) (by simp [belT, belP, bel_slI, bel_slL, bel_slP, bel_ints, bel_Ps, bel_Ls]) (by simp [belT, belP, bel_slI, bel_slL, bel_slP, bel_ints, bel_Ps, bel_Ls])
  intro j hj
  simp (maxSteps := 2000000) -implicitDefEqProofs +contextual (disch := first | assumption | omega | decide +kernel) only [push_cast, ↓capI, br2_true, br2_false, frk_tt, frk_tf, frk_f, frkD_tt, frkD_tf, frkD_f, pk2_true, pk2_false, imp_true, seval, Nat.reduceLeDiff, Nat.reduceEqDiff, reduceCtorEq, ↓reduceIte, encT, encP, encL, slI, slP, slL, cfg0, get_flat_part lenP, get_flat_part lenL, get_flat_drop lenL, len_flat lenP, len_flat lenL, eqP, getI_nat]
  refine ⟨fun hlt => ?_, fun hge => ?_⟩
  · have hx := any_cons hlt hj
    refine ⟨fun he => ?_, fun he => ?_⟩
    · refine endK.ret ?_ rfl
      have h4 := hx.1 (by simp [he])
      simp [evRes, getT, retV, Tryz.f19, chk1, h1, h2, h3, h4]
    · refine ⟨j + 1, hx.2 (by simp [he]), by simp only; omega, ?_⟩
      refine Gn.canon (J := []) rfl ?_ (by simp) (by simp [belT, belP, bel_slI, bel_slL, bel_slP, bel_ints, bel_Ps, bel_Ls]) (by simp [belT, belP, bel_slI, bel_slL, bel_slP, bel_ints, bel_Ps, bel_Ls])
      skip
      simp [wk, slL]
  · refine endK.ret ?_ rfl
    simp [evRes, getT, retV, Tryz.f19, chk1, h1, h2, h3, any_end hge hj]
end Go.Proofs.YtafongdfnpnneaaGreatDoor.Top

/- Chapter 40: the port at the other end. -/
set_option maxRecDepth 100000
set_option linter.all false
namespace Go.Proofs.YtafongdfnpnneaaGreatDoor.Top
open Go.Vm

def peer (t : Tp) (p : Int × Int) : (Int × Int) × Int :=
  if chk t ≠ 0 then ((0, 0), chk t) else
  match linkAt t p with
  | (_, false) => ((0, 0), 8)
  | (i, true) =>
    let l := t.links.getD i.toNat default
    if l.dn then ((0, 0), 20) else if l.a = p then (l.b, 0) else (l.a, 0)
def encPE (r : (Int × Int) × Int) : V := .tup [.agg (encP r.1), .int .i64 r.2]

theorem firstAt_is {α : Type} {f : α → Bool} : ∀ {l : List α} {j : Nat}, firstAt f l j = (0, false) ∨ ∃ k, k < l.length ∧ firstAt f l j = (((j + k : Nat) : Int), true)
  | [], j => .inl rfl
  | x :: l, j => by
    unfold firstAt
    split
    · exact .inr ⟨0, by simp, rfl⟩
    · rcases @firstAt_is α f l (j + 1) with h | ⟨k, h1, h2⟩
      · exact .inl h
      · exact .inr ⟨k + 1, by simpa using h1, by rw [h2, show j + 1 + k = j + (k + 1) by omega]⟩
theorem linkAt_is (t : Tp) (p : Int × Int) : linkAt t p = (0, false) ∨ ∃ k : Nat, k < t.links.length ∧ linkAt t p = ((k : Int), true) := by
  have := @firstAt_is _ (fun l => decide (l.a = p) || decide (l.b = p)) t.links 0
  simpa [linkAt] using this

theorem pc53 (t : Tp) (p : Int × Int) (hf : t.fit) : PC Tryz.prog 53 [.agg (encT t), .agg (encP p)] (encPE (peer t p)) := by
  refine PC.walk tok mixed cfg0 Tryz.func53 rfl Tryz.call53 (by simp [belAll, V.bel, belT, belP]) rfl ?_
  simp (maxSteps := 2000000) -implicitDefEqProofs +contextual (disch := first | assumption | omega | decide +kernel) only [push_cast, ↓capI, br2_true, br2_false, frk_tt, frk_tf, frk_f, frkD_tt, frkD_tf, frkD_f, pk2_true, pk2_false, imp_true, seval, Nat.reduceLeDiff, Nat.reduceEqDiff, reduceCtorEq, ↓reduceIte, encT, encP, encL, slI, slP, slL, cfg0, get_flat_part lenP, get_flat_part lenL, get_flat_drop lenL, len_flat lenP, len_flat lenL, eqP, getI_nat, Tryz.ntmps53]
  refine callO.pc (pc19 t hf) ?_
  simp (maxSteps := 2000000) -implicitDefEqProofs +contextual (disch := first | assumption | omega | decide +kernel) only [push_cast, ↓capI, br2_true, br2_false, frk_tt, frk_tf, frk_f, frkD_tt, frkD_tf, frkD_f, pk2_true, pk2_false, imp_true, seval, Nat.reduceLeDiff, Nat.reduceEqDiff, reduceCtorEq, ↓reduceIte, encT, encP, encL, slI, slP, slL, cfg0, get_flat_part lenP, get_flat_part lenL, get_flat_drop lenL, len_flat lenP, len_flat lenL, eqP, getI_nat]
  refine callO.pc (pc62 t p hf) ?_
  rcases linkAt_is t p with hl | ⟨k, hk, hl⟩
  · simp (maxSteps := 2000000) -implicitDefEqProofs +contextual (disch := first | assumption | omega | decide +kernel) only [push_cast, ↓capI, br2_true, br2_false, frk_tt, frk_tf, frk_f, frkD_tt, frkD_tf, frkD_f, pk2_true, pk2_false, imp_true, seval, Nat.reduceLeDiff, Nat.reduceEqDiff, reduceCtorEq, ↓reduceIte, encT, encP, encL, slI, slP, slL, cfg0, get_flat_part lenP, get_flat_part lenL, get_flat_drop lenL, len_flat lenP, len_flat lenL, eqP, getI_nat, encIB, hl]
    repeat' (first | intro _ | refine And.intro ?_ ?_)
    all_goals
      refine endK.ret ?_ rfl
      simp (maxSteps := 2000000) -implicitDefEqProofs +contextual (disch := first | assumption | omega | decide +kernel) only [push_cast, ↓capI, br2_true, br2_false, frk_tt, frk_tf, frk_f, frkD_tt, frkD_tf, frkD_f, pk2_true, pk2_false, imp_true, seval, Nat.reduceLeDiff, Nat.reduceEqDiff, reduceCtorEq, ↓reduceIte, encT, encP, encL, slI, slP, slL, cfg0, get_flat_part lenP, get_flat_part lenL, get_flat_drop lenL, len_flat lenP, len_flat lenL, eqP, getI_nat, evRes, retV, Tryz.f53]
      simp [peer, encPE, encP, hl, *]
  · simp (maxSteps := 2000000) -implicitDefEqProofs +contextual (disch := first | assumption | omega | decide +kernel) only [push_cast, ↓capI, br2_true, br2_false, frk_tt, frk_tf, frk_f, frkD_tt, frkD_tf, frkD_f, pk2_true, pk2_false, imp_true, seval, Nat.reduceLeDiff, Nat.reduceEqDiff, reduceCtorEq, ↓reduceIte, encT, encP, encL, slI, slP, slL, cfg0, get_flat_part lenP, get_flat_part lenL, get_flat_drop lenL, len_flat lenP, len_flat lenL, eqP, getI_nat, encIB, hl, hk]
    have hg : t.links.getD k default = t.links[k] := by rw [List.getD_eq_getElem?_getD, List.getElem?_eq_getElem hk]; rfl
    repeat' (first | intro _ | refine And.intro ?_ ?_)
    all_goals first
      | (refine endK.ret ?_ rfl
         simp (maxSteps := 2000000) -implicitDefEqProofs +contextual (disch := first | assumption | omega | decide +kernel) only [push_cast, ↓capI, br2_true, br2_false, frk_tt, frk_tf, frk_f, frkD_tt, frkD_tf, frkD_f, pk2_true, pk2_false, imp_true, seval, Nat.reduceLeDiff, Nat.reduceEqDiff, reduceCtorEq, ↓reduceIte, encT, encP, encL, slI, slP, slL, cfg0, get_flat_part lenP, get_flat_part lenL, get_flat_drop lenL, len_flat lenP, len_flat lenL, eqP, getI_nat, evRes, retV, Tryz.f53]
         simp [peer, encPE, encP, hl, hg, *]
         done)
      | kernel_rfl
      | skip

theorem pc51 (t : Tp) (p : Int × Int) (hf : t.fit) : PC Tryz.prog 51 [.agg (encT t), .agg (encP p)] (encPE (peer t p)) := by
  refine PC.walk tok mixed cfg0 Tryz.func51 rfl Tryz.call51 (by simp [belAll, V.bel, belT, belP]) rfl ?_
  simp (maxSteps := 2000000) -implicitDefEqProofs +contextual (disch := first | assumption | omega | decide +kernel) only [push_cast, ↓capI, br2_true, br2_false, frk_tt, frk_tf, frk_f, frkD_tt, frkD_tf, frkD_f, pk2_true, pk2_false, imp_true, seval, Nat.reduceLeDiff, Nat.reduceEqDiff, reduceCtorEq, ↓reduceIte, encT, encP, encL, slI, slP, slL, cfg0, get_flat_part lenP, get_flat_part lenL, get_flat_drop lenL, len_flat lenP, len_flat lenL, eqP, getI_nat, Tryz.ntmps51]
  refine callO.pc (pc15 t hf) ?_
  simp (maxSteps := 2000000) -implicitDefEqProofs +contextual (disch := first | assumption | omega | decide +kernel) only [push_cast, ↓capI, br2_true, br2_false, frk_tt, frk_tf, frk_f, frkD_tt, frkD_tf, frkD_f, pk2_true, pk2_false, imp_true, seval, Nat.reduceLeDiff, Nat.reduceEqDiff, reduceCtorEq, ↓reduceIte, encT, encP, encL, slI, slP, slL, cfg0, get_flat_part lenP, get_flat_part lenL, get_flat_drop lenL, len_flat lenP, len_flat lenL, eqP, getI_nat]
  refine ⟨fun h0 => ?_, fun h0 => ?_⟩
  · refine endK.ret ?_ rfl
    simp (maxSteps := 2000000) -implicitDefEqProofs +contextual (disch := first | assumption | omega | decide +kernel) only [push_cast, ↓capI, br2_true, br2_false, frk_tt, frk_tf, frk_f, frkD_tt, frkD_tf, frkD_f, pk2_true, pk2_false, imp_true, seval, Nat.reduceLeDiff, Nat.reduceEqDiff, reduceCtorEq, ↓reduceIte, encT, encP, encL, slI, slP, slL, cfg0, get_flat_part lenP, get_flat_part lenL, get_flat_drop lenL, len_flat lenP, len_flat lenL, eqP, getI_nat, evRes, retV, Tryz.f51]
    simp [peer, encPE, encP, h0]
  refine callO.pc (pc61 t p hf) ?_
  rcases linkAt_is t p with hl | ⟨k, hk, hl⟩
  · have hu : (useOf t p).1 ≠ 1 := by unfold useOf; rw [hl]; simp only [Bool.false_eq_true, if_false]; split <;> simp
    simp (maxSteps := 2000000) -implicitDefEqProofs +contextual (disch := first | assumption | omega | decide +kernel) only [push_cast, ↓capI, br2_true, br2_false, frk_tt, frk_tf, frk_f, frkD_tt, frkD_tf, frkD_f, pk2_true, pk2_false, imp_true, seval, Nat.reduceLeDiff, Nat.reduceEqDiff, reduceCtorEq, ↓reduceIte, encT, encP, encL, slI, slP, slL, cfg0, get_flat_part lenP, get_flat_part lenL, get_flat_drop lenL, len_flat lenP, len_flat lenL, eqP, getI_nat, encII, hu]
    refine endK.ret ?_ rfl
    simp (maxSteps := 2000000) -implicitDefEqProofs +contextual (disch := first | assumption | omega | decide +kernel) only [push_cast, ↓capI, br2_true, br2_false, frk_tt, frk_tf, frk_f, frkD_tt, frkD_tf, frkD_f, pk2_true, pk2_false, imp_true, seval, Nat.reduceLeDiff, Nat.reduceEqDiff, reduceCtorEq, ↓reduceIte, encT, encP, encL, slI, slP, slL, cfg0, get_flat_part lenP, get_flat_part lenL, get_flat_drop lenL, len_flat lenP, len_flat lenL, eqP, getI_nat, evRes, retV, Tryz.f51]
    simp [peer, encPE, encP, h0, hl]
  · have hu : useOf t p = (1, (k : Int)) := by simp [useOf, hl]
    simp (maxSteps := 2000000) -implicitDefEqProofs +contextual (disch := first | assumption | omega | decide +kernel) only [push_cast, ↓capI, br2_true, br2_false, frk_tt, frk_tf, frk_f, frkD_tt, frkD_tf, frkD_f, pk2_true, pk2_false, imp_true, seval, Nat.reduceLeDiff, Nat.reduceEqDiff, reduceCtorEq, ↓reduceIte, encT, encP, encL, slI, slP, slL, cfg0, get_flat_part lenP, get_flat_part lenL, get_flat_drop lenL, len_flat lenP, len_flat lenL, eqP, getI_nat, encII, hu, hk]
    have hg : t.links.getD k default = t.links[k] := by rw [List.getD_eq_getElem?_getD, List.getElem?_eq_getElem hk]; rfl
    repeat' (first | intro _ | refine And.intro ?_ ?_)
    all_goals first
      | (refine endK.ret ?_ rfl
         simp (maxSteps := 2000000) -implicitDefEqProofs +contextual (disch := first | assumption | omega | decide +kernel) only [push_cast, ↓capI, br2_true, br2_false, frk_tt, frk_tf, frk_f, frkD_tt, frkD_tf, frkD_f, pk2_true, pk2_false, imp_true, seval, Nat.reduceLeDiff, Nat.reduceEqDiff, reduceCtorEq, ↓reduceIte, encT, encP, encL, slI, slP, slL, cfg0, get_flat_part lenP, get_flat_part lenL, get_flat_drop lenL, len_flat lenP, len_flat lenL, eqP, getI_nat, evRes, retV, Tryz.f51]
         simp [peer, encPE, encP, hl, hg, *]
         done)
      | kernel_rfl
      | trace_state
end Go.Proofs.YtafongdfnpnneaaGreatDoor.Top

/- Chapter 40: a link set up or down. -/
set_option maxRecDepth 100000
set_option linter.all false
namespace Go.Proofs.YtafongdfnpnneaaGreatDoor.Top
open Go.Vm

theorem shs_L {k : Nat} {xs : List Lk} : shs k (xs.flatMap encL) = xs.flatMap encL := shs_bel _ (bel_Ls xs)
theorem shs_P {k : Nat} {xs : List (Int × Int)} : shs k (xs.flatMap encP) = xs.flatMap encP := shs_bel _ (bel_Ps xs)
theorem shs_I {k : Nat} {xs : List Int} : shs k (xs.map (V.int .i64)) = xs.map (V.int .i64) := shs_bel _ (bel_ints xs)
def setDn (t : Tp) (i : Nat) (d : Bool) : Tp := { t with links := t.links.set i { t.links.getD i default with dn := d } }
def setOK (t : Tp) (i : Int) : Prop := 0 ≤ i ∧ i < t.links.length
def nilT : Tp := ⟨[], [], []⟩
theorem put_dn {t : Tp} {i : Nat} {d : Bool} (h : i < t.links.length) : putV (t.links.flatMap encL) (i * 5 + 4) [.bool d] = (setDn t i d).links.flatMap encL := by
  refine put_flat lenL (by simp) t.links i h ?_
  rw [List.getD_eq_getElem?_getD, List.getElem?_eq_getElem h]
  rfl
theorem setDn_fit {t : Tp} {i : Nat} {d : Bool} (h : t.fit) : (setDn t i d).fit := ⟨h.ports, by simpa [setDn] using h.links, h.hosts⟩

end Go.Proofs.YtafongdfnpnneaaGreatDoor.Top

/- Chapter 40: SetLink, frozen results. -/
set_option maxRecDepth 100000
set_option maxHeartbeats 4000000
set_option linter.all false
namespace Go.Proofs.YtafongdfnpnneaaGreatDoor.Top
open Go.Vm

def setL (t : Tp) (i : Int) (d : Bool) : Tp × Int := if 0 ≤ i ∧ i < t.links.length then (setDn t i.toNat d, 0) else (nilT, 8)
def encTE (r : Tp × Int) : V := .tup [.agg (encT r.1), .int .i64 r.2]

theorem bel_encTE {n : Nat} {r : Tp × Int} : (encTE r).bel n = true := by simp [encTE, bel_tup, bel_agg, bel_int, belAll_cons, belAll_nil, belT]
theorem pcr42 (t : Tp) (i : Int) (d : Bool) (hf : t.fit) (hp : t.ports.length ≤ 4000000000) : PC Tryz.prog 42 [.agg (encT t), .int .i64 i, .bool d] (encTE (setL t i d)) := by
  by_cases hi : 0 ≤ i ∧ i < t.links.length
  · obtain ⟨k, rfl⟩ : ∃ k : Nat, i = k := ⟨i.toNat, by omega⟩
    have hk : k < t.links.length := by omega
    have e : setL t k d = (setDn t k d, 0) := by simp [setL, hk]
    rw [e]
    have ha2 := hf.links
    have ha3 := hf.hosts
    refine PC.walk tok mixed cfg0 Tryz.func42 rfl Tryz.call42 (by simp [belT, belP, bel_slI, bel_slL, bel_slP, bel_ints, bel_Ps, bel_Ls, bel_encTE]) (by first | rfl | simp [belT, belP, bel_slI, bel_slL, bel_slP, bel_ints, bel_Ps, bel_Ls, bel_encTE]) ?_; simp (maxSteps := 2000000) -implicitDefEqProofs +contextual (disch := first | assumption | omega | decide +kernel) only [push_cast, ↓capI, br2_true, br2_false, frk_tt, frk_tf, frk_f, frkD_tt, frkD_tf, frkD_f, pk2_true, pk2_false, imp_true, seval, Nat.reduceLeDiff, Nat.reduceEqDiff, reduceCtorEq, ↓reduceIte, encT, encP, encL, slI, slP, slL, cfg0, get_flat_part lenP, get_flat_part lenL, get_flat_drop lenL, len_flat lenP, len_flat lenL, eqP, eqL, getI_nat, ones_P, ones_L, ones_I, take_P, take_L, take_I, Tryz.ntmps42]
    refine callO.pcj (pcj54 t hf hp) ?_
    simp (maxSteps := 2000000) -implicitDefEqProofs +contextual (disch := first | assumption | omega | decide +kernel) only [push_cast, ↓capI, br2_true, br2_false, frk_tt, frk_tf, frk_f, frkD_tt, frkD_tf, frkD_f, pk2_true, pk2_false, imp_true, seval, Nat.reduceLeDiff, Nat.reduceEqDiff, reduceCtorEq, ↓reduceIte, encT, encP, encL, slI, slP, slL, cfg0, get_flat_part lenP, get_flat_part lenL, get_flat_drop lenL, len_flat lenP, len_flat lenL, eqP, eqL, getI_nat, ones_P, ones_L, ones_I, take_P, take_L, take_I, bufT, obsT, shs_L, shs_P, shs_I, hk]
    refine endK.gn (Gn.freeze (id := 5) rfl) ?_; refine endK.gn (Gn.freeze (id := 6) rfl) ?_; refine endK.gn (Gn.freeze (id := 7) rfl) ?_; refine endK.ret ?_ (by first | rfl | simp [belT, belP, bel_slI, bel_slL, bel_slP, bel_ints, bel_Ps, bel_Ls, bel_encTE]); simp [belT, belP, bel_slI, bel_slL, bel_slP, bel_ints, bel_Ps, bel_Ls, bel_encTE, fzs_ok, imp, lenOK_iff, List.take_of_length_le, evRes, getT, getO, setO, fzs, fz, fzH, Nat.beq, retV, Res.then, ldT, ldR, mkV, getV, tt_26, tt_61, tt_22, tt_23, tt_24, tt_3, tt_4, tt_85, tt_30, encT, encP, encL, slI, slP, slL, cfg0, get_flat_part lenP, get_flat_part lenL, get_flat_drop lenL, len_flat lenP, len_flat lenL, eqP, eqL, getI_nat, ones_P, ones_L, ones_I, take_P, take_L, take_I, Tryz.f42,  bufT, obsT, put_dn hk, encTE, setDn]
  · have e : setL t i d = (nilT, 8) := by simp only [setL, hi, if_false]
    rw [e]
    have hne : i < 0 ∨ (t.links.length : Int) ≤ i := by omega
    refine (PC.laxr (v := .tup [.agg [.sl true [] 0, .sl true [] 0, .sl true [] 0], .int .i64 8]) ?_)
    refine PC.walk tok mixed cfg0 Tryz.func42 rfl Tryz.call42 (by simp [belT, belP, bel_slI, bel_slL, bel_slP, bel_ints, bel_Ps, bel_Ls, bel_encTE]) (by first | rfl | simp [belT, belP, bel_slI, bel_slL, bel_slP, bel_ints, bel_Ps, bel_Ls, bel_encTE]) ?_; simp (maxSteps := 2000000) -implicitDefEqProofs +contextual (disch := first | assumption | omega | decide +kernel) only [push_cast, ↓capI, br2_true, br2_false, frk_tt, frk_tf, frk_f, frkD_tt, frkD_tf, frkD_f, pk2_true, pk2_false, imp_true, seval, Nat.reduceLeDiff, Nat.reduceEqDiff, reduceCtorEq, ↓reduceIte, encT, encP, encL, slI, slP, slL, cfg0, get_flat_part lenP, get_flat_part lenL, get_flat_drop lenL, len_flat lenP, len_flat lenL, eqP, eqL, getI_nat, ones_P, ones_L, ones_I, take_P, take_L, take_I, Tryz.ntmps42]
    rcases hne with h | h
    · simp (maxSteps := 2000000) -implicitDefEqProofs +contextual (disch := first | assumption | omega | decide +kernel) only [push_cast, ↓capI, br2_true, br2_false, frk_tt, frk_tf, frk_f, frkD_tt, frkD_tf, frkD_f, pk2_true, pk2_false, imp_true, seval, Nat.reduceLeDiff, Nat.reduceEqDiff, reduceCtorEq, ↓reduceIte, encT, encP, encL, slI, slP, slL, cfg0, get_flat_part lenP, get_flat_part lenL, get_flat_drop lenL, len_flat lenP, len_flat lenL, eqP, eqL, getI_nat, ones_P, ones_L, ones_I, take_P, take_L, take_I, h]
      refine endK.ret ?_ (by first | rfl | simp [belT, belP, bel_slI, bel_slL, bel_slP, bel_ints, bel_Ps, bel_Ls, bel_encTE]); simp [belT, belP, bel_slI, bel_slL, bel_slP, bel_ints, bel_Ps, bel_Ls, bel_encTE, fzs_ok, imp, lenOK_iff, List.take_of_length_le, evRes, getT, getO, setO, fzs, fz, fzH, Nat.beq, retV, Res.then, ldT, ldR, mkV, getV, tt_26, tt_61, tt_22, tt_23, tt_24, tt_3, tt_4, tt_85, tt_30, encT, encP, encL, slI, slP, slL, cfg0, get_flat_part lenP, get_flat_part lenL, get_flat_drop lenL, len_flat lenP, len_flat lenL, eqP, eqL, getI_nat, ones_P, ones_L, ones_I, take_P, take_L, take_I, Tryz.f42]
    · simp (maxSteps := 2000000) -implicitDefEqProofs +contextual (disch := first | assumption | omega | decide +kernel) only [push_cast, ↓capI, br2_true, br2_false, frk_tt, frk_tf, frk_f, frkD_tt, frkD_tf, frkD_f, pk2_true, pk2_false, imp_true, seval, Nat.reduceLeDiff, Nat.reduceEqDiff, reduceCtorEq, ↓reduceIte, encT, encP, encL, slI, slP, slL, cfg0, get_flat_part lenP, get_flat_part lenL, get_flat_drop lenL, len_flat lenP, len_flat lenL, eqP, eqL, getI_nat, ones_P, ones_L, ones_I, take_P, take_L, take_I, h]
      refine endK.ret ?_ (by first | rfl | simp [belT, belP, bel_slI, bel_slL, bel_slP, bel_ints, bel_Ps, bel_Ls, bel_encTE]); simp [belT, belP, bel_slI, bel_slL, bel_slP, bel_ints, bel_Ps, bel_Ls, bel_encTE, fzs_ok, imp, lenOK_iff, List.take_of_length_le, evRes, getT, getO, setO, fzs, fz, fzH, Nat.beq, retV, Res.then, ldT, ldR, mkV, getV, tt_26, tt_61, tt_22, tt_23, tt_24, tt_3, tt_4, tt_85, tt_30, encT, encP, encL, slI, slP, slL, cfg0, get_flat_part lenP, get_flat_part lenL, get_flat_drop lenL, len_flat lenP, len_flat lenL, eqP, eqL, getI_nat, ones_P, ones_L, ones_I, take_P, take_L, take_I, Tryz.f42]
end Go.Proofs.YtafongdfnpnneaaGreatDoor.Top


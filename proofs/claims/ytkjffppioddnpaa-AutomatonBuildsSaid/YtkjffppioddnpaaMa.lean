/-
  Joined by a program from the texts Types Base Nod Aut Num Drv Clo Der Stp Acc.
-/
import Derived.Test.YtkjffppioddnpaaProg
import Derived.KernelRfl
import Derived.Test.YtkjffppioddnpaaVm5
import Derived.Test.YtkjffppioddnpaaVm4
import Derived.Test.YtkjffppioddnpaaVm6
import Derived.Test.YtkjffppioddnpaaVm7
import Derived.Test.YtkjffppioddnpaaVm11
/- The table of types of this program, for the library Vm, and that it is true. Printed by a program (types.py). -/
set_option linter.all false
set_option maxRecDepth 100000
namespace Go.Proofs.Ytkjffppioddnpaa
open Go.Vm
instance gtab : GlobTab := ⟨fun _ => none⟩
def ty3 : TI := ⟨1, 8, false, .int .i64 0, .int .i64, [], true⟩
def ty4 : TI := ⟨1, 1, false, .bool false, .bool, [], true⟩
def ty22 : TI := ⟨1, 24, false, .sl true [] 0, .slice 45, [], false⟩
def ty24 : TI := ⟨1, 24, false, .sl true [] 0, .slice 33, [], false⟩
def ty25 : TI := ⟨1, 24, false, .sl true [] 0, .slice 4, [], false⟩
def ty27 : TI := ⟨2, 48, true, .agg [.sl true [] 0, .sl true [] 0], .struct [(0, 24), (1, 25)], [], false⟩
def ty28 : TI := ⟨1, 8, false, .int .i64 0, .int .i64, [], true⟩
def ty33 : TI := ⟨1, 24, false, .sl true [] 0, .slice 3, [], false⟩
def ty45 : TI := ⟨2, 16, true, .agg [.int .i64 0, .int .i64 0], .struct [(0, 3), (1, 3)], [.int .i64, .int .i64], true⟩
def ty48 : TI := ⟨1, 16, false, .nili, .iface, [], true⟩
def ty52 : TI := ⟨2, 48, true, .agg [.sl true [] 0, .sl true [] 0], .struct [(0, 24), (1, 25)], [], false⟩
def ty60 : TI := ⟨1, 24, false, .sl true [] 0, .slice 61, [], false⟩
def ty61 : TI := ⟨1, 24, false, .sl true [] 0, .slice 25, [], false⟩
def ty64 : TI := ⟨2, 16, true, .agg [.int .i64 0, .int .i64 0], .struct [(0, 3), (1, 3)], [.int .i64, .int .i64], true⟩
def ty66 : TI := ⟨3, 40, true, .agg [.int .i64 0, .int .i64 0, .sl true [] 0], .struct [(0, 64), (2, 33)], [], false⟩
def ty67 : TI := ⟨1, 24, false, .sl true [] 0, .slice 66, [], false⟩
def ty68 : TI := ⟨1, 8, false, .nilm, .map 64 4, [], false⟩
def ty71 : TI := ⟨4, 32, true, .agg [.int .i64 0, .int .i64 0, .int .i64 0, .int .i64 0], .struct [(0, 3), (1, 3), (2, 3), (3, 3)], [.int .i64, .int .i64, .int .i64, .int .i64], true⟩
def ty72 : TI := ⟨1, 24, false, .sl true [] 0, .slice 71, [], false⟩
def ty75 : TI := ⟨1, 16, false, .nili, .iface, [], true⟩
def ty79 : TI := ⟨0, 0, true, .agg [], .struct [], [], true⟩
def ty80 : TI := ⟨0, 0, true, .agg [], .struct [], [], true⟩
def ty82 : TI := ⟨1, 8, true, .agg [.int .i64 0], .struct [(0, 3)], [.int .i64], true⟩
def ty84 : TI := ⟨1, 16, true, .agg [.nili], .struct [(0, 48)], [], true⟩
def ty86 : TI := ⟨2, 32, true, .agg [.nili, .nili], .struct [(0, 48), (1, 48)], [], true⟩
def ty87 : TI := ⟨2, 32, true, .agg [.nili, .nili], .struct [(0, 48), (1, 48)], [], true⟩
def ty88 : TI := ⟨1, 8, false, .nilp, .ptr 92, [], false⟩
def ty89 : TI := ⟨1, 8, false, .nilm, .map 48 3, [], false⟩
def ty90 : TI := ⟨1, 24, false, .sl true [] 0, .slice 48, [], false⟩
def ty92 : TI := ⟨2, 32, true, .agg [.nilm, .sl true [] 0], .struct [(0, 89), (1, 90)], [], false⟩
def ty93 : TI := ⟨1, 8, false, .int .u64 0, .int .u64, [], true⟩
def ty95 : TI := ⟨1, 24, false, .sl true [] 0, .slice 93, [], false⟩
def ty96 : TI := ⟨1, 8, false, .nilm, .map 93 3, [], false⟩
def ty101 : TI := ⟨1, 8, false, .nilm, .map 3 3, [], false⟩
def ty106 : TI := ⟨1, 4, false, .int .u32 0, .int .u32, [], true⟩
def ty108 : TI := ⟨4, 24, true, .agg [.bool false, .int .u32 0, .int .u32 0, .int .i64 0], .struct [(0, 4), (1, 106), (2, 106), (3, 3)], [.bool, .int .u32, .int .u32, .int .i64], true⟩
def ty110 : TI := ⟨1, 24, false, .sl true [] 0, .slice 106, [], false⟩
def ty113 : TI := ⟨2, 8, true, .agg [.int .u32 0, .bool false], .struct [(0, 106), (1, 4)], [.int .u32, .bool], true⟩
def ty114 : TI := ⟨1, 24, false, .sl true [] 0, .slice 113, [], false⟩
def ty122 : TI := ⟨1, 8, false, .nilf, .func, [], false⟩
def ty124 : TI := ⟨1, 8, false, .nilm, .map 126 3, [], false⟩
def ty126 : TI := ⟨17, 136, true, .agg [.int .i64 0, .int .i64 0, .int .i64 0, .int .i64 0, .int .i64 0, .int .i64 0, .int .i64 0, .int .i64 0, .int .i64 0, .int .i64 0, .int .i64 0, .int .i64 0, .int .i64 0, .int .i64 0, .int .i64 0, .int .i64 0, .int .i64 0], .arr 17 3, [], true⟩
def ty131 : TI := ⟨1, 8, false, .int .u64 0, .int .u64, [], true⟩
def ty134 : TI := ⟨2, 16, true, .agg [.int .i64 0, .int .i64 0], .struct [(0, 45)], [.int .i64, .int .i64], true⟩
def ty136 : TI := ⟨1, 16, true, .agg [.nili], .struct [(0, 75)], [], true⟩
def ty138 : TI := ⟨3, 40, true, .agg [.int .i64 0, .nili, .nili], .struct [(0, 3), (1, 75), (2, 75)], [], true⟩
def ty142 : TI := ⟨1, 8, false, .nilf, .func, [], false⟩
def ttL : List TI := [TI.none, TI.none, TI.none, ty3, ty4, TI.none, TI.none, TI.none, TI.none, TI.none, TI.none, TI.none, TI.none, TI.none, TI.none, TI.none, TI.none, TI.none, TI.none, TI.none, TI.none, TI.none, ty22, TI.none, ty24, ty25, TI.none, ty27, ty28, TI.none, TI.none, TI.none, TI.none, ty33, TI.none, TI.none, TI.none, TI.none, TI.none, TI.none, TI.none, TI.none, TI.none, TI.none, TI.none, ty45, TI.none, TI.none, ty48, TI.none, TI.none, TI.none, ty52, TI.none, TI.none, TI.none, TI.none, TI.none, TI.none, TI.none, ty60, ty61, TI.none, TI.none, ty64, TI.none, ty66, ty67, ty68, TI.none, TI.none, ty71, ty72, TI.none, TI.none, ty75, TI.none, TI.none, TI.none, ty79, ty80, TI.none, ty82, TI.none, ty84, TI.none, ty86, ty87, ty88, ty89, ty90, TI.none, ty92, ty93, TI.none, ty95, ty96, TI.none, TI.none, TI.none, TI.none, ty101, TI.none, TI.none, TI.none, TI.none, ty106, TI.none, ty108, TI.none, ty110, TI.none, TI.none, ty113, ty114, TI.none, TI.none, TI.none, TI.none, TI.none, TI.none, TI.none, ty122, TI.none, ty124, TI.none, ty126, TI.none, TI.none, TI.none, TI.none, ty131, TI.none, TI.none, ty134, TI.none, ty136, TI.none, ty138, TI.none, TI.none, TI.none, ty142, TI.none, TI.none, TI.none, TI.none, TI.none, TI.none, TI.none, TI.none, TI.none, TI.none, TI.none, TI.none, TI.none, TI.none, TI.none, TI.none, TI.none, TI.none, TI.none]
def tt (t : Nat) : TI := ttOf ttL t
theorem tt_3 : tt 3 = ⟨1, 8, false, .int .i64 0, .int .i64, [], true⟩ := rfl
theorem tt_4 : tt 4 = ⟨1, 1, false, .bool false, .bool, [], true⟩ := rfl
theorem tt_22 : tt 22 = ⟨1, 24, false, .sl true [] 0, .slice 45, [], false⟩ := rfl
theorem tt_24 : tt 24 = ⟨1, 24, false, .sl true [] 0, .slice 33, [], false⟩ := rfl
theorem tt_25 : tt 25 = ⟨1, 24, false, .sl true [] 0, .slice 4, [], false⟩ := rfl
theorem tt_27 : tt 27 = ⟨2, 48, true, .agg [.sl true [] 0, .sl true [] 0], .struct [(0, 24), (1, 25)], [], false⟩ := rfl
theorem tt_28 : tt 28 = ⟨1, 8, false, .int .i64 0, .int .i64, [], true⟩ := rfl
theorem tt_33 : tt 33 = ⟨1, 24, false, .sl true [] 0, .slice 3, [], false⟩ := rfl
theorem tt_45 : tt 45 = ⟨2, 16, true, .agg [.int .i64 0, .int .i64 0], .struct [(0, 3), (1, 3)], [.int .i64, .int .i64], true⟩ := rfl
theorem tt_48 : tt 48 = ⟨1, 16, false, .nili, .iface, [], true⟩ := rfl
theorem tt_52 : tt 52 = ⟨2, 48, true, .agg [.sl true [] 0, .sl true [] 0], .struct [(0, 24), (1, 25)], [], false⟩ := rfl
theorem tt_60 : tt 60 = ⟨1, 24, false, .sl true [] 0, .slice 61, [], false⟩ := rfl
theorem tt_61 : tt 61 = ⟨1, 24, false, .sl true [] 0, .slice 25, [], false⟩ := rfl
theorem tt_64 : tt 64 = ⟨2, 16, true, .agg [.int .i64 0, .int .i64 0], .struct [(0, 3), (1, 3)], [.int .i64, .int .i64], true⟩ := rfl
theorem tt_66 : tt 66 = ⟨3, 40, true, .agg [.int .i64 0, .int .i64 0, .sl true [] 0], .struct [(0, 64), (2, 33)], [], false⟩ := rfl
theorem tt_67 : tt 67 = ⟨1, 24, false, .sl true [] 0, .slice 66, [], false⟩ := rfl
theorem tt_68 : tt 68 = ⟨1, 8, false, .nilm, .map 64 4, [], false⟩ := rfl
theorem tt_71 : tt 71 = ⟨4, 32, true, .agg [.int .i64 0, .int .i64 0, .int .i64 0, .int .i64 0], .struct [(0, 3), (1, 3), (2, 3), (3, 3)], [.int .i64, .int .i64, .int .i64, .int .i64], true⟩ := rfl
theorem tt_72 : tt 72 = ⟨1, 24, false, .sl true [] 0, .slice 71, [], false⟩ := rfl
theorem tt_75 : tt 75 = ⟨1, 16, false, .nili, .iface, [], true⟩ := rfl
theorem tt_79 : tt 79 = ⟨0, 0, true, .agg [], .struct [], [], true⟩ := rfl
theorem tt_80 : tt 80 = ⟨0, 0, true, .agg [], .struct [], [], true⟩ := rfl
theorem tt_82 : tt 82 = ⟨1, 8, true, .agg [.int .i64 0], .struct [(0, 3)], [.int .i64], true⟩ := rfl
theorem tt_84 : tt 84 = ⟨1, 16, true, .agg [.nili], .struct [(0, 48)], [], true⟩ := rfl
theorem tt_86 : tt 86 = ⟨2, 32, true, .agg [.nili, .nili], .struct [(0, 48), (1, 48)], [], true⟩ := rfl
theorem tt_87 : tt 87 = ⟨2, 32, true, .agg [.nili, .nili], .struct [(0, 48), (1, 48)], [], true⟩ := rfl
theorem tt_88 : tt 88 = ⟨1, 8, false, .nilp, .ptr 92, [], false⟩ := rfl
theorem tt_89 : tt 89 = ⟨1, 8, false, .nilm, .map 48 3, [], false⟩ := rfl
theorem tt_90 : tt 90 = ⟨1, 24, false, .sl true [] 0, .slice 48, [], false⟩ := rfl
theorem tt_92 : tt 92 = ⟨2, 32, true, .agg [.nilm, .sl true [] 0], .struct [(0, 89), (1, 90)], [], false⟩ := rfl
theorem tt_93 : tt 93 = ⟨1, 8, false, .int .u64 0, .int .u64, [], true⟩ := rfl
theorem tt_95 : tt 95 = ⟨1, 24, false, .sl true [] 0, .slice 93, [], false⟩ := rfl
theorem tt_96 : tt 96 = ⟨1, 8, false, .nilm, .map 93 3, [], false⟩ := rfl
theorem tt_101 : tt 101 = ⟨1, 8, false, .nilm, .map 3 3, [], false⟩ := rfl
theorem tt_106 : tt 106 = ⟨1, 4, false, .int .u32 0, .int .u32, [], true⟩ := rfl
theorem tt_108 : tt 108 = ⟨4, 24, true, .agg [.bool false, .int .u32 0, .int .u32 0, .int .i64 0], .struct [(0, 4), (1, 106), (2, 106), (3, 3)], [.bool, .int .u32, .int .u32, .int .i64], true⟩ := rfl
theorem tt_110 : tt 110 = ⟨1, 24, false, .sl true [] 0, .slice 106, [], false⟩ := rfl
theorem tt_113 : tt 113 = ⟨2, 8, true, .agg [.int .u32 0, .bool false], .struct [(0, 106), (1, 4)], [.int .u32, .bool], true⟩ := rfl
theorem tt_114 : tt 114 = ⟨1, 24, false, .sl true [] 0, .slice 113, [], false⟩ := rfl
theorem tt_122 : tt 122 = ⟨1, 8, false, .nilf, .func, [], false⟩ := rfl
theorem tt_124 : tt 124 = ⟨1, 8, false, .nilm, .map 126 3, [], false⟩ := rfl
theorem tt_126 : tt 126 = ⟨17, 136, true, .agg [.int .i64 0, .int .i64 0, .int .i64 0, .int .i64 0, .int .i64 0, .int .i64 0, .int .i64 0, .int .i64 0, .int .i64 0, .int .i64 0, .int .i64 0, .int .i64 0, .int .i64 0, .int .i64 0, .int .i64 0, .int .i64 0, .int .i64 0], .arr 17 3, [], true⟩ := rfl
theorem tt_131 : tt 131 = ⟨1, 8, false, .int .u64 0, .int .u64, [], true⟩ := rfl
theorem tt_134 : tt 134 = ⟨2, 16, true, .agg [.int .i64 0, .int .i64 0], .struct [(0, 45)], [.int .i64, .int .i64], true⟩ := rfl
theorem tt_136 : tt 136 = ⟨1, 16, true, .agg [.nili], .struct [(0, 75)], [], true⟩ := rfl
theorem tt_138 : tt 138 = ⟨3, 40, true, .agg [.int .i64 0, .nili, .nili], .struct [(0, 3), (1, 75), (2, 75)], [], true⟩ := rfl
theorem tt_142 : tt 142 = ⟨1, 8, false, .nilf, .func, [], false⟩ := rfl
attribute [push_cast] tt_3 tt_4 tt_22 tt_24 tt_25 tt_27 tt_28 tt_33 tt_45 tt_48 tt_52 tt_60 tt_61 tt_64 tt_66 tt_67 tt_68 tt_71 tt_72 tt_75 tt_79 tt_80 tt_82 tt_84 tt_86 tt_87 tt_88 tt_89 tt_90 tt_92 tt_93 tt_95 tt_96 tt_101 tt_106 tt_108 tt_110 tt_113 tt_114 tt_122 tt_124 tt_126 tt_131 tt_134 tt_136 tt_138 tt_142
theorem row_3 : TIok Try.prog 3 ty3 := TIok.of_row (by kernel_rfl) (z := .int .i64 0) (by kernel_rfl) (fun _ _ _ => ofConst_sound (.int .i64 0)) (by kernel_rfl) (by kernel_rfl) (fun h => absurd h (by decide))
theorem row_4 : TIok Try.prog 4 ty4 := TIok.of_row (by kernel_rfl) (z := .bool false) (by kernel_rfl) (fun _ _ _ => ofConst_sound (.bool false)) (by kernel_rfl) (by kernel_rfl) (fun h => absurd h (by decide))
theorem row_22 : TIok Try.prog 22 ty22 := TIok.of_row (by kernel_rfl) (z := .slice none 0 0) (by kernel_rfl) (fun _ _ _ => ofConst_sound (.slice none 0 0)) (by kernel_rfl) (by kernel_rfl) (fun h => absurd h (by decide))
theorem row_24 : TIok Try.prog 24 ty24 := TIok.of_row (by kernel_rfl) (z := .slice none 0 0) (by kernel_rfl) (fun _ _ _ => ofConst_sound (.slice none 0 0)) (by kernel_rfl) (by kernel_rfl) (fun h => absurd h (by decide))
theorem row_25 : TIok Try.prog 25 ty25 := TIok.of_row (by kernel_rfl) (z := .slice none 0 0) (by kernel_rfl) (fun _ _ _ => ofConst_sound (.slice none 0 0)) (by kernel_rfl) (by kernel_rfl) (fun h => absurd h (by decide))
theorem row_27 : TIok Try.prog 27 ty27 := TIok.of_row (by kernel_rfl) (z := .agg #[.slice none 0 0, .slice none 0 0]) (by kernel_rfl) (fun _ _ _ => ofConst_sound (.agg #[.slice none 0 0, .slice none 0 0])) (by kernel_rfl) (by kernel_rfl) (fun _ => .inl rfl)
theorem row_28 : TIok Try.prog 28 ty28 := TIok.of_row (by kernel_rfl) (z := .int .i64 0) (by kernel_rfl) (fun _ _ _ => ofConst_sound (.int .i64 0)) (by kernel_rfl) (by kernel_rfl) (fun h => absurd h (by decide))
theorem row_33 : TIok Try.prog 33 ty33 := TIok.of_row (by kernel_rfl) (z := .slice none 0 0) (by kernel_rfl) (fun _ _ _ => ofConst_sound (.slice none 0 0)) (by kernel_rfl) (by kernel_rfl) (fun h => absurd h (by decide))
theorem row_45 : TIok Try.prog 45 ty45 := TIok.of_row (by kernel_rfl) (z := .agg #[.int .i64 0, .int .i64 0]) (by kernel_rfl) (fun _ _ _ => ofConst_sound (.agg #[.int .i64 0, .int .i64 0])) (by kernel_rfl) (by kernel_rfl) (fun _ => .inr (by kernel_rfl))
theorem row_48 : TIok Try.prog 48 ty48 := TIok.of_row (by kernel_rfl) (z := .nilIface) (by kernel_rfl) (fun _ _ _ => ofConst_sound (.nilIface)) (by kernel_rfl) (by kernel_rfl) (fun h => absurd h (by decide))
theorem row_52 : TIok Try.prog 52 ty52 := TIok.of_row (by kernel_rfl) (z := .agg #[.slice none 0 0, .slice none 0 0]) (by kernel_rfl) (fun _ _ _ => ofConst_sound (.agg #[.slice none 0 0, .slice none 0 0])) (by kernel_rfl) (by kernel_rfl) (fun _ => .inl rfl)
theorem row_60 : TIok Try.prog 60 ty60 := TIok.of_row (by kernel_rfl) (z := .slice none 0 0) (by kernel_rfl) (fun _ _ _ => ofConst_sound (.slice none 0 0)) (by kernel_rfl) (by kernel_rfl) (fun h => absurd h (by decide))
theorem row_61 : TIok Try.prog 61 ty61 := TIok.of_row (by kernel_rfl) (z := .slice none 0 0) (by kernel_rfl) (fun _ _ _ => ofConst_sound (.slice none 0 0)) (by kernel_rfl) (by kernel_rfl) (fun h => absurd h (by decide))
theorem row_64 : TIok Try.prog 64 ty64 := TIok.of_row (by kernel_rfl) (z := .agg #[.int .i64 0, .int .i64 0]) (by kernel_rfl) (fun _ _ _ => ofConst_sound (.agg #[.int .i64 0, .int .i64 0])) (by kernel_rfl) (by kernel_rfl) (fun _ => .inr (by kernel_rfl))
theorem row_66 : TIok Try.prog 66 ty66 := TIok.of_row (by kernel_rfl) (z := .agg #[.int .i64 0, .int .i64 0, .slice none 0 0]) (by kernel_rfl) (fun _ _ _ => ofConst_sound (.agg #[.int .i64 0, .int .i64 0, .slice none 0 0])) (by kernel_rfl) (by kernel_rfl) (fun _ => .inl rfl)
theorem row_67 : TIok Try.prog 67 ty67 := TIok.of_row (by kernel_rfl) (z := .slice none 0 0) (by kernel_rfl) (fun _ _ _ => ofConst_sound (.slice none 0 0)) (by kernel_rfl) (by kernel_rfl) (fun h => absurd h (by decide))
theorem row_68 : TIok Try.prog 68 ty68 := TIok.of_row (by kernel_rfl) (z := .map none) (by kernel_rfl) (fun _ _ _ => ofConst_sound (.map none)) (by kernel_rfl) (by kernel_rfl) (fun h => absurd h (by decide))
theorem row_71 : TIok Try.prog 71 ty71 := TIok.of_row (by kernel_rfl) (z := .agg #[.int .i64 0, .int .i64 0, .int .i64 0, .int .i64 0]) (by kernel_rfl) (fun _ _ _ => ofConst_sound (.agg #[.int .i64 0, .int .i64 0, .int .i64 0, .int .i64 0])) (by kernel_rfl) (by kernel_rfl) (fun _ => .inr (by kernel_rfl))
theorem row_72 : TIok Try.prog 72 ty72 := TIok.of_row (by kernel_rfl) (z := .slice none 0 0) (by kernel_rfl) (fun _ _ _ => ofConst_sound (.slice none 0 0)) (by kernel_rfl) (by kernel_rfl) (fun h => absurd h (by decide))
theorem row_75 : TIok Try.prog 75 ty75 := TIok.of_row (by kernel_rfl) (z := .nilIface) (by kernel_rfl) (fun _ _ _ => ofConst_sound (.nilIface)) (by kernel_rfl) (by kernel_rfl) (fun h => absurd h (by decide))
theorem row_79 : TIok Try.prog 79 ty79 := TIok.of_row (by kernel_rfl) (z := .agg #[]) (by kernel_rfl) (fun _ _ _ => ofConst_sound (.agg #[])) (by kernel_rfl) (by kernel_rfl) (fun _ => .inl rfl)
theorem row_80 : TIok Try.prog 80 ty80 := TIok.of_row (by kernel_rfl) (z := .agg #[]) (by kernel_rfl) (fun _ _ _ => ofConst_sound (.agg #[])) (by kernel_rfl) (by kernel_rfl) (fun _ => .inl rfl)
theorem row_82 : TIok Try.prog 82 ty82 := TIok.of_row (by kernel_rfl) (z := .agg #[.int .i64 0]) (by kernel_rfl) (fun _ _ _ => ofConst_sound (.agg #[.int .i64 0])) (by kernel_rfl) (by kernel_rfl) (fun _ => .inr (by kernel_rfl))
theorem row_84 : TIok Try.prog 84 ty84 := TIok.of_row (by kernel_rfl) (z := .agg #[.nilIface]) (by kernel_rfl) (fun _ _ _ => ofConst_sound (.agg #[.nilIface])) (by kernel_rfl) (by kernel_rfl) (fun _ => .inl rfl)
theorem row_86 : TIok Try.prog 86 ty86 := TIok.of_row (by kernel_rfl) (z := .agg #[.nilIface, .nilIface]) (by kernel_rfl) (fun _ _ _ => ofConst_sound (.agg #[.nilIface, .nilIface])) (by kernel_rfl) (by kernel_rfl) (fun _ => .inl rfl)
theorem row_87 : TIok Try.prog 87 ty87 := TIok.of_row (by kernel_rfl) (z := .agg #[.nilIface, .nilIface]) (by kernel_rfl) (fun _ _ _ => ofConst_sound (.agg #[.nilIface, .nilIface])) (by kernel_rfl) (by kernel_rfl) (fun _ => .inl rfl)
theorem row_88 : TIok Try.prog 88 ty88 := TIok.of_row (by kernel_rfl) (z := .pointer none) (by kernel_rfl) (fun _ _ _ => ofConst_sound (.pointer none)) (by kernel_rfl) (by kernel_rfl) (fun h => absurd h (by decide))
theorem row_89 : TIok Try.prog 89 ty89 := TIok.of_row (by kernel_rfl) (z := .map none) (by kernel_rfl) (fun _ _ _ => ofConst_sound (.map none)) (by kernel_rfl) (by kernel_rfl) (fun h => absurd h (by decide))
theorem row_90 : TIok Try.prog 90 ty90 := TIok.of_row (by kernel_rfl) (z := .slice none 0 0) (by kernel_rfl) (fun _ _ _ => ofConst_sound (.slice none 0 0)) (by kernel_rfl) (by kernel_rfl) (fun h => absurd h (by decide))
theorem row_92 : TIok Try.prog 92 ty92 := TIok.of_row (by kernel_rfl) (z := .agg #[.map none, .slice none 0 0]) (by kernel_rfl) (fun _ _ _ => ofConst_sound (.agg #[.map none, .slice none 0 0])) (by kernel_rfl) (by kernel_rfl) (fun _ => .inl rfl)
theorem row_93 : TIok Try.prog 93 ty93 := TIok.of_row (by kernel_rfl) (z := .int .u64 0) (by kernel_rfl) (fun _ _ _ => ofConst_sound (.int .u64 0)) (by kernel_rfl) (by kernel_rfl) (fun h => absurd h (by decide))
theorem row_95 : TIok Try.prog 95 ty95 := TIok.of_row (by kernel_rfl) (z := .slice none 0 0) (by kernel_rfl) (fun _ _ _ => ofConst_sound (.slice none 0 0)) (by kernel_rfl) (by kernel_rfl) (fun h => absurd h (by decide))
theorem row_96 : TIok Try.prog 96 ty96 := TIok.of_row (by kernel_rfl) (z := .map none) (by kernel_rfl) (fun _ _ _ => ofConst_sound (.map none)) (by kernel_rfl) (by kernel_rfl) (fun h => absurd h (by decide))
theorem row_101 : TIok Try.prog 101 ty101 := TIok.of_row (by kernel_rfl) (z := .map none) (by kernel_rfl) (fun _ _ _ => ofConst_sound (.map none)) (by kernel_rfl) (by kernel_rfl) (fun h => absurd h (by decide))
theorem row_106 : TIok Try.prog 106 ty106 := TIok.of_row (by kernel_rfl) (z := .int .u32 0) (by kernel_rfl) (fun _ _ _ => ofConst_sound (.int .u32 0)) (by kernel_rfl) (by kernel_rfl) (fun h => absurd h (by decide))
theorem row_108 : TIok Try.prog 108 ty108 := TIok.of_row (by kernel_rfl) (z := .agg #[.bool false, .int .u32 0, .int .u32 0, .int .i64 0]) (by kernel_rfl) (fun _ _ _ => ofConst_sound (.agg #[.bool false, .int .u32 0, .int .u32 0, .int .i64 0])) (by kernel_rfl) (by kernel_rfl) (fun _ => .inr (by kernel_rfl))
theorem row_110 : TIok Try.prog 110 ty110 := TIok.of_row (by kernel_rfl) (z := .slice none 0 0) (by kernel_rfl) (fun _ _ _ => ofConst_sound (.slice none 0 0)) (by kernel_rfl) (by kernel_rfl) (fun h => absurd h (by decide))
theorem row_113 : TIok Try.prog 113 ty113 := TIok.of_row (by kernel_rfl) (z := .agg #[.int .u32 0, .bool false]) (by kernel_rfl) (fun _ _ _ => ofConst_sound (.agg #[.int .u32 0, .bool false])) (by kernel_rfl) (by kernel_rfl) (fun _ => .inr (by kernel_rfl))
theorem row_114 : TIok Try.prog 114 ty114 := TIok.of_row (by kernel_rfl) (z := .slice none 0 0) (by kernel_rfl) (fun _ _ _ => ofConst_sound (.slice none 0 0)) (by kernel_rfl) (by kernel_rfl) (fun h => absurd h (by decide))
theorem row_122 : TIok Try.prog 122 ty122 := TIok.of_row (by kernel_rfl) (z := .nilFunc) (by kernel_rfl) (fun _ _ _ => ofConst_sound (.nilFunc)) (by kernel_rfl) (by kernel_rfl) (fun h => absurd h (by decide))
theorem row_124 : TIok Try.prog 124 ty124 := TIok.of_row (by kernel_rfl) (z := .map none) (by kernel_rfl) (fun _ _ _ => ofConst_sound (.map none)) (by kernel_rfl) (by kernel_rfl) (fun h => absurd h (by decide))
theorem row_126 : TIok Try.prog 126 ty126 := TIok.of_row (by kernel_rfl) (z := .agg #[.int .i64 0, .int .i64 0, .int .i64 0, .int .i64 0, .int .i64 0, .int .i64 0, .int .i64 0, .int .i64 0, .int .i64 0, .int .i64 0, .int .i64 0, .int .i64 0, .int .i64 0, .int .i64 0, .int .i64 0, .int .i64 0, .int .i64 0]) (by kernel_rfl) (fun _ _ _ => ofConst_sound (.agg #[.int .i64 0, .int .i64 0, .int .i64 0, .int .i64 0, .int .i64 0, .int .i64 0, .int .i64 0, .int .i64 0, .int .i64 0, .int .i64 0, .int .i64 0, .int .i64 0, .int .i64 0, .int .i64 0, .int .i64 0, .int .i64 0, .int .i64 0])) (by kernel_rfl) (by kernel_rfl) (fun _ => .inl rfl)
theorem row_131 : TIok Try.prog 131 ty131 := TIok.of_row (by kernel_rfl) (z := .int .u64 0) (by kernel_rfl) (fun _ _ _ => ofConst_sound (.int .u64 0)) (by kernel_rfl) (by kernel_rfl) (fun h => absurd h (by decide))
theorem row_134 : TIok Try.prog 134 ty134 := TIok.of_row (by kernel_rfl) (z := .agg #[.int .i64 0, .int .i64 0]) (by kernel_rfl) (fun _ _ _ => ofConst_sound (.agg #[.int .i64 0, .int .i64 0])) (by kernel_rfl) (by kernel_rfl) (fun _ => .inr (by kernel_rfl))
theorem row_136 : TIok Try.prog 136 ty136 := TIok.of_row (by kernel_rfl) (z := .agg #[.nilIface]) (by kernel_rfl) (fun _ _ _ => ofConst_sound (.agg #[.nilIface])) (by kernel_rfl) (by kernel_rfl) (fun _ => .inl rfl)
theorem row_138 : TIok Try.prog 138 ty138 := TIok.of_row (by kernel_rfl) (z := .agg #[.int .i64 0, .nilIface, .nilIface]) (by kernel_rfl) (fun _ _ _ => ofConst_sound (.agg #[.int .i64 0, .nilIface, .nilIface])) (by kernel_rfl) (by kernel_rfl) (fun _ => .inl rfl)
theorem row_142 : TIok Try.prog 142 ty142 := TIok.of_row (by kernel_rfl) (z := .nilFunc) (by kernel_rfl) (fun _ _ _ => ofConst_sound (.nilFunc)) (by kernel_rfl) (by kernel_rfl) (fun h => absurd h (by decide))
theorem allOK : AllOK Try.prog 0 ttL := ⟨fun h => absurd rfl h, fun h => absurd rfl h, fun h => absurd rfl h, fun _ => row_3, fun _ => row_4, fun h => absurd rfl h, fun h => absurd rfl h, fun h => absurd rfl h, fun h => absurd rfl h, fun h => absurd rfl h, fun h => absurd rfl h, fun h => absurd rfl h, fun h => absurd rfl h, fun h => absurd rfl h, fun h => absurd rfl h, fun h => absurd rfl h, fun h => absurd rfl h, fun h => absurd rfl h, fun h => absurd rfl h, fun h => absurd rfl h, fun h => absurd rfl h, fun h => absurd rfl h, fun _ => row_22, fun h => absurd rfl h, fun _ => row_24, fun _ => row_25, fun h => absurd rfl h, fun _ => row_27, fun _ => row_28, fun h => absurd rfl h, fun h => absurd rfl h, fun h => absurd rfl h, fun h => absurd rfl h, fun _ => row_33, fun h => absurd rfl h, fun h => absurd rfl h, fun h => absurd rfl h, fun h => absurd rfl h, fun h => absurd rfl h, fun h => absurd rfl h, fun h => absurd rfl h, fun h => absurd rfl h, fun h => absurd rfl h, fun h => absurd rfl h, fun h => absurd rfl h, fun _ => row_45, fun h => absurd rfl h, fun h => absurd rfl h, fun _ => row_48, fun h => absurd rfl h, fun h => absurd rfl h, fun h => absurd rfl h, fun _ => row_52, fun h => absurd rfl h, fun h => absurd rfl h, fun h => absurd rfl h, fun h => absurd rfl h, fun h => absurd rfl h, fun h => absurd rfl h, fun h => absurd rfl h, fun _ => row_60, fun _ => row_61, fun h => absurd rfl h, fun h => absurd rfl h, fun _ => row_64, fun h => absurd rfl h, fun _ => row_66, fun _ => row_67, fun _ => row_68, fun h => absurd rfl h, fun h => absurd rfl h, fun _ => row_71, fun _ => row_72, fun h => absurd rfl h, fun h => absurd rfl h, fun _ => row_75, fun h => absurd rfl h, fun h => absurd rfl h, fun h => absurd rfl h, fun _ => row_79, fun _ => row_80, fun h => absurd rfl h, fun _ => row_82, fun h => absurd rfl h, fun _ => row_84, fun h => absurd rfl h, fun _ => row_86, fun _ => row_87, fun _ => row_88, fun _ => row_89, fun _ => row_90, fun h => absurd rfl h, fun _ => row_92, fun _ => row_93, fun h => absurd rfl h, fun _ => row_95, fun _ => row_96, fun h => absurd rfl h, fun h => absurd rfl h, fun h => absurd rfl h, fun h => absurd rfl h, fun _ => row_101, fun h => absurd rfl h, fun h => absurd rfl h, fun h => absurd rfl h, fun h => absurd rfl h, fun _ => row_106, fun h => absurd rfl h, fun _ => row_108, fun h => absurd rfl h, fun _ => row_110, fun h => absurd rfl h, fun h => absurd rfl h, fun _ => row_113, fun _ => row_114, fun h => absurd rfl h, fun h => absurd rfl h, fun h => absurd rfl h, fun h => absurd rfl h, fun h => absurd rfl h, fun h => absurd rfl h, fun h => absurd rfl h, fun _ => row_122, fun h => absurd rfl h, fun _ => row_124, fun h => absurd rfl h, fun _ => row_126, fun h => absurd rfl h, fun h => absurd rfl h, fun h => absurd rfl h, fun h => absurd rfl h, fun _ => row_131, fun h => absurd rfl h, fun h => absurd rfl h, fun _ => row_134, fun h => absurd rfl h, fun _ => row_136, fun h => absurd rfl h, fun _ => row_138, fun h => absurd rfl h, fun h => absurd rfl h, fun h => absurd rfl h, fun _ => row_142, fun h => absurd rfl h, fun h => absurd rfl h, fun h => absurd rfl h, fun h => absurd rfl h, fun h => absurd rfl h, fun h => absurd rfl h, fun h => absurd rfl h, fun h => absurd rfl h, fun h => absurd rfl h, fun h => absurd rfl h, fun h => absurd rfl h, fun h => absurd rfl h, fun h => absurd rfl h, fun h => absurd rfl h, fun h => absurd rfl h, fun h => absurd rfl h, fun h => absurd rfl h, fun h => absurd rfl h, fun h => absurd rfl h, trivial⟩
theorem tok : TOK Try.prog tt := fun t h => by have := tok_of allOK t h; rwa [Nat.zero_add] at this
end Go.Proofs.Ytkjffppioddnpaa

/- Chapter 42: what all texts of this chapter begin with. -/
set_option maxRecDepth 100000
set_option linter.all false
namespace Go.Proofs.Ytkjffppioddnpaa
open Go.Vm
theorem mixed : Try.prog.follows .mixedOrders = true := by kernel_rfl
def cfg0 : Cfg := { lv := [], ef := [], ord := [], em := [] }
theorem ibeq_dec {a b : Int} : (a == b) = decide (a = b) := by rw [Bool.eq_iff_iff, beq_iff_eq, decide_eq_true_eq]
end Go.Proofs.Ytkjffppioddnpaa

/- Chapter 41: the nodes of a path expression, its tree, and the tree as the program holds it. -/
set_option maxRecDepth 100000
set_option maxHeartbeats 4000000
set_option linter.all false
namespace Go.Proofs.Ytkjffppioddnpaa
open Go.Vm
structure Nd where
  op : Int
  n : Int
  deriving DecidableEq
instance : Inhabited Nd := ⟨⟨0, 0⟩⟩
def encN (x : Nd) : List V := [.int .i64 x.op, .int .i64 x.n]
def slN (l : List Nd) : V := .sl false (l.flatMap encN) l.length
theorem lenN (x : Nd) : (encN x).length = 2 := rfl
theorem belN {n : Nat} (x : Nd) : belAll n (encN x) = true := rfl
theorem bel_Ns {n : Nat} (xs : List Nd) : belAll n (xs.flatMap encN) = true := belAll_flat belN xs
theorem bel_slN {n : Nat} (l : List Nd) : (slN l).bel n = true := by unfold slN; rw [bel_sl]; exact bel_Ns l
theorem fmN (x : Nd) (l : List Nd) : List.flatMap encN (x :: l) = .int .i64 x.op :: .int .i64 x.n :: l.flatMap encN := rfl
theorem fm0 : List.flatMap encN [] = [] := rfl
theorem slN_nil : slN [] = .sl false [] 0 := rfl
theorem take_N {xs : List Nd} : (xs.flatMap encN).take (xs.length * 2) = xs.flatMap encN := by
  rw [List.take_of_length_le (by rw [len_flat lenN]; exact Nat.le_refl _)]
theorem toN1 (n : Nat) : ((n : Int) + 1).toNat - 1 = n := by omega
def op0 (o : Int) : Nd := ⟨o, 0⟩
def nN (x : Nd) : Int := if x.op = 3 then x.n else 0
inductive Pr where
  | leaf (x : Nd)
  | un (x : Nd) (p : Pr)
  | bin (x : Nd) (p q : Pr)
def flat : Pr → List Nd
  | .leaf x => [x]
  | .un x p => x :: flat p
  | .bin x p q => x :: (flat p ++ flat q)
def arity (o : Int) : Int := if o = 1 ∨ o = 2 ∨ o = 3 then 0 else if o = 6 then 1 else if o = 4 ∨ o = 5 then 2 else -1
def badN (sw : Int) (x : Nd) : Prop := x.n < 0 ∨ sw ≤ x.n ∨ 999999999 < x.n
instance (sw : Int) (x : Nd) : Decidable (badN sw x) := by unfold badN; infer_instance
def chk1 (sw : Int) (x : Nd) : Int := if arity x.op < 0 then 11 else if x.op = 3 ∧ badN sw x then 9 else 0
def okP (sw : Int) : Pr → Prop
  | .leaf x => (x.op = 1 ∨ x.op = 2 ∨ x.op = 3) ∧ chk1 sw x = 0
  | .un x p => x.op = 6 ∧ okP sw p
  | .bin x p q => (x.op = 4 ∨ x.op = 5) ∧ okP sw p ∧ okP sw q
def tgX : Pr → Nat
  | .leaf _ => 134
  | .un _ _ => 136
  | .bin _ _ _ => 138
def clX : Pr → List V
  | .leaf x => [.int .i64 x.op, .int .i64 (nN x)]
  | .un _ p => [.ifc (tgX p) (.agg (clX p))]
  | .bin x p q => [.int .i64 x.op, .ifc (tgX p) (.agg (clX p)), .ifc (tgX q) (.agg (clX q))]
def encX (p : Pr) : V := .ifc (tgX p) (.agg (clX p))
theorem bel_clX {n : Nat} : ∀ p, belAll n (clX p) = true
  | .leaf x => rfl
  | .un _ p => by rw [clX, belAll_cons, bel_ifc, bel_agg, bel_clX p]; rfl
  | .bin _ p q => by rw [clX, belAll_cons, belAll_cons, belAll_cons, bel_ifc, bel_agg, bel_ifc, bel_agg, bel_clX p, bel_clX q]; rfl
theorem bel_encX {n : Nat} (p : Pr) : (encX p).bel n = true := by rw [encX, bel_ifc, bel_agg, bel_clX]
inductive Er where
  | no
  | un (e : Er)
  | bin (o : Int) (p : Pr) (e : Er)
def errX : Er → V
  | .no => .nili
  | .un e => .ifc 136 (.agg [errX e])
  | .bin o p e => .ifc 138 (.agg [.int .i64 o, encX p, errX e])
theorem bel_errX {n : Nat} : ∀ m, (errX m).bel n = true
  | .no => rfl
  | .un m => by rw [errX, bel_ifc, bel_agg, belAll_cons, bel_errX m]; rfl
  | .bin o p m => by rw [errX, bel_ifc, bel_agg, belAll_cons, belAll_cons, belAll_cons, bel_encX, bel_errX m]; rfl
theorem st_errX : ∀ m, (errX m).st = errX m
  | .no => rfl
  | .un _ => rfl
  | .bin _ _ _ => rfl
theorem os_errX {g : Bool} {xs : List V} {p : Prop} : ∀ m, optSide g (errX m :: xs) p = optSide g xs p
  | .no => rfl
  | .un _ => rfl
  | .bin _ _ _ => rfl
def rep (f : List Nd → List Nd × Int) : Nat → List Nd → List Nd × Int
  | 0, l => (l, 0)
  | n + 1, l => if (f l).2 ≠ 0 then ([], (f l).2) else rep f n (f l).1
def chk (sw : Int) : Nat → List Nd → List Nd × Int
  | _, [] => ([], 3)
  | 0, _ :: _ => ([], 3)
  | k + 1, x :: l => if chk1 sw x ≠ 0 then ([], chk1 sw x) else rep (chk sw k) (arity x.op).toNat l
theorem rep_len {f : List Nd → List Nd × Int} (h : ∀ l, (f l).1.length ≤ l.length) : ∀ n l, (rep f n l).1.length ≤ l.length
  | 0, l => Nat.le_refl _
  | n + 1, l => by
    rw [rep]
    split
    · exact Nat.zero_le _
    · exact Nat.le_trans (rep_len h n _) (h l)
theorem chk_len (sw : Int) : ∀ k l, (chk sw k l).1.length ≤ l.length
  | 0, [] => Nat.le_refl _
  | 0, _ :: _ => Nat.zero_le _
  | k + 1, [] => Nat.le_refl _
  | k + 1, x :: l => by
    rw [chk]
    split
    · exact Nat.zero_le _
    · exact Nat.le_trans (rep_len (chk_len sw k) _ _) (Nat.le_succ _)
theorem chk1_op {sw : Int} {x : Nd} (h : x.op = 6 ∨ x.op = 4 ∨ x.op = 5) : chk1 sw x = 0 := by
  have ha : ¬ arity x.op < 0 := by rcases h with h | h | h <;> rw [h] <;> decide
  rw [chk1, if_neg ha, if_neg]
  rintro ⟨h3, _⟩
  omega
theorem chk_tree (sw : Int) : ∀ k l, (chk sw k l).2 = 0 → ∃ p, okP sw p ∧ l = flat p ++ (chk sw k l).1
  | 0, [], h => by simp [chk] at h
  | 0, _ :: _, h => by simp [chk] at h
  | _ + 1, [], h => by simp [chk] at h
  | k + 1, x :: l, h => by
    rw [chk] at h ⊢
    by_cases hc : chk1 sw x = 0
    case neg =>
      rw [if_pos hc] at h
      exact absurd h hc
    rw [if_neg (fun g => g hc)] at h ⊢
    by_cases h0 : x.op = 1 ∨ x.op = 2 ∨ x.op = 3
    · have ha : arity x.op = 0 := by rw [arity, if_pos h0]
      rw [ha] at h ⊢
      exact ⟨.leaf x, ⟨h0, hc⟩, rfl⟩
    by_cases h4 : x.op = 6
    · have ha : arity x.op = 1 := by rw [arity, if_neg h0, if_pos h4]
      rw [ha, show (1 : Int).toNat = 0 + 1 from rfl, rep] at h ⊢
      by_cases he : (chk sw k l).2 = 0
      · rw [if_neg (fun g => g he)] at h ⊢
        obtain ⟨p, hp, hl⟩ := chk_tree sw k l he
        refine ⟨.un x p, ⟨h4, hp⟩, ?_⟩
        rw [flat, List.cons_append]
        exact congrArg (x :: ·) hl
      · rw [if_pos he] at h
        exact absurd h he
    by_cases h56 : x.op = 4 ∨ x.op = 5
    · have ha : arity x.op = 2 := by rw [arity, if_neg h0, if_neg h4, if_pos h56]
      rw [ha, show (2 : Int).toNat = 0 + 1 + 1 from rfl, rep] at h ⊢
      by_cases he : (chk sw k l).2 = 0
      · rw [if_neg (fun g => g he)] at h ⊢
        rw [rep] at h ⊢
        by_cases he2 : (chk sw k (chk sw k l).1).2 = 0
        · rw [if_neg (fun g => g he2)] at h ⊢
          obtain ⟨p, hp, hl⟩ := chk_tree sw k l he
          obtain ⟨q, hq, hl2⟩ := chk_tree sw k _ he2
          refine ⟨.bin x p q, ⟨h56, hp, hq⟩, ?_⟩
          rw [flat, List.cons_append, List.append_assoc]
          refine congrArg (x :: ·) ?_
          rw [rep, ← hl2]
          exact hl
        · rw [if_pos he2] at h
          exact absurd h he2
      · rw [if_pos he] at h
        exact absurd h he
    · exfalso
      have ha : arity x.op = -1 := by rw [arity, if_neg h0, if_neg h4, if_neg h56]
      rw [chk1, ha, if_pos (by decide)] at hc
      exact absurd hc (by decide)
end Go.Proofs.Ytkjffppioddnpaa

/- Chapter 42: the nodes of the program's automaton package, which of them match the empty list, and how they are put one behind the other. -/
set_option maxRecDepth 100000
set_option maxHeartbeats 4000000
set_option linter.all false
namespace Go.Proofs.Ytkjffppioddnpaa
open Go.Vm
inductive Nx where
  | eps | any | one (n : Int) | star (a : Nx) | cat (a b : Nx) | alt (a b : Nx)
  deriving DecidableEq
def tgA : Nx → Nat
  | .eps => 79 | .any => 80 | .one _ => 82 | .star _ => 84 | .cat _ _ => 86 | .alt _ _ => 87
def clA : Nx → List V
  | .eps => []
  | .any => []
  | .one n => [.int .i64 n]
  | .star a => [.ifc (tgA a) (.agg (clA a))]
  | .cat a b => [.ifc (tgA a) (.agg (clA a)), .ifc (tgA b) (.agg (clA b))]
  | .alt a b => [.ifc (tgA a) (.agg (clA a)), .ifc (tgA b) (.agg (clA b))]
def encA (x : Nx) : V := .ifc (tgA x) (.agg (clA x))
theorem bel_clA {n : Nat} : ∀ x, belAll n (clA x) = true
  | .eps => rfl
  | .any => rfl
  | .one _ => rfl
  | .star a => by rw [clA, belAll_cons, bel_ifc, bel_agg, bel_clA a]; rfl
  | .cat a b => by rw [clA, belAll_cons, belAll_cons, bel_ifc, bel_agg, bel_ifc, bel_agg, bel_clA a, bel_clA b]; rfl
  | .alt a b => by rw [clA, belAll_cons, belAll_cons, bel_ifc, bel_agg, bel_ifc, bel_agg, bel_clA a, bel_clA b]; rfl
theorem bel_encA {n : Nat} (x : Nx) : (encA x).bel n = true := by rw [encA, bel_ifc, bel_agg, bel_clA]
theorem st_encA (x : Nx) : (encA x).st = encA x := rfl
theorem os_encA {g : Bool} {xs : List V} {p : Prop} (x : Nx) : optSide g (encA x :: xs) p = optSide g xs p := rfl
def nul : Nx → Bool
  | .eps => true
  | .any => false
  | .one _ => false
  | .star _ => true
  | .cat a b => nul a && nul b
  | .alt a b => nul a || nul b
def nulF : Nx → Nat
  | .eps => 81 | .any => 82 | .one _ => 83 | .star _ => 84 | .cat _ _ => 85 | .alt _ _ => 86
theorem mt79 : MethAt Try.prog 79 "patchbay/automaton.nullable" 81 := methAt (by kernel_rfl)
theorem mt80 : MethAt Try.prog 80 "patchbay/automaton.nullable" 82 := methAt (by kernel_rfl)
theorem mt82 : MethAt Try.prog 82 "patchbay/automaton.nullable" 83 := methAt (by kernel_rfl)
theorem mt84 : MethAt Try.prog 84 "patchbay/automaton.nullable" 84 := methAt (by kernel_rfl)
theorem mt86 : MethAt Try.prog 86 "patchbay/automaton.nullable" 85 := methAt (by kernel_rfl)
theorem mt87 : MethAt Try.prog 87 "patchbay/automaton.nullable" 86 := methAt (by kernel_rfl)
theorem mtA (x : Nx) : MethAt Try.prog (tgA x) "patchbay/automaton.nullable" (nulF x) := by
  cases x
  · exact mt79
  · exact mt80
  · exact mt82
  · exact mt84
  · exact mt86
  · exact mt87
def cfgN : Cfg := { lv := [], ef := [9], ord := [], em := [] }
theorem pcNul : ∀ x : Nx, PC Try.prog (nulF x) [.agg (clA x)] (.bool (nul x)) := by
  intro x
  induction x with
  | eps =>
    show PC Try.prog 81 [.agg []] (.bool true)
    refine PC.walk tok mixed cfg0 Try.func81 rfl Try.call81 (by simp [belN, bel_Ns, bel_slN, bel_clA, bel_encA]) (by first | rfl | simp [belN, bel_Ns, bel_slN, bel_clA, bel_encA]) ?_; simp (maxSteps := 2000000) -implicitDefEqProofs +contextual (disch := first | assumption | omega | decide +kernel) only [push_cast, ↓capI, br2_true, br2_false, frk_tt, frk_tf, frk_f, frkD_tt, frkD_tf, frkD_f, pk2_true, pk2_false, imp_true, seval, Nat.reduceLeDiff, Nat.reduceEqDiff, reduceCtorEq, ↓reduceIte, fmN, fm0, take_N, toN1, slN_nil, encN, slN, cfg0, get_flat_part lenN, get_flat_drop lenN, len_flat lenN, encA, st_encA, os_encA, Try.ntmps81]
    refine endK.ret ?_ (by first | rfl | simp [belN, bel_Ns, bel_slN, bel_clA, bel_encA]); simp [evRes, getT, retV, Try.f81]
  | any =>
    show PC Try.prog 82 [.agg []] (.bool false)
    refine PC.walk tok mixed cfg0 Try.func82 rfl Try.call82 (by simp [belN, bel_Ns, bel_slN, bel_clA, bel_encA]) (by first | rfl | simp [belN, bel_Ns, bel_slN, bel_clA, bel_encA]) ?_; simp (maxSteps := 2000000) -implicitDefEqProofs +contextual (disch := first | assumption | omega | decide +kernel) only [push_cast, ↓capI, br2_true, br2_false, frk_tt, frk_tf, frk_f, frkD_tt, frkD_tf, frkD_f, pk2_true, pk2_false, imp_true, seval, Nat.reduceLeDiff, Nat.reduceEqDiff, reduceCtorEq, ↓reduceIte, fmN, fm0, take_N, toN1, slN_nil, encN, slN, cfg0, get_flat_part lenN, get_flat_drop lenN, len_flat lenN, encA, st_encA, os_encA, Try.ntmps82]
    refine endK.ret ?_ (by first | rfl | simp [belN, bel_Ns, bel_slN, bel_clA, bel_encA]); simp [evRes, getT, retV, Try.f82]
  | one n =>
    show PC Try.prog 83 [.agg [.int .i64 n]] (.bool false)
    refine PC.walk tok mixed cfg0 Try.func83 rfl Try.call83 (by simp [belN, bel_Ns, bel_slN, bel_clA, bel_encA]) (by first | rfl | simp [belN, bel_Ns, bel_slN, bel_clA, bel_encA]) ?_; simp (maxSteps := 2000000) -implicitDefEqProofs +contextual (disch := first | assumption | omega | decide +kernel) only [push_cast, ↓capI, br2_true, br2_false, frk_tt, frk_tf, frk_f, frkD_tt, frkD_tf, frkD_f, pk2_true, pk2_false, imp_true, seval, Nat.reduceLeDiff, Nat.reduceEqDiff, reduceCtorEq, ↓reduceIte, fmN, fm0, take_N, toN1, slN_nil, encN, slN, cfg0, get_flat_part lenN, get_flat_drop lenN, len_flat lenN, encA, st_encA, os_encA, Try.ntmps83]
    refine endK.ret ?_ (by first | rfl | simp [belN, bel_Ns, bel_slN, bel_clA, bel_encA]); simp [evRes, getT, retV, Try.f83]
  | star a _ =>
    show PC Try.prog 84 [.agg [encA a]] (.bool true)
    refine PC.walk tok mixed cfg0 Try.func84 rfl Try.call84 (by simp [belN, bel_Ns, bel_slN, bel_clA, bel_encA]) (by first | rfl | simp [belN, bel_Ns, bel_slN, bel_clA, bel_encA]) ?_; simp (maxSteps := 2000000) -implicitDefEqProofs +contextual (disch := first | assumption | omega | decide +kernel) only [push_cast, ↓capI, br2_true, br2_false, frk_tt, frk_tf, frk_f, frkD_tt, frkD_tf, frkD_f, pk2_true, pk2_false, imp_true, seval, Nat.reduceLeDiff, Nat.reduceEqDiff, reduceCtorEq, ↓reduceIte, fmN, fm0, take_N, toN1, slN_nil, encN, slN, cfg0, get_flat_part lenN, get_flat_drop lenN, len_flat lenN, encA, st_encA, os_encA, Try.ntmps84]
    refine endK.ret ?_ (by first | rfl | simp [belN, bel_Ns, bel_slN, bel_clA, bel_encA]); simp [evRes, getT, retV, Try.f84]
  | cat a b i1 i2 =>
    show PC Try.prog 85 [.agg [encA a, encA b]] (.bool (nul a && nul b))
    cases ha : nul a
    · rw [ha] at i1
      refine PC.walk tok mixed  cfgN Try.func85 rfl Try.call85 (by simp [belN, bel_Ns, bel_slN, bel_clA, bel_encA]) (by first | rfl | simp [belN, bel_Ns, bel_slN, bel_clA, bel_encA]) ?_; simp (maxSteps := 2000000) -implicitDefEqProofs +contextual (disch := first | assumption | omega | decide +kernel) only [push_cast, ↓capI, br2_true, br2_false, frk_tt, frk_tf, frk_f, frkD_tt, frkD_tf, frkD_f, pk2_true, pk2_false, imp_true, seval, Nat.reduceLeDiff, Nat.reduceEqDiff, reduceCtorEq, ↓reduceIte, fmN, fm0, take_N, toN1, slN_nil, encN, slN, cfg0, get_flat_part lenN, get_flat_drop lenN, len_flat lenN, encA, st_encA, os_encA, Try.ntmps85,  cfgN]
      refine callI.of (mtA a) (callO.pc i1 ?_)
      simp (maxSteps := 2000000) -implicitDefEqProofs +contextual (disch := first | assumption | omega | decide +kernel) only [push_cast, ↓capI, br2_true, br2_false, frk_tt, frk_tf, frk_f, frkD_tt, frkD_tf, frkD_f, pk2_true, pk2_false, imp_true, seval, Nat.reduceLeDiff, Nat.reduceEqDiff, reduceCtorEq, ↓reduceIte, fmN, fm0, take_N, toN1, slN_nil, encN, slN, cfg0, get_flat_part lenN, get_flat_drop lenN, len_flat lenN, encA, st_encA, os_encA, cfgN]
      refine endK.ret ?_ (by first | rfl | simp [belN, bel_Ns, bel_slN, bel_clA, bel_encA]); simp [evRes, getT, retV, Try.f85]
    · rw [ha] at i1
      refine PC.walk tok mixed  cfgN Try.func85 rfl Try.call85 (by simp [belN, bel_Ns, bel_slN, bel_clA, bel_encA]) (by first | rfl | simp [belN, bel_Ns, bel_slN, bel_clA, bel_encA]) ?_; simp (maxSteps := 2000000) -implicitDefEqProofs +contextual (disch := first | assumption | omega | decide +kernel) only [push_cast, ↓capI, br2_true, br2_false, frk_tt, frk_tf, frk_f, frkD_tt, frkD_tf, frkD_f, pk2_true, pk2_false, imp_true, seval, Nat.reduceLeDiff, Nat.reduceEqDiff, reduceCtorEq, ↓reduceIte, fmN, fm0, take_N, toN1, slN_nil, encN, slN, cfg0, get_flat_part lenN, get_flat_drop lenN, len_flat lenN, encA, st_encA, os_encA, Try.ntmps85,  cfgN]
      refine callI.of (mtA a) (callO.pc i1 ?_)
      simp (maxSteps := 2000000) -implicitDefEqProofs +contextual (disch := first | assumption | omega | decide +kernel) only [push_cast, ↓capI, br2_true, br2_false, frk_tt, frk_tf, frk_f, frkD_tt, frkD_tf, frkD_f, pk2_true, pk2_false, imp_true, seval, Nat.reduceLeDiff, Nat.reduceEqDiff, reduceCtorEq, ↓reduceIte, fmN, fm0, take_N, toN1, slN_nil, encN, slN, cfg0, get_flat_part lenN, get_flat_drop lenN, len_flat lenN, encA, st_encA, os_encA, cfgN]
      refine callI.of (mtA b) (callO.pc i2 ?_)
      simp (maxSteps := 2000000) -implicitDefEqProofs +contextual (disch := first | assumption | omega | decide +kernel) only [push_cast, ↓capI, br2_true, br2_false, frk_tt, frk_tf, frk_f, frkD_tt, frkD_tf, frkD_f, pk2_true, pk2_false, imp_true, seval, Nat.reduceLeDiff, Nat.reduceEqDiff, reduceCtorEq, ↓reduceIte, fmN, fm0, take_N, toN1, slN_nil, encN, slN, cfg0, get_flat_part lenN, get_flat_drop lenN, len_flat lenN, encA, st_encA, os_encA, cfgN]
      refine endK.ret ?_ (by first | rfl | simp [belN, bel_Ns, bel_slN, bel_clA, bel_encA]); simp [evRes, getT, retV, Try.f85]
  | alt a b i1 i2 =>
    show PC Try.prog 86 [.agg [encA a, encA b]] (.bool (nul a || nul b))
    cases ha : nul a
    · rw [ha] at i1
      refine PC.walk tok mixed  cfgN Try.func86 rfl Try.call86 (by simp [belN, bel_Ns, bel_slN, bel_clA, bel_encA]) (by first | rfl | simp [belN, bel_Ns, bel_slN, bel_clA, bel_encA]) ?_; simp (maxSteps := 2000000) -implicitDefEqProofs +contextual (disch := first | assumption | omega | decide +kernel) only [push_cast, ↓capI, br2_true, br2_false, frk_tt, frk_tf, frk_f, frkD_tt, frkD_tf, frkD_f, pk2_true, pk2_false, imp_true, seval, Nat.reduceLeDiff, Nat.reduceEqDiff, reduceCtorEq, ↓reduceIte, fmN, fm0, take_N, toN1, slN_nil, encN, slN, cfg0, get_flat_part lenN, get_flat_drop lenN, len_flat lenN, encA, st_encA, os_encA, Try.ntmps86,  cfgN]
      refine callI.of (mtA a) (callO.pc i1 ?_)
      simp (maxSteps := 2000000) -implicitDefEqProofs +contextual (disch := first | assumption | omega | decide +kernel) only [push_cast, ↓capI, br2_true, br2_false, frk_tt, frk_tf, frk_f, frkD_tt, frkD_tf, frkD_f, pk2_true, pk2_false, imp_true, seval, Nat.reduceLeDiff, Nat.reduceEqDiff, reduceCtorEq, ↓reduceIte, fmN, fm0, take_N, toN1, slN_nil, encN, slN, cfg0, get_flat_part lenN, get_flat_drop lenN, len_flat lenN, encA, st_encA, os_encA, cfgN]
      refine callI.of (mtA b) (callO.pc i2 ?_)
      simp (maxSteps := 2000000) -implicitDefEqProofs +contextual (disch := first | assumption | omega | decide +kernel) only [push_cast, ↓capI, br2_true, br2_false, frk_tt, frk_tf, frk_f, frkD_tt, frkD_tf, frkD_f, pk2_true, pk2_false, imp_true, seval, Nat.reduceLeDiff, Nat.reduceEqDiff, reduceCtorEq, ↓reduceIte, fmN, fm0, take_N, toN1, slN_nil, encN, slN, cfg0, get_flat_part lenN, get_flat_drop lenN, len_flat lenN, encA, st_encA, os_encA, cfgN]
      refine endK.ret ?_ (by first | rfl | simp [belN, bel_Ns, bel_slN, bel_clA, bel_encA]); simp [evRes, getT, retV, Try.f86]
    · rw [ha] at i1
      refine PC.walk tok mixed  cfgN Try.func86 rfl Try.call86 (by simp [belN, bel_Ns, bel_slN, bel_clA, bel_encA]) (by first | rfl | simp [belN, bel_Ns, bel_slN, bel_clA, bel_encA]) ?_; simp (maxSteps := 2000000) -implicitDefEqProofs +contextual (disch := first | assumption | omega | decide +kernel) only [push_cast, ↓capI, br2_true, br2_false, frk_tt, frk_tf, frk_f, frkD_tt, frkD_tf, frkD_f, pk2_true, pk2_false, imp_true, seval, Nat.reduceLeDiff, Nat.reduceEqDiff, reduceCtorEq, ↓reduceIte, fmN, fm0, take_N, toN1, slN_nil, encN, slN, cfg0, get_flat_part lenN, get_flat_drop lenN, len_flat lenN, encA, st_encA, os_encA, Try.ntmps86,  cfgN]
      refine callI.of (mtA a) (callO.pc i1 ?_)
      simp (maxSteps := 2000000) -implicitDefEqProofs +contextual (disch := first | assumption | omega | decide +kernel) only [push_cast, ↓capI, br2_true, br2_false, frk_tt, frk_tf, frk_f, frkD_tt, frkD_tf, frkD_f, pk2_true, pk2_false, imp_true, seval, Nat.reduceLeDiff, Nat.reduceEqDiff, reduceCtorEq, ↓reduceIte, fmN, fm0, take_N, toN1, slN_nil, encN, slN, cfg0, get_flat_part lenN, get_flat_drop lenN, len_flat lenN, encA, st_encA, os_encA, cfgN]
      refine endK.ret ?_ (by first | rfl | simp [belN, bel_Ns, bel_slN, bel_clA, bel_encA]); simp [evRes, getT, retV, Try.f86]
def seqA (a b : Nx) : Nx := if a = .eps then b else .cat a b
theorem pc58 (a b : Nx) : PC Try.prog 58 [encA a, encA b] (encA (seqA a b)) := by
  cases a with
  | eps =>
    rw [show seqA .eps b = b from rfl]
    refine PC.walk tok mixed cfg0 Try.func58 rfl Try.call58 (by simp [belN, bel_Ns, bel_slN, bel_clA, bel_encA]) (by first | rfl | simp [belN, bel_Ns, bel_slN, bel_clA, bel_encA]) ?_; simp (maxSteps := 2000000) -implicitDefEqProofs +contextual (disch := first | assumption | omega | decide +kernel) only [push_cast, ↓capI, br2_true, br2_false, frk_tt, frk_tf, frk_f, frkD_tt, frkD_tf, frkD_f, pk2_true, pk2_false, imp_true, seval, Nat.reduceLeDiff, Nat.reduceEqDiff, reduceCtorEq, ↓reduceIte, fmN, fm0, take_N, toN1, slN_nil, encN, slN, cfg0, get_flat_part lenN, get_flat_drop lenN, len_flat lenN, encA, st_encA, os_encA, Try.ntmps58]
    (try simp (maxSteps := 2000000) -implicitDefEqProofs +contextual (disch := first | assumption | omega | decide +kernel) only [push_cast, ↓capI, br2_true, br2_false, frk_tt, frk_tf, frk_f, frkD_tt, frkD_tf, frkD_f, pk2_true, pk2_false, imp_true, seval, Nat.reduceLeDiff, Nat.reduceEqDiff, reduceCtorEq, ↓reduceIte, fmN, fm0, take_N, toN1, slN_nil, encN, slN, cfg0, get_flat_part lenN, get_flat_drop lenN, len_flat lenN, encA, st_encA, os_encA, tgA, clA])
    refine endK.ret ?_ (by first | rfl | simp [belN, bel_Ns, bel_slN, bel_clA, bel_encA]); simp [evRes, getT, retV, Try.f58]
  | any =>
    rw [show seqA .any b = .cat .any b from rfl]
    refine PC.walk tok mixed cfg0 Try.func58 rfl Try.call58 (by simp [belN, bel_Ns, bel_slN, bel_clA, bel_encA]) (by first | rfl | simp [belN, bel_Ns, bel_slN, bel_clA, bel_encA]) ?_; simp (maxSteps := 2000000) -implicitDefEqProofs +contextual (disch := first | assumption | omega | decide +kernel) only [push_cast, ↓capI, br2_true, br2_false, frk_tt, frk_tf, frk_f, frkD_tt, frkD_tf, frkD_f, pk2_true, pk2_false, imp_true, seval, Nat.reduceLeDiff, Nat.reduceEqDiff, reduceCtorEq, ↓reduceIte, fmN, fm0, take_N, toN1, slN_nil, encN, slN, cfg0, get_flat_part lenN, get_flat_drop lenN, len_flat lenN, encA, st_encA, os_encA, Try.ntmps58]
    (try simp (maxSteps := 2000000) -implicitDefEqProofs +contextual (disch := first | assumption | omega | decide +kernel) only [push_cast, ↓capI, br2_true, br2_false, frk_tt, frk_tf, frk_f, frkD_tt, frkD_tf, frkD_f, pk2_true, pk2_false, imp_true, seval, Nat.reduceLeDiff, Nat.reduceEqDiff, reduceCtorEq, ↓reduceIte, fmN, fm0, take_N, toN1, slN_nil, encN, slN, cfg0, get_flat_part lenN, get_flat_drop lenN, len_flat lenN, encA, st_encA, os_encA, tgA, clA])
    refine endK.ret ?_ (by first | rfl | simp [belN, bel_Ns, bel_slN, bel_clA, bel_encA]); simp [evRes, getT, retV, Try.f58,  encA, tgA, clA]
  | one n =>
    rw [show seqA (.one n) b = .cat (.one n) b from rfl]
    refine PC.walk tok mixed cfg0 Try.func58 rfl Try.call58 (by simp [belN, bel_Ns, bel_slN, bel_clA, bel_encA]) (by first | rfl | simp [belN, bel_Ns, bel_slN, bel_clA, bel_encA]) ?_; simp (maxSteps := 2000000) -implicitDefEqProofs +contextual (disch := first | assumption | omega | decide +kernel) only [push_cast, ↓capI, br2_true, br2_false, frk_tt, frk_tf, frk_f, frkD_tt, frkD_tf, frkD_f, pk2_true, pk2_false, imp_true, seval, Nat.reduceLeDiff, Nat.reduceEqDiff, reduceCtorEq, ↓reduceIte, fmN, fm0, take_N, toN1, slN_nil, encN, slN, cfg0, get_flat_part lenN, get_flat_drop lenN, len_flat lenN, encA, st_encA, os_encA, Try.ntmps58]
    (try simp (maxSteps := 2000000) -implicitDefEqProofs +contextual (disch := first | assumption | omega | decide +kernel) only [push_cast, ↓capI, br2_true, br2_false, frk_tt, frk_tf, frk_f, frkD_tt, frkD_tf, frkD_f, pk2_true, pk2_false, imp_true, seval, Nat.reduceLeDiff, Nat.reduceEqDiff, reduceCtorEq, ↓reduceIte, fmN, fm0, take_N, toN1, slN_nil, encN, slN, cfg0, get_flat_part lenN, get_flat_drop lenN, len_flat lenN, encA, st_encA, os_encA, tgA, clA])
    refine endK.ret ?_ (by first | rfl | simp [belN, bel_Ns, bel_slN, bel_clA, bel_encA]); simp [evRes, getT, retV, Try.f58,  encA, tgA, clA]
  | star a =>
    rw [show seqA (.star a) b = .cat (.star a) b from rfl]
    refine PC.walk tok mixed cfg0 Try.func58 rfl Try.call58 (by simp [belN, bel_Ns, bel_slN, bel_clA, bel_encA]) (by first | rfl | simp [belN, bel_Ns, bel_slN, bel_clA, bel_encA]) ?_; simp (maxSteps := 2000000) -implicitDefEqProofs +contextual (disch := first | assumption | omega | decide +kernel) only [push_cast, ↓capI, br2_true, br2_false, frk_tt, frk_tf, frk_f, frkD_tt, frkD_tf, frkD_f, pk2_true, pk2_false, imp_true, seval, Nat.reduceLeDiff, Nat.reduceEqDiff, reduceCtorEq, ↓reduceIte, fmN, fm0, take_N, toN1, slN_nil, encN, slN, cfg0, get_flat_part lenN, get_flat_drop lenN, len_flat lenN, encA, st_encA, os_encA, Try.ntmps58]
    (try simp (maxSteps := 2000000) -implicitDefEqProofs +contextual (disch := first | assumption | omega | decide +kernel) only [push_cast, ↓capI, br2_true, br2_false, frk_tt, frk_tf, frk_f, frkD_tt, frkD_tf, frkD_f, pk2_true, pk2_false, imp_true, seval, Nat.reduceLeDiff, Nat.reduceEqDiff, reduceCtorEq, ↓reduceIte, fmN, fm0, take_N, toN1, slN_nil, encN, slN, cfg0, get_flat_part lenN, get_flat_drop lenN, len_flat lenN, encA, st_encA, os_encA, tgA, clA])
    refine endK.ret ?_ (by first | rfl | simp [belN, bel_Ns, bel_slN, bel_clA, bel_encA]); simp [evRes, getT, retV, Try.f58,  encA, tgA, clA]
  | cat a c =>
    rw [show seqA (.cat a c) b = .cat (.cat a c) b from rfl]
    refine PC.walk tok mixed cfg0 Try.func58 rfl Try.call58 (by simp [belN, bel_Ns, bel_slN, bel_clA, bel_encA]) (by first | rfl | simp [belN, bel_Ns, bel_slN, bel_clA, bel_encA]) ?_; simp (maxSteps := 2000000) -implicitDefEqProofs +contextual (disch := first | assumption | omega | decide +kernel) only [push_cast, ↓capI, br2_true, br2_false, frk_tt, frk_tf, frk_f, frkD_tt, frkD_tf, frkD_f, pk2_true, pk2_false, imp_true, seval, Nat.reduceLeDiff, Nat.reduceEqDiff, reduceCtorEq, ↓reduceIte, fmN, fm0, take_N, toN1, slN_nil, encN, slN, cfg0, get_flat_part lenN, get_flat_drop lenN, len_flat lenN, encA, st_encA, os_encA, Try.ntmps58]
    (try simp (maxSteps := 2000000) -implicitDefEqProofs +contextual (disch := first | assumption | omega | decide +kernel) only [push_cast, ↓capI, br2_true, br2_false, frk_tt, frk_tf, frk_f, frkD_tt, frkD_tf, frkD_f, pk2_true, pk2_false, imp_true, seval, Nat.reduceLeDiff, Nat.reduceEqDiff, reduceCtorEq, ↓reduceIte, fmN, fm0, take_N, toN1, slN_nil, encN, slN, cfg0, get_flat_part lenN, get_flat_drop lenN, len_flat lenN, encA, st_encA, os_encA, tgA, clA])
    refine endK.ret ?_ (by first | rfl | simp [belN, bel_Ns, bel_slN, bel_clA, bel_encA]); simp [evRes, getT, retV, Try.f58,  encA, tgA, clA]
  | alt a c =>
    rw [show seqA (.alt a c) b = .cat (.alt a c) b from rfl]
    refine PC.walk tok mixed cfg0 Try.func58 rfl Try.call58 (by simp [belN, bel_Ns, bel_slN, bel_clA, bel_encA]) (by first | rfl | simp [belN, bel_Ns, bel_slN, bel_clA, bel_encA]) ?_; simp (maxSteps := 2000000) -implicitDefEqProofs +contextual (disch := first | assumption | omega | decide +kernel) only [push_cast, ↓capI, br2_true, br2_false, frk_tt, frk_tf, frk_f, frkD_tt, frkD_tf, frkD_f, pk2_true, pk2_false, imp_true, seval, Nat.reduceLeDiff, Nat.reduceEqDiff, reduceCtorEq, ↓reduceIte, fmN, fm0, take_N, toN1, slN_nil, encN, slN, cfg0, get_flat_part lenN, get_flat_drop lenN, len_flat lenN, encA, st_encA, os_encA, Try.ntmps58]
    (try simp (maxSteps := 2000000) -implicitDefEqProofs +contextual (disch := first | assumption | omega | decide +kernel) only [push_cast, ↓capI, br2_true, br2_false, frk_tt, frk_tf, frk_f, frkD_tt, frkD_tf, frkD_f, pk2_true, pk2_false, imp_true, seval, Nat.reduceLeDiff, Nat.reduceEqDiff, reduceCtorEq, ↓reduceIte, fmN, fm0, take_N, toN1, slN_nil, encN, slN, cfg0, get_flat_part lenN, get_flat_drop lenN, len_flat lenN, encA, st_encA, os_encA, tgA, clA])
    refine endK.ret ?_ (by first | rfl | simp [belN, bel_Ns, bel_slN, bel_clA, bel_encA]); simp [evRes, getT, retV, Try.f58,  encA, tgA, clA]
end Go.Proofs.Ytkjffppioddnpaa

/- Chapter 42: the partial derivatives of an expression and their numbers, by the program. -/
set_option maxRecDepth 100000
set_option maxHeartbeats 4000000
set_option linter.all false
namespace Go.Proofs.Ytkjffppioddnpaa
open Go.Vm
def hgt : Nx → Nat
  | .eps => 0
  | .any => 0
  | .one _ => 0
  | .star a => hgt a + 1
  | .cat a b => max (hgt a) (hgt b) + 1
  | .alt a b => max (hgt a) (hgt b) + 1
theorem encA_inj : ∀ {x y : Nx}, encA x = encA y → x = y
  | .eps, y, h => by cases y <;> simp [encA, tgA] at h; rfl
  | .any, y, h => by cases y <;> simp [encA, tgA] at h; rfl
  | .one n, y, h => by cases y <;> simp [encA, tgA, clA] at h; rw [h]
  | .star a, y, h => by
    cases y <;> simp only [encA, tgA, clA, V.ifc.injEq, V.agg.injEq, List.cons.injEq, and_true] at h <;> (try (exact absurd h.1 (by decide)))
    rename_i b
    rw [encA_inj (x := a) (y := b) (by simp only [encA, V.ifc.injEq, V.agg.injEq]; exact h.2)]
  | .cat a c, y, h => by
    cases y <;> simp only [encA, tgA, clA, V.ifc.injEq, V.agg.injEq, List.cons.injEq, and_true] at h <;> (try (exact absurd h.1 (by decide)))
    rename_i b d
    rw [encA_inj (x := a) (y := b) (by simp only [encA, V.ifc.injEq, V.agg.injEq]; exact h.2.1), encA_inj (x := c) (y := d) (by simp only [encA, V.ifc.injEq, V.agg.injEq]; exact h.2.2)]
  | .alt a c, y, h => by
    cases y <;> simp only [encA, tgA, clA, V.ifc.injEq, V.agg.injEq, List.cons.injEq, and_true] at h <;> (try (exact absurd h.1 (by decide)))
    rename_i b d
    rw [encA_inj (x := a) (y := b) (by simp only [encA, V.ifc.injEq, V.agg.injEq]; exact h.2.1), encA_inj (x := c) (y := d) (by simp only [encA, V.ifc.injEq, V.agg.injEq]; exact h.2.2)]
theorem pl_encA : ∀ (x : Nx) (n : Nat), 2 * hgt x + 2 ≤ n → pl (encA x) n = true
  | .eps, n + 2, _ => rfl
  | .any, n + 2, _ => rfl
  | .one _, n + 2, _ => rfl
  | .star a, n + 2, h => by
    have := pl_encA a n (by simp only [hgt] at h; omega)
    simp only [encA] at this
    simp only [encA, clA, pl, pls, Bool.and_true, this]
  | .cat a b, n + 2, h => by
    have h1 := pl_encA a n (by simp only [hgt] at h; omega)
    have h2 := pl_encA b n (by simp only [hgt] at h; omega)
    simp only [encA] at h1 h2
    simp only [encA, clA, pl, pls, Bool.and_true, h1, h2]
  | .alt a b, n + 2, h => by
    have h1 := pl_encA a n (by simp only [hgt] at h; omega)
    have h2 := pl_encA b n (by simp only [hgt] at h; omega)
    simp only [encA] at h1 h2
    simp only [encA, clA, pl, pls, Bool.and_true, h1, h2]
theorem kok_encA : ∀ (x : Nx) (n : Nat), 2 * hgt x + 3 ≤ n → kok tt n 48 (encA x) = true
  | .eps, n + 3, _ => rfl
  | .any, n + 3, _ => rfl
  | .one _, n + 3, _ => rfl
  | .star a, n + 2, h => by
    have h1 := kok_encA a n (by simp only [hgt] at h; omega)
    show kok tt (n + 2) 48 (.ifc 84 (.agg [encA a])) = true
    generalize encA a = e at h1 ⊢
    simp only [kok, tt_48, tt_84, tile, allF, ldT, mkV, getV, List.drop_zero, List.take_succ_cons, List.take_zero, h1]
    rfl
  | .cat a b, n + 2, h => by
    have h1 := kok_encA a n (by simp only [hgt] at h; omega)
    have h2 := kok_encA b n (by simp only [hgt] at h; omega)
    show kok tt (n + 2) 48 (.ifc 86 (.agg [encA a, encA b])) = true
    generalize encA a = e at h1 ⊢
    generalize encA b = f at h2 ⊢
    simp only [kok, tt_48, tt_86, tile, allF, ldT, mkV, getV, List.drop_zero, List.drop_succ_cons, List.take_succ_cons, List.take_zero, h1, h2]
    rfl
  | .alt a b, n + 2, h => by
    have h1 := kok_encA a n (by simp only [hgt] at h; omega)
    have h2 := kok_encA b n (by simp only [hgt] at h; omega)
    show kok tt (n + 2) 48 (.ifc 87 (.agg [encA a, encA b])) = true
    generalize encA a = e at h1 ⊢
    generalize encA b = f at h2 ⊢
    simp only [kok, tt_48, tt_87, tile, allF, ldT, mkV, getV, List.drop_zero, List.drop_succ_cons, List.take_succ_cons, List.take_zero, h1, h2]
    rfl
theorem keyA {x : Nx} (h : hgt x ≤ 4000) : keyOK tt 48 (encA x) := ⟨kok_encA x 9999 (by omega), pl_encA x 9999 (by omega)⟩
theorem veqA {x y : Nx} (h : hgt x ≤ 4000) : veq (encA x) (encA y) = decide (x = y) := by
  by_cases e : x = y
  · subst e
    rw [(veq_iff _ _ _ (keyA h).2).2 rfl, decide_eq_true rfl]
  · rw [decide_eq_false e]
    cases hb : veq (encA x) (encA y)
    · rfl
    · exact absurd (encA_inj ((veq_iff _ _ _ (keyA h).2).1 hb)) e
def idx (x : Nx) : List Nx → Option Nat
  | [] => none
  | y :: r => if x = y then some 0 else (idx x r).map (· + 1)
def num (L : List Nx) (x : Nx) : List Nx × Nat := match idx x L with | some k => (L, k) | none => (L ++ [x], L.length)
def enm : Nat → List Nx → List (V × V)
  | _, [] => []
  | i, x :: r => (encA x, .int .i64 i) :: enm (i + 1) r
def numV (i : Nat) (z : V) : Option Nat → V
  | some k => .int .i64 ((i + k : Nat) : Int)
  | none => z
theorem mHas_enm' {x : Nx} (h : hgt x ≤ 4000) : ∀ (L : List Nx) (i : Nat), mHas (encA x) (enm i L) = (idx x L).isSome
  | [], _ => rfl
  | y :: r, i => by
    simp only [enm, mHas, veqA h, idx]
    by_cases e : x = y
    · simp [e]
    · simp [e, mHas_enm' h r (i + 1)]
theorem mGet_enm' {x : Nx} (h : hgt x ≤ 4000) (z : V) : ∀ (L : List Nx) (i : Nat), mGet z (encA x) (enm i L) = numV i z (idx x L)
  | [], _ => rfl
  | y :: r, i => by
    simp only [enm, mGet, veqA h, idx]
    by_cases e : x = y
    · simp [e, numV]
    · simp only [e, decide_false, mGet_enm' h z r (i + 1), if_false]
      cases idx x r <;> simp [numV]
      omega
theorem mPut_enm' {x : Nx} (h : hgt x ≤ 4000) : ∀ (L : List Nx) (i : Nat), idx x L = none → mPut (encA x) (.int .i64 ((i + L.length : Nat) : Int)) (enm i L) = enm i (L ++ [x])
  | [], _, _ => rfl
  | y :: r, i, hi => by
    simp only [idx] at hi
    by_cases e : x = y
    · simp [e] at hi
    · simp only [e, if_false, Option.map_eq_none_iff] at hi
      have := mPut_enm' h r (i + 1) hi
      simp only [enm, mPut, veqA h, e, decide_false, List.cons_append, List.length_cons]
      rw [← this, show i + (r.length + 1) = i + 1 + r.length from by omega]
theorem mHas_enm {x : Nx} (h : hgt x ≤ 4000) {L : List Nx} : mHas (.ifc (tgA x) (.agg (clA x))) (enm 0 L) = (idx x L).isSome := mHas_enm' h L 0
theorem mGet_enm {x : Nx} (h : hgt x ≤ 4000) {L : List Nx} {z : V} : mGet z (.ifc (tgA x) (.agg (clA x))) (enm 0 L) = numV 0 z (idx x L) := mGet_enm' h z L 0
theorem keysE {L : List Nx} (h : ∀ y ∈ L, hgt y ≤ 4000) : ∀ i, keysOK tt 48 (enm i L) := by
  induction L with
  | nil => intro i e he; simp [enm] at he
  | cons x r ih =>
    intro i e he
    simp only [enm, List.mem_cons] at he
    rcases he with rfl | he
    · exact keyA (h x (by simp))
    · exact ih (fun y hy => h y (by simp [hy])) (i + 1) e he
theorem bel_As {n : Nat} : ∀ (L : List Nx), belAll n (L.map encA) = true
  | [] => rfl
  | x :: r => by rw [List.map_cons, belAll_cons, bel_encA, bel_As r]; rfl
theorem bel_enm1 {n : Nat} : ∀ (L : List Nx) (i : Nat), belAll n ((enm i L).map (·.1)) = true
  | [], _ => rfl
  | x :: r, i => by rw [enm, List.map_cons, belAll_cons, bel_encA, bel_enm1 r]; rfl
theorem bel_enm2 {n : Nat} : ∀ (L : List Nx) (i : Nat), belAll n ((enm i L).map (·.2)) = true
  | [], _ => rfl
  | x :: r, i => by rw [enm, List.map_cons, belAll_cons, bel_enm2 r]; rfl
theorem bel_mapE {n i : Nat} {L : List Nx} : (Ob.map (enm i L)).bel n = true := by simp only [Ob.bel, bel_enm1, bel_enm2]; rfl
theorem ones_A {g : Bool} {p : Prop} : ∀ {xs : List Nx}, ones g (xs.map encA) p = p
  | [] => rfl
  | x :: xs => by simp only [List.map_cons, encA, ones, V.one]; exact ones_A
theorem lenE (L : List Nx) : (L.map encA).length = L.length := List.length_map _
def objP (L : List Nx) : List Ob := [.cells 0 [.mp 2, .buf 1 L.length 0 L.length 1], .cells L.length (L.map encA), .map (enm 0 L)]
theorem pc37 {L : List Nx} {x : Nx} (hL : ∀ y ∈ L, hgt y ≤ 4000) (hx : hgt x ≤ 4000) (hl : L.length ≤ 4000000) : GCall Try.prog 37 [.ptr 0 0 0, encA x] (objP L) (.int .i64 ((num L x).2 : Int)) (objP (num L x).1) := by
  have hk : keyOK tt 48 (.ifc (tgA x) (.agg (clA x))) := keyA hx
  have hks := keysE hL 0
  cases hi : idx x L with
  | some k =>
    rw [num, hi]
    have hp : True := trivial
    refine GC.walk tok mixed cfg0 Try.func37 rfl Try.call37 ?_; simp (maxSteps := 2000000) -implicitDefEqProofs +contextual (disch := first | assumption | omega | decide +kernel) only [push_cast, ↓capI, br2_true, br2_false, frk_tt, frk_tf, frk_f, frkD_tt, frkD_tf, frkD_f, pk2_true, pk2_false, imp_true, seval, Nat.reduceLeDiff, Nat.reduceEqDiff, reduceCtorEq, ↓reduceIte, cfg0, encA, mHas_enm, mGet_enm, lenE, ones_A, objP, hk, hks, hi, hx, numV, Option.isSome_some, Option.isSome_none, hp, Try.ntmps37]
    refine endG.ret ([]) (by first | rfl | simp [bel_clA, bel_encA, bel_As, bel_mapE, fzs_ok, getO, setO, fzs, fz, fzH, Nat.beq, cfg0, encA, mHas_enm, mGet_enm, lenE, ones_A, objP, hk, hks, hi, hx, numV, Option.isSome_some, Option.isSome_none, hp, objP, List.map_append, belAll_append]) (by simp) (by simp [bel_clA, bel_encA, bel_As, bel_mapE, fzs_ok, imp, lenOK_iff, List.take_of_length_le, evRes, getT, getO, setO, fzs, fz, fzH, Nat.beq, retV, Res.then, ldT, ldR, mkV, getV, cfg0, encA, mHas_enm, mGet_enm, lenE, ones_A, objP, hk, hks, hi, hx, numV, Option.isSome_some, Option.isSome_none, hp, Try.f37, objP, List.map_append, belAll_append]) (by first | rfl | simp [bel_clA, bel_encA, bel_As, bel_mapE, objP, List.map_append, belAll_append]) (by first | rfl | simp [bel_clA, bel_encA, bel_As, bel_mapE, objP, List.map_append, belAll_append])
  | none =>
    rw [num, hi]
    have hp : mPut (.ifc (tgA x) (.agg (clA x))) (.int .i64 L.length) (enm 0 L) = enm 0 (L ++ [x]) := by
      have := mPut_enm' hx L 0 hi
      rw [Nat.zero_add] at this
      exact this
    refine GC.walk tok mixed cfg0 Try.func37 rfl Try.call37 ?_; simp (maxSteps := 2000000) -implicitDefEqProofs +contextual (disch := first | assumption | omega | decide +kernel) only [push_cast, ↓capI, br2_true, br2_false, frk_tt, frk_tf, frk_f, frkD_tt, frkD_tf, frkD_f, pk2_true, pk2_false, imp_true, seval, Nat.reduceLeDiff, Nat.reduceEqDiff, reduceCtorEq, ↓reduceIte, cfg0, encA, mHas_enm, mGet_enm, lenE, ones_A, objP, hk, hks, hi, hx, numV, Option.isSome_some, Option.isSome_none, hp, Try.ntmps37]
    refine endG.ret ([]) (by first | rfl | simp [bel_clA, bel_encA, bel_As, bel_mapE, fzs_ok, getO, setO, fzs, fz, fzH, Nat.beq, cfg0, encA, mHas_enm, mGet_enm, lenE, ones_A, objP, hk, hks, hi, hx, numV, Option.isSome_some, Option.isSome_none, hp, objP, List.map_append, belAll_append]) (by simp) (by simp [bel_clA, bel_encA, bel_As, bel_mapE, fzs_ok, imp, lenOK_iff, List.take_of_length_le, evRes, getT, getO, setO, fzs, fz, fzH, Nat.beq, retV, Res.then, ldT, ldR, mkV, getV, cfg0, encA, mHas_enm, mGet_enm, lenE, ones_A, objP, hk, hks, hi, hx, numV, Option.isSome_some, Option.isSome_none, hp, Try.f37, objP, List.map_append, belAll_append]) (by first | rfl | simp [bel_clA, bel_encA, bel_As, bel_mapE, objP, List.map_append, belAll_append]) (by first | rfl | simp [bel_clA, bel_encA, bel_As, bel_mapE, objP, List.map_append, belAll_append])
end Go.Proofs.Ytkjffppioddnpaa

/- Chapter 42: the partial derivatives of an expression by a switch, by the program: closures that put them into the set. -/
set_option maxRecDepth 100000
set_option maxHeartbeats 4000000
set_option linter.all false
namespace Go.Proofs.Ytkjffppioddnpaa
open Go.Vm
theorem w_shl1 {k : Nat} : ishl .u64 1 (k : Int) = ((1#64 <<< k).toNat : Int) := w_shl (x := 1#64)
abbrev Ds := List Nx × W64
def objS (s : Ds) : List Ob := objP s.1 ++ [.cells 0 [.int .u64 s.2.toNat]]
theorem objS_eq (L : List Nx) (o : W64) : objS (L, o) = [.cells 0 [.mp 2, .buf 1 L.length 0 L.length 1], .cells L.length (L.map encA), .map (enm 0 L), .cells 0 [.int .u64 o.toNat]] := rfl
theorem bel_objP (L : List Nx) : belObs 3 (objP L) = true := by
  simp [objP, belObs_cons, belO_cells, bel_As, bel_mapE, bel_clA, bel_encA, bel_As, bel_mapE]
theorem bel_objS (s : Ds) : belObs 4 (objS s) = true := by
  simp [objS, objP, belObs_cons, belO_cells, bel_As, bel_mapE, bel_clA, bel_encA, bel_As, bel_mapE]
theorem len_objP (L : List Nx) : (objP L).length = 3 := rfl
theorem len_objS (s : Ds) : (objS s).length = 4 := rfl
def addD (s : Ds) (d : Nx) : Ds := ((num s.1 d).1, s.2 ||| (1#64 <<< (num s.1 d).2))
theorem num_len (L : List Nx) (x : Nx) : L.length ≤ (num L x).1.length ∧ (num L x).1.length ≤ L.length + 1 := by
  unfold num
  split
  · simp
  · simp
theorem num_mem {L : List Nx} {x y : Nx} (h : y ∈ (num L x).1) : y ∈ L ∨ y = x := by
  unfold num at h
  split at h
  · exact .inl h
  · simpa using h
def cfgD : Cfg := { lv := [], ef := [7], ord := [], em := [7], fl := [5], ks := some [3] }
theorem pc51 {s : Ds} {d : Nx} (hL : ∀ y ∈ s.1, hgt y ≤ 4000) (hx : hgt d ≤ 4000) (hl : s.1.length ≤ 4000000) :
    GCall Try.prog 51 [encA d, .ptr 3 0 0, .fp [.ptr 0 0 0]] (objS s) (.tup []) (objS (addD s d)) := by
  have h37 := pc37 hL hx hl
  obtain ⟨L, o⟩ := s
  simp only at hL hl h37
  rw [objS_eq]
  refine GC.walk tok mixed  cfgD Try.func51 rfl Try.call51 ?_; simp (maxSteps := 2000000) -implicitDefEqProofs +contextual (disch := first | assumption | omega | decide +kernel) only [push_cast, ↓capI, br2_true, br2_false, frk_tt, frk_tf, frk_f, frkD_tt, frkD_tf, frkD_f, pk2_true, pk2_false, imp_true, seval, Nat.reduceLeDiff, Nat.reduceEqDiff, reduceCtorEq, ↓reduceIte, cfg0, encA, ones_A, objS, objP, ib_or, w_ofInt, w_shl1, Try.ntmps51,  cfgD]
  refine callO.app [.cells 0 [.int .u64 o.toNat]] h37 rfl (by rw [len_objP, len_objP]) (by rw [len_objP]; simp [bel_clA, bel_encA, bel_As, bel_mapE]) (bel_objP L) rfl (bel_objP _) ?_
  generalize hn : num L d = r
  obtain ⟨L', k⟩ := r
  simp (maxSteps := 2000000) -implicitDefEqProofs +contextual (disch := first | assumption | omega | decide +kernel) only [push_cast, ↓capI, br2_true, br2_false, frk_tt, frk_tf, frk_f, frkD_tt, frkD_tf, frkD_f, pk2_true, pk2_false, imp_true, seval, Nat.reduceLeDiff, Nat.reduceEqDiff, reduceCtorEq, ↓reduceIte, cfg0, encA, ones_A, objS, objP, ib_or, w_ofInt, w_shl1, cfgD, addD, hn]
  refine ⟨?_, ?_⟩
  · intro i ver cs hi hg
    have hi3 : i = 3 := by
      simp only [memN] at hi
      split at hi
      · rename_i h; exact (Nat.eq_of_beq_eq_true h).symm
      · cases hi
    subst hi3
    exact hg
  refine endG.normal ([]) (by first | rfl | simp [bel_clA, bel_encA, bel_As, bel_mapE, fzs_ok, getO, setO, fzs, fz, fzH, Nat.beq, cfg0, encA, ones_A, objS, objP, ib_or, w_ofInt, w_shl1, objS, objP]) (by simp) (by simp [bel_clA, bel_encA, bel_As, bel_mapE, fzs_ok, imp, lenOK_iff, List.take_of_length_le, evRes, getT, getO, setO, fzs, fz, fzH, Nat.beq, retV, Res.then, ldT, ldR, mkV, getV, cfg0, encA, ones_A, objS, objP, ib_or, w_ofInt, w_shl1, Try.f51, objS, objP]) (by first | rfl | simp [bel_clA, bel_encA, bel_As, bel_mapE, objS, objP]) (by first | rfl | simp [bel_clA, bel_encA, bel_As, bel_mapE, objS, objP])
inductive Kt where
  | sq (a b : Nx)
  | st (a : Nx)
def ap : List Kt → Nx → Nx
  | [], d => d
  | .sq _ b :: ks, d => ap ks (seqA d b)
  | .st a :: ks, d => ap ks (seqA d (.star a))
def cloF : List Kt → Nat
  | [] => 51
  | .sq _ _ :: _ => 57
  | .st _ :: _ => 59
def cloC : List Kt → List V
  | [] => [.ptr 3 0 0, .fp [.ptr 0 0 0]]
  | .sq a b :: ks => [.fp [.fn (.func (cloF ks)) [] (cloC ks)], .fp [encA a, encA b]]
  | .st a :: ks => [.fp [.fn (.func (cloF ks)) [] (cloC ks)], .fp [encA a]]
theorem bel_cloC : ∀ ks, belAll 4 (cloC ks) = true
  | [] => rfl
  | .sq a b :: ks => by rw [cloC, belAll_cons, belAll_cons, bel_fp, bel_fp, belAll_cons, bel_fn, bel_cloC ks, belAll_cons, belAll_cons, bel_encA, bel_encA]; rfl
  | .st a :: ks => by rw [cloC, belAll_cons, belAll_cons, bel_fp, bel_fp, belAll_cons, bel_fn, bel_cloC ks, belAll_cons, bel_encA]; rfl
end Go.Proofs.Ytkjffppioddnpaa

/- Chapter 42: the closures of the partial derivatives, and the partial derivatives themselves, by the program. -/
set_option maxRecDepth 100000
set_option maxHeartbeats 4000000
set_option linter.all false
namespace Go.Proofs.Ytkjffppioddnpaa
open Go.Vm
def cfgE : Cfg := { lv := [], ef := [9], ord := [], em := [9], fl := [], ks := some [] }
theorem keeps_no {H H' : List Ob} : KeepsC (some []) H H' := fun i ver cs hi => by simp [memN] at hi
theorem pur_encA : ∀ x, purs (clA x) = true
  | .eps => rfl
  | .any => rfl
  | .one _ => rfl
  | .star a => by simp [clA, purs, V.pur, pur_encA a]
  | .cat a b => by simp [clA, purs, V.pur, pur_encA a, pur_encA b]
  | .alt a b => by simp [clA, purs, V.pur, pur_encA a, pur_encA b]
theorem pur_As : ∀ (L : List Nx), purs (L.map encA) = true
  | [] => rfl
  | x :: r => by simp [purs, encA, V.pur, pur_encA x, pur_As r]
theorem pur_enm1 : ∀ (L : List Nx) (i : Nat), purs ((enm i L).map (·.1)) = true
  | [], _ => rfl
  | x :: r, i => by rw [enm, List.map_cons, purs, pur_enm1 r, encA, V.pur, V.pur, pur_encA x]; rfl
theorem pur_enm2 : ∀ (L : List Nx) (i : Nat), purs ((enm i L).map (·.2)) = true
  | [], _ => rfl
  | x :: r, i => by rw [enm, List.map_cons, purs, pur_enm2 r]; rfl
theorem pur_objS (s : Ds) : pursO (objS s) = true := by
  simp [objS, objP, pursO, Ob.pur, purs, V.pur, pur_As, pur_enm1, pur_enm2]
theorem pcClo : ∀ (ks : List Kt) (s : Ds) (d : Nx), (∀ y ∈ s.1, hgt y ≤ 4000) → hgt (ap ks d) ≤ 4000 → s.1.length ≤ 4000000 →
    GCall Try.prog (cloF ks) (encA d :: cloC ks) (objS s) (.tup []) (objS (addD s (ap ks d)))
  | [], s, d, hL, hx, hl => pc51 hL hx hl
  | .sq a b :: ks, s, d, hL, hx, hl => by
    have ih := pcClo ks s (seqA d b) hL hx hl
    have h58 := pc58 d b
    show GCall Try.prog 57 [encA d, .fp [.fn (.func (cloF ks)) [] (cloC ks)], .fp [encA a, encA b]] (objS s) (.tup []) (objS (addD s (ap ks (seqA d b))))
    have hb := bel_objS (addD s (ap ks (seqA d b)))
    have hn := len_objS s
    have hn2 := len_objS (addD s (ap ks (seqA d b)))
    generalize cloF ks = nf at ih ⊢
    generalize cloC ks = nc at ih ⊢
    generalize objS s = os at ih hn ⊢
    generalize objS (addD s (ap ks (seqA d b))) = os2 at ih hb hn2 ⊢
    generalize seqA d b = e at ih h58
    refine GC.walk tok mixed  cfgE Try.func57 rfl Try.call57 ?_; simp (maxSteps := 2000000) -implicitDefEqProofs +contextual (disch := first | assumption | omega | decide +kernel) only [push_cast, ↓capI, br2_true, br2_false, frk_tt, frk_tf, frk_f, frkD_tt, frkD_tf, frkD_f, pk2_true, pk2_false, imp_true, seval, Nat.reduceLeDiff, Nat.reduceEqDiff, reduceCtorEq, ↓reduceIte, cfg0, encA, ones_A, Try.ntmps57,  cfgE]
    refine callG.pc1 h58 ?_
    simp (maxSteps := 2000000) -implicitDefEqProofs +contextual (disch := first | assumption | omega | decide +kernel) only [push_cast, ↓capI, br2_true, br2_false, frk_tt, frk_tf, frk_f, frkD_tt, frkD_tf, frkD_f, pk2_true, pk2_false, imp_true, seval, Nat.reduceLeDiff, Nat.reduceEqDiff, reduceCtorEq, ↓reduceIte, cfg0, encA, ones_A, cfgE]
    refine ⟨.tup [], os2, .inl (by simpa [encA] using ih), ?_⟩
    simp (maxSteps := 2000000) -implicitDefEqProofs +contextual (disch := first | assumption | omega | decide +kernel) only [push_cast, ↓capI, br2_true, br2_false, frk_tt, frk_tf, frk_f, frkD_tt, frkD_tf, frkD_f, pk2_true, pk2_false, imp_true, seval, Nat.reduceLeDiff, Nat.reduceEqDiff, reduceCtorEq, ↓reduceIte, cfg0, encA, ones_A, cfgE, keeps_no]
    exact endG.normal [] (by simp) (by omega) (by simp [evRes, retV, Try.f57]) rfl (by rw [hn2]; exact hb)
  | .st a :: ks, s, d, hL, hx, hl => by
    have ih := pcClo ks s (seqA d (.star a)) hL hx hl
    have h58 := pc58 d (.star a)
    show GCall Try.prog 59 [encA d, .fp [.fn (.func (cloF ks)) [] (cloC ks)], .fp [encA a]] (objS s) (.tup []) (objS (addD s (ap ks (seqA d (.star a)))))
    have hb := bel_objS (addD s (ap ks (seqA d (.star a))))
    have hn := len_objS s
    have hn2 := len_objS (addD s (ap ks (seqA d (.star a))))
    generalize cloF ks = nf at ih ⊢
    generalize cloC ks = nc at ih ⊢
    generalize objS s = os at ih hn ⊢
    generalize objS (addD s (ap ks (seqA d (.star a)))) = os2 at ih hb hn2 ⊢
    generalize seqA d (.star a) = e at ih h58
    have h58' : PC Try.prog 58 [encA d, .ifc 84 (.agg [encA a])] (encA e) := h58
    refine GC.walk tok mixed  cfgE Try.func59 rfl Try.call59 ?_; simp (maxSteps := 2000000) -implicitDefEqProofs +contextual (disch := first | assumption | omega | decide +kernel) only [push_cast, ↓capI, br2_true, br2_false, frk_tt, frk_tf, frk_f, frkD_tt, frkD_tf, frkD_f, pk2_true, pk2_false, imp_true, seval, Nat.reduceLeDiff, Nat.reduceEqDiff, reduceCtorEq, ↓reduceIte, cfg0, encA, ones_A, Try.ntmps59,  cfgE]
    refine callG.pc1 h58' ?_
    simp (maxSteps := 2000000) -implicitDefEqProofs +contextual (disch := first | assumption | omega | decide +kernel) only [push_cast, ↓capI, br2_true, br2_false, frk_tt, frk_tf, frk_f, frkD_tt, frkD_tf, frkD_f, pk2_true, pk2_false, imp_true, seval, Nat.reduceLeDiff, Nat.reduceEqDiff, reduceCtorEq, ↓reduceIte, cfg0, encA, ones_A, cfgE]
    refine ⟨.tup [], os2, .inl (by simpa [encA] using ih), ?_⟩
    simp (maxSteps := 2000000) -implicitDefEqProofs +contextual (disch := first | assumption | omega | decide +kernel) only [push_cast, ↓capI, br2_true, br2_false, frk_tt, frk_tf, frk_f, frkD_tt, frkD_tf, frkD_f, pk2_true, pk2_false, imp_true, seval, Nat.reduceLeDiff, Nat.reduceEqDiff, reduceCtorEq, ↓reduceIte, cfg0, encA, ones_A, cfgE, keeps_no]
    exact endG.normal [] (by simp) (by omega) (by simp [evRes, retV, Try.f59]) rfl (by rw [hn2]; exact hb)
def drv (sw : Int) : Nx → List Nx
  | .eps => []
  | .any => [.eps]
  | .one n => if n = sw then [.eps] else []
  | .star a => (drv sw a).map fun d => seqA d (.star a)
  | .cat a b => (drv sw a).map (fun d => seqA d b) ++ if nul a = true then drv sw b else []
  | .alt a b => drv sw a ++ drv sw b
def addL (s : Ds) (l : List Nx) : Ds := l.foldl addD s
theorem addL_len : ∀ (l : List Nx) (s : Ds), (addL s l).1.length ≤ s.1.length + l.length
  | [], s => Nat.le_refl _
  | x :: r, s => by
    have := addL_len r (addD s x)
    have h2 := (num_len s.1 x).2
    simp only [addL, List.foldl_cons, List.length_cons] at this ⊢
    simp only [addD] at this h2 ⊢
    omega
theorem addL_hgt : ∀ (l : List Nx) (s : Ds), (∀ y ∈ s.1, hgt y ≤ 4000) → (∀ y ∈ l, hgt y ≤ 4000) → ∀ y ∈ (addL s l).1, hgt y ≤ 4000
  | [], s, h, _ => h
  | x :: r, s, h, hl => by
    refine addL_hgt r (addD s x) (fun y hy => ?_) (fun y hy => hl y (by simp [hy]))
    rcases num_mem hy with hy | rfl
    · exact h y hy
    · exact hl _ (by simp)
theorem addL_append (a b : List Nx) (s : Ds) : addL s (a ++ b) = addL (addL s a) b := by simp [addL]
theorem ap_map (ks : List Kt) (k : Kt) (l : List Nx) : l.map (ap (k :: ks)) = (l.map fun d => match k with | .sq _ b => seqA d b | .st a => seqA d (.star a)).map (ap ks) := by
  rw [List.map_map]
  refine List.map_congr_left fun d _ => ?_
  cases k <;> rfl
end Go.Proofs.Ytkjffppioddnpaa

/- Chapter 42: the partial derivatives of an expression by a switch, by the program. -/
set_option maxRecDepth 100000
set_option maxHeartbeats 4000000
set_option linter.all false
namespace Go.Proofs.Ytkjffppioddnpaa
open Go.Vm
def DrvC (sw : Int) (x : Nx) : Prop := ∀ (ks : List Kt) (s : Ds), (∀ y ∈ s.1, hgt y ≤ 4000) → (∀ y ∈ (drv sw x).map (ap ks), hgt y ≤ 4000) → s.1.length + (drv sw x).length ≤ 4000000 →
    GCall Try.prog 50 [encA x, .int .i64 sw, .fn (.func (cloF ks)) [] (cloC ks)] (objS s) (.tup []) (objS (addL s ((drv sw x).map (ap ks))))
theorem drv_eps (sw : Int) : DrvC sw .eps := by
  intro ks s hL hd hl
  have e : addL s ((drv sw .eps).map (ap ks)) = s := rfl
  rw [e]
  show GCall Try.prog 50 [.ifc 79 (.agg []), .int .i64 sw, .fn (.func (cloF ks)) [] (cloC ks)] (objS s) (.tup []) (objS s)
  generalize cloF ks = nf
  generalize cloC ks = nc
  obtain ⟨L, o⟩ := s
  rw [objS_eq]
  refine GC.walk tok mixed cfg0 Try.func50 rfl Try.call50 ?_; simp (maxSteps := 2000000) -implicitDefEqProofs +contextual (disch := first | assumption | omega | decide +kernel) only [push_cast, ↓capI, br2_true, br2_false, frk_tt, frk_tf, frk_f, frkD_tt, frkD_tf, frkD_f, pk2_true, pk2_false, imp_true, seval, Nat.reduceLeDiff, Nat.reduceEqDiff, reduceCtorEq, ↓reduceIte, cfg0, encA, ones_A, objS, objP, Try.ntmps50]
  refine endG.normal ([_]) (by first | rfl | simp [bel_clA, bel_encA, bel_As, bel_mapE, fzs_ok, getO, setO, fzs, fz, fzH, Nat.beq, cfg0, encA, ones_A, objS, objP, objS, objP]) (by simp) (by simp [bel_clA, bel_encA, bel_As, bel_mapE, fzs_ok, imp, lenOK_iff, List.take_of_length_le, evRes, getT, getO, setO, fzs, fz, fzH, Nat.beq, retV, Res.then, ldT, ldR, mkV, getV, cfg0, encA, ones_A, objS, objP, Try.f50, objS, objP]) (by first | rfl | simp [bel_clA, bel_encA, bel_As, bel_mapE, objS, objP]) (by first | rfl | simp [bel_clA, bel_encA, bel_As, bel_mapE, objS, objP])
theorem drv_any (sw : Int) : DrvC sw .any := by
  intro ks s hL hd hl
  have hc := pcClo ks s .eps hL (hd _ (by simp [drv])) (by omega)
  have hbn := bel_cloC ks
  have e : addL s ((drv sw .any).map (ap ks)) = addD s (ap ks .eps) := rfl
  rw [e]
  show GCall Try.prog 50 [.ifc 80 (.agg []), .int .i64 sw, .fn (.func (cloF ks)) [] (cloC ks)] (objS s) (.tup []) (objS (addD s (ap ks .eps)))
  have hc2 : GCall Try.prog (cloF ks) (.ifc 79 (.agg []) :: cloC ks) (objS s) (.tup []) (objS (addD s (ap ks .eps))) := hc
  clear hc
  generalize addD s (ap ks .eps) = s2 at hc2 ⊢
  generalize cloF ks = nf at hc2 ⊢
  generalize cloC ks = nc at hc2 hbn ⊢
  obtain ⟨L, o⟩ := s
  obtain ⟨L2, o2⟩ := s2
  have hb1 := bel_objS (L, o)
  have hb2 := bel_objS (L2, o2)
  rw [objS_eq] at hc2 hb1 ⊢
  rw [objS_eq] at hc2 hb2 ⊢
  refine GC.walk tok mixed cfg0 Try.func50 rfl Try.call50 ?_; simp (maxSteps := 2000000) -implicitDefEqProofs +contextual (disch := first | assumption | omega | decide +kernel) only [push_cast, ↓capI, br2_true, br2_false, frk_tt, frk_tf, frk_f, frkD_tt, frkD_tf, frkD_f, pk2_true, pk2_false, imp_true, seval, Nat.reduceLeDiff, Nat.reduceEqDiff, reduceCtorEq, ↓reduceIte, cfg0, encA, ones_A, objS, objP, Try.ntmps50]
  refine callO.app [_, _] hc2 rfl rfl (by simp [bel_clA, bel_encA, bel_As, bel_mapE, hbn]) hb1 rfl hb2 ?_
  simp (maxSteps := 2000000) -implicitDefEqProofs +contextual (disch := first | assumption | omega | decide +kernel) only [push_cast, ↓capI, br2_true, br2_false, frk_tt, frk_tf, frk_f, frkD_tt, frkD_tf, frkD_f, pk2_true, pk2_false, imp_true, seval, Nat.reduceLeDiff, Nat.reduceEqDiff, reduceCtorEq, ↓reduceIte, cfg0, encA, ones_A, objS, objP]
  refine endG.normal ([_, _]) (by first | rfl | simp [bel_clA, bel_encA, bel_As, bel_mapE, fzs_ok, getO, setO, fzs, fz, fzH, Nat.beq, cfg0, encA, ones_A, objS, objP, objS, objP]) (by simp) (by simp [bel_clA, bel_encA, bel_As, bel_mapE, fzs_ok, imp, lenOK_iff, List.take_of_length_le, evRes, getT, getO, setO, fzs, fz, fzH, Nat.beq, retV, Res.then, ldT, ldR, mkV, getV, cfg0, encA, ones_A, objS, objP, Try.f50, objS, objP]) (by first | rfl | simp [bel_clA, bel_encA, bel_As, bel_mapE, objS, objP]) (by first | rfl | simp [bel_clA, bel_encA, bel_As, bel_mapE, objS, objP])
theorem drv_one (sw n : Int) : DrvC sw (.one n) := by
  intro ks s hL hd hl
  by_cases h : n = sw
  · subst h
    have hc := pcClo ks s .eps hL (hd _ (by simp [drv])) (by omega)
    have hbn := bel_cloC ks
    have e : addL s ((drv n (.one n)).map (ap ks)) = addD s (ap ks .eps) := by rw [drv, if_pos rfl]; rfl
    rw [e]
    show GCall Try.prog 50 [.ifc 82 (.agg [.int .i64 n]), .int .i64 n, .fn (.func (cloF ks)) [] (cloC ks)] (objS s) (.tup []) (objS (addD s (ap ks .eps)))
    have hc2 : GCall Try.prog (cloF ks) (.ifc 79 (.agg []) :: cloC ks) (objS s) (.tup []) (objS (addD s (ap ks .eps))) := hc
    clear hc
    generalize addD s (ap ks .eps) = s2 at hc2 ⊢
    generalize cloF ks = nf at hc2 ⊢
    generalize cloC ks = nc at hc2 hbn ⊢
    obtain ⟨L, o⟩ := s
    obtain ⟨L2, o2⟩ := s2
    have hb1 := bel_objS (L, o)
    have hb2 := bel_objS (L2, o2)
    rw [objS_eq] at hc2 hb1 ⊢
    rw [objS_eq] at hc2 hb2 ⊢
    refine GC.walk tok mixed cfg0 Try.func50 rfl Try.call50 ?_; simp (maxSteps := 2000000) -implicitDefEqProofs +contextual (disch := first | assumption | omega | decide +kernel) only [push_cast, ↓capI, br2_true, br2_false, frk_tt, frk_tf, frk_f, frkD_tt, frkD_tf, frkD_f, pk2_true, pk2_false, imp_true, seval, Nat.reduceLeDiff, Nat.reduceEqDiff, reduceCtorEq, ↓reduceIte, cfg0, encA, ones_A, objS, objP, Try.ntmps50]
    refine callO.app [_, _] hc2 rfl rfl (by simp [bel_clA, bel_encA, bel_As, bel_mapE, hbn]) hb1 rfl hb2 ?_
    simp (maxSteps := 2000000) -implicitDefEqProofs +contextual (disch := first | assumption | omega | decide +kernel) only [push_cast, ↓capI, br2_true, br2_false, frk_tt, frk_tf, frk_f, frkD_tt, frkD_tf, frkD_f, pk2_true, pk2_false, imp_true, seval, Nat.reduceLeDiff, Nat.reduceEqDiff, reduceCtorEq, ↓reduceIte, cfg0, encA, ones_A, objS, objP]
    refine endG.normal ([_, _]) (by first | rfl | simp [bel_clA, bel_encA, bel_As, bel_mapE, fzs_ok, getO, setO, fzs, fz, fzH, Nat.beq, cfg0, encA, ones_A, objS, objP, objS, objP]) (by simp) (by simp [bel_clA, bel_encA, bel_As, bel_mapE, fzs_ok, imp, lenOK_iff, List.take_of_length_le, evRes, getT, getO, setO, fzs, fz, fzH, Nat.beq, retV, Res.then, ldT, ldR, mkV, getV, cfg0, encA, ones_A, objS, objP, Try.f50, objS, objP]) (by first | rfl | simp [bel_clA, bel_encA, bel_As, bel_mapE, objS, objP]) (by first | rfl | simp [bel_clA, bel_encA, bel_As, bel_mapE, objS, objP])
  · have e : addL s ((drv sw (.one n)).map (ap ks)) = s := by rw [drv, if_neg h]; rfl
    rw [e]
    show GCall Try.prog 50 [.ifc 82 (.agg [.int .i64 n]), .int .i64 sw, .fn (.func (cloF ks)) [] (cloC ks)] (objS s) (.tup []) (objS s)
    generalize cloF ks = nf
    generalize cloC ks = nc
    obtain ⟨L, o⟩ := s
    rw [objS_eq]
    refine GC.walk tok mixed cfg0 Try.func50 rfl Try.call50 ?_; simp (maxSteps := 2000000) -implicitDefEqProofs +contextual (disch := first | assumption | omega | decide +kernel) only [push_cast, ↓capI, br2_true, br2_false, frk_tt, frk_tf, frk_f, frkD_tt, frkD_tf, frkD_f, pk2_true, pk2_false, imp_true, seval, Nat.reduceLeDiff, Nat.reduceEqDiff, reduceCtorEq, ↓reduceIte, cfg0, encA, ones_A, objS, objP, Try.ntmps50]
    refine endG.normal ([_, _]) (by first | rfl | simp [bel_clA, bel_encA, bel_As, bel_mapE, fzs_ok, getO, setO, fzs, fz, fzH, Nat.beq, cfg0, encA, ones_A, objS, objP, objS, objP]) (by simp) (by simp [bel_clA, bel_encA, bel_As, bel_mapE, fzs_ok, imp, lenOK_iff, List.take_of_length_le, evRes, getT, getO, setO, fzs, fz, fzH, Nat.beq, retV, Res.then, ldT, ldR, mkV, getV, cfg0, encA, ones_A, objS, objP, Try.f50, objS, objP]) (by first | rfl | simp [bel_clA, bel_encA, bel_As, bel_mapE, objS, objP]) (by first | rfl | simp [bel_clA, bel_encA, bel_As, bel_mapE, objS, objP])
theorem lnds_clA {f : V → V} {m : Nat} {H : List Ob} {x : Nx} : lndWs f m H (clA x) = clA x := lndWs_lt _ (bel_clA x)
theorem drv_star (sw : Int) (a : Nx) (ih : DrvC sw a) : DrvC sw (.star a) := by
  intro ks s hL hd hl
  have e : (drv sw (.star a)).map (ap ks) = (drv sw a).map (ap (.st a :: ks)) := by rw [drv, ap_map]
  rw [e] at hd ⊢
  have i1 := ih (.st a :: ks) s hL hd (by rw [drv, List.length_map] at hl; exact hl)
  have hbn := bel_cloC ks
  have hp2 := pur_objS (addL s ((drv sw a).map (ap (.st a :: ks))))
  show GCall Try.prog 50 [.ifc 84 (.agg [encA a]), .int .i64 sw, .fn (.func (cloF ks)) [] (cloC ks)] (objS s) (.tup []) (objS (addL s ((drv sw a).map (ap (.st a :: ks)))))
  simp only [cloF, cloC] at i1
  generalize addL s ((drv sw a).map (ap (.st a :: ks))) = s2 at i1 hp2 ⊢
  have i1' : GCall Try.prog 50 [encA a, .int .i64 sw, .fn (.func 59) [] [.fp [.fn (.func (cloF ks)) [] (cloC ks)], .fp [encA a]]] (objS s) (.tup []) (objS s2) := i1
  clear i1
  generalize cloF ks = nf at i1' ⊢
  generalize cloC ks = nc at i1' hbn ⊢
  obtain ⟨L, o⟩ := s
  obtain ⟨L2, o2⟩ := s2
  have hb1 := bel_objS (L, o)
  have hb2 := bel_objS (L2, o2)
  rw [objS_eq] at i1' hb1 ⊢
  rw [objS_eq] at i1' hb2 hp2 ⊢
  refine GC.walk tok mixed cfg0 Try.func50 rfl Try.call50 ?_; simp (maxSteps := 2000000) -implicitDefEqProofs +contextual (disch := first | assumption | omega | decide +kernel) only [push_cast, ↓capI, br2_true, br2_false, frk_tt, frk_tf, frk_f, frkD_tt, frkD_tf, frkD_f, pk2_true, pk2_false, imp_true, seval, Nat.reduceLeDiff, Nat.reduceEqDiff, reduceCtorEq, ↓reduceIte, cfg0, encA, ones_A, objS, objP, Try.ntmps50]
  refine callO.lend (v := .tup []) (G := [_, _, _, _]) (G' := [_, _, _, _]) [_, _] (by simpa [lnds, lnd, lndWs, lndW, lnds_clA, id_eq, List.map_cons, List.map_nil, getO, Nat.blt, Nat.ble, Nat.beq, List.drop_zero, List.nil_append, List.append_nil, List.cons_append, encA] using i1') rfl (by rfl) (by simp [lnds, lnd, lndWs, lndW, lnds_clA, id_eq, List.map_cons, List.map_nil, getO, Nat.blt, Nat.ble, Nat.beq, List.drop_zero, List.nil_append, List.append_nil, List.cons_append, encA, bel_clA, bel_encA, bel_As, bel_mapE, hbn]) hb1 rfl rfl hb2 hp2 ?_
  simp (maxSteps := 2000000) -implicitDefEqProofs +contextual (disch := first | assumption | omega | decide +kernel) only [push_cast, ↓capI, br2_true, br2_false, frk_tt, frk_tf, frk_f, frkD_tt, frkD_tf, frkD_f, pk2_true, pk2_false, imp_true, seval, Nat.reduceLeDiff, Nat.reduceEqDiff, reduceCtorEq, ↓reduceIte, cfg0, encA, ones_A, objS, objP]
  refine endG.normal ([_, _]) (by first | rfl | simp [bel_clA, bel_encA, bel_As, bel_mapE, fzs_ok, getO, setO, fzs, fz, fzH, Nat.beq, cfg0, encA, ones_A, objS, objP, objS, objP]) (by simp) (by simp [bel_clA, bel_encA, bel_As, bel_mapE, fzs_ok, imp, lenOK_iff, List.take_of_length_le, evRes, getT, getO, setO, fzs, fz, fzH, Nat.beq, retV, Res.then, ldT, ldR, mkV, getV, cfg0, encA, ones_A, objS, objP, Try.f50, objS, objP]) (by first | rfl | simp [bel_clA, bel_encA, bel_As, bel_mapE, objS, objP]) (by first | rfl | simp [bel_clA, bel_encA, bel_As, bel_mapE, objS, objP])
theorem drv_alt (sw : Int) (a b : Nx) (ia : DrvC sw a) (ib : DrvC sw b) : DrvC sw (.alt a b) := by
  intro ks s hL hd hl
  rw [drv, List.map_append] at hd ⊢
  rw [drv, List.length_append] at hl
  rw [addL_append]
  have hl2 := addL_len ((drv sw a).map (ap ks)) s
  rw [List.length_map] at hl2
  have hL2 := addL_hgt ((drv sw a).map (ap ks)) s hL (fun y hy => hd y (List.mem_append.2 (.inl hy)))
  have i1 := ia ks s hL (fun y hy => hd y (List.mem_append.2 (.inl hy))) (by omega)
  generalize addL s ((drv sw a).map (ap ks)) = s2 at i1 hL2 hl2 ⊢
  have i2 := ib ks s2 hL2 (fun y hy => hd y (List.mem_append.2 (.inr hy))) (by omega)
  have hbn := bel_cloC ks
  show GCall Try.prog 50 [.ifc 87 (.agg [encA a, encA b]), .int .i64 sw, .fn (.func (cloF ks)) [] (cloC ks)] (objS s) (.tup []) (objS (addL s2 ((drv sw b).map (ap ks))))
  generalize addL s2 ((drv sw b).map (ap ks)) = s3 at i2 ⊢
  generalize cloF ks = nf at i1 i2 ⊢
  generalize cloC ks = nc at i1 i2 hbn ⊢
  obtain ⟨L, o⟩ := s
  obtain ⟨L2, o2⟩ := s2
  obtain ⟨L3, o3⟩ := s3
  have hb1 := bel_objS (L, o)
  have hb2 := bel_objS (L2, o2)
  have hb3 := bel_objS (L3, o3)
  rw [objS_eq] at i1 hb1 ⊢
  rw [objS_eq] at i1 i2 hb2
  rw [objS_eq] at i2 hb3 ⊢
  refine GC.walk tok mixed cfg0 Try.func50 rfl Try.call50 ?_; simp (maxSteps := 2000000) -implicitDefEqProofs +contextual (disch := first | assumption | omega | decide +kernel) only [push_cast, ↓capI, br2_true, br2_false, frk_tt, frk_tf, frk_f, frkD_tt, frkD_tf, frkD_f, pk2_true, pk2_false, imp_true, seval, Nat.reduceLeDiff, Nat.reduceEqDiff, reduceCtorEq, ↓reduceIte, cfg0, encA, ones_A, objS, objP, Try.ntmps50]
  refine callO.app [_, _] i1 rfl rfl (by simp [bel_clA, bel_encA, bel_As, bel_mapE, hbn]) hb1 rfl hb2 ?_
  simp (maxSteps := 2000000) -implicitDefEqProofs +contextual (disch := first | assumption | omega | decide +kernel) only [push_cast, ↓capI, br2_true, br2_false, frk_tt, frk_tf, frk_f, frkD_tt, frkD_tf, frkD_f, pk2_true, pk2_false, imp_true, seval, Nat.reduceLeDiff, Nat.reduceEqDiff, reduceCtorEq, ↓reduceIte, cfg0, encA, ones_A, objS, objP]
  refine callO.app [_, _] i2 rfl rfl (by simp [bel_clA, bel_encA, bel_As, bel_mapE, hbn]) hb2 rfl hb3 ?_
  simp (maxSteps := 2000000) -implicitDefEqProofs +contextual (disch := first | assumption | omega | decide +kernel) only [push_cast, ↓capI, br2_true, br2_false, frk_tt, frk_tf, frk_f, frkD_tt, frkD_tf, frkD_f, pk2_true, pk2_false, imp_true, seval, Nat.reduceLeDiff, Nat.reduceEqDiff, reduceCtorEq, ↓reduceIte, cfg0, encA, ones_A, objS, objP]
  refine endG.normal ([_, _]) (by first | rfl | simp [bel_clA, bel_encA, bel_As, bel_mapE, fzs_ok, getO, setO, fzs, fz, fzH, Nat.beq, cfg0, encA, ones_A, objS, objP, objS, objP]) (by simp) (by simp [bel_clA, bel_encA, bel_As, bel_mapE, fzs_ok, imp, lenOK_iff, List.take_of_length_le, evRes, getT, getO, setO, fzs, fz, fzH, Nat.beq, retV, Res.then, ldT, ldR, mkV, getV, cfg0, encA, ones_A, objS, objP, Try.f50, objS, objP]) (by first | rfl | simp [bel_clA, bel_encA, bel_As, bel_mapE, objS, objP]) (by first | rfl | simp [bel_clA, bel_encA, bel_As, bel_mapE, objS, objP])
theorem drv_cat (sw : Int) (a b : Nx) (ia : DrvC sw a) (ib : DrvC sw b) : DrvC sw (.cat a b) := by
  intro ks s hL hd hl
  have e : (drv sw (.cat a b)).map (ap ks) = (drv sw a).map (ap (.sq a b :: ks)) ++ (if nul a = true then drv sw b else []).map (ap ks) := by rw [drv, List.map_append, ap_map]
  rw [e] at hd ⊢
  rw [drv, List.length_append, List.length_map] at hl
  rw [addL_append]
  have hl2 := addL_len ((drv sw a).map (ap (.sq a b :: ks))) s
  rw [List.length_map] at hl2
  have hL2 := addL_hgt ((drv sw a).map (ap (.sq a b :: ks))) s hL (fun y hy => hd y (List.mem_append.2 (.inl hy)))
  have i1 := ia (.sq a b :: ks) s hL (fun y hy => hd y (List.mem_append.2 (.inl hy))) (by omega)
  have hp2 := pur_objS (addL s ((drv sw a).map (ap (.sq a b :: ks))))
  generalize addL s ((drv sw a).map (ap (.sq a b :: ks))) = s2 at i1 hL2 hl2 hp2 ⊢
  have hbn := bel_cloC ks
  have hnul := pcNul a
  simp only [cloF, cloC] at i1
  have i1' : GCall Try.prog 50 [encA a, .int .i64 sw, .fn (.func 57) [] [.fp [.fn (.func (cloF ks)) [] (cloC ks)], .fp [encA a, encA b]]] (objS s) (.tup []) (objS s2) := i1
  clear i1
  show GCall Try.prog 50 [.ifc 86 (.agg [encA a, encA b]), .int .i64 sw, .fn (.func (cloF ks)) [] (cloC ks)] (objS s) (.tup []) (objS (addL s2 ((if nul a = true then drv sw b else []).map (ap ks))))
  cases hna : nul a
  · rw [hna] at hnul
    rw [if_neg (by decide)]
    rw [show addL s2 (([] : List Nx).map (ap ks)) = s2 from rfl]
    generalize cloF ks = nf at i1' ⊢
    generalize cloC ks = nc at i1' hbn ⊢
    obtain ⟨L, o⟩ := s
    obtain ⟨L2, o2⟩ := s2
    have hb1 := bel_objS (L, o)
    have hb2 := bel_objS (L2, o2)
    rw [objS_eq] at i1' hb1 ⊢
    rw [objS_eq] at i1' hb2 hp2 ⊢
    refine GC.walk tok mixed cfg0 Try.func50 rfl Try.call50 ?_; simp (maxSteps := 2000000) -implicitDefEqProofs +contextual (disch := first | assumption | omega | decide +kernel) only [push_cast, ↓capI, br2_true, br2_false, frk_tt, frk_tf, frk_f, frkD_tt, frkD_tf, frkD_f, pk2_true, pk2_false, imp_true, seval, Nat.reduceLeDiff, Nat.reduceEqDiff, reduceCtorEq, ↓reduceIte, cfg0, encA, ones_A, objS, objP, Try.ntmps50]
    refine callO.lend (v := .tup []) (G := [_, _, _, _]) (G' := [_, _, _, _]) [_, _] (by simpa [lnds, lnd, lndWs, lndW, lnds_clA, id_eq, List.map_cons, List.map_nil, getO, Nat.blt, Nat.ble, Nat.beq, List.drop_zero, List.nil_append, List.append_nil, List.cons_append, encA] using i1') rfl (by rfl) (by simp [lnds, lnd, lndWs, lndW, lnds_clA, id_eq, List.map_cons, List.map_nil, getO, Nat.blt, Nat.ble, Nat.beq, List.drop_zero, List.nil_append, List.append_nil, List.cons_append, encA, bel_clA, bel_encA, bel_As, bel_mapE, hbn]) hb1 rfl rfl hb2 hp2 ?_
    simp (maxSteps := 2000000) -implicitDefEqProofs +contextual (disch := first | assumption | omega | decide +kernel) only [push_cast, ↓capI, br2_true, br2_false, frk_tt, frk_tf, frk_f, frkD_tt, frkD_tf, frkD_f, pk2_true, pk2_false, imp_true, seval, Nat.reduceLeDiff, Nat.reduceEqDiff, reduceCtorEq, ↓reduceIte, cfg0, encA, ones_A, objS, objP]
    refine callI.of (mtA a) (callO.pc hnul ?_)
    simp (maxSteps := 2000000) -implicitDefEqProofs +contextual (disch := first | assumption | omega | decide +kernel) only [push_cast, ↓capI, br2_true, br2_false, frk_tt, frk_tf, frk_f, frkD_tt, frkD_tf, frkD_f, pk2_true, pk2_false, imp_true, seval, Nat.reduceLeDiff, Nat.reduceEqDiff, reduceCtorEq, ↓reduceIte, cfg0, encA, ones_A, objS, objP]
    refine endG.normal ([_, _]) (by first | rfl | simp [bel_clA, bel_encA, bel_As, bel_mapE, fzs_ok, getO, setO, fzs, fz, fzH, Nat.beq, cfg0, encA, ones_A, objS, objP, objS, objP]) (by simp) (by simp [bel_clA, bel_encA, bel_As, bel_mapE, fzs_ok, imp, lenOK_iff, List.take_of_length_le, evRes, getT, getO, setO, fzs, fz, fzH, Nat.beq, retV, Res.then, ldT, ldR, mkV, getV, cfg0, encA, ones_A, objS, objP, Try.f50, objS, objP]) (by first | rfl | simp [bel_clA, bel_encA, bel_As, bel_mapE, objS, objP]) (by first | rfl | simp [bel_clA, bel_encA, bel_As, bel_mapE, objS, objP])
  · rw [hna] at hnul
    rw [if_pos rfl]
    rw [hna, if_pos rfl] at hl hd
    have i2 := ib ks s2 hL2 (fun y hy => hd y (List.mem_append.2 (.inr hy))) (by omega)
    generalize addL s2 ((drv sw b).map (ap ks)) = s3 at i2 ⊢
    generalize cloF ks = nf at i1' i2 ⊢
    generalize cloC ks = nc at i1' i2 hbn ⊢
    obtain ⟨L, o⟩ := s
    obtain ⟨L2, o2⟩ := s2
    obtain ⟨L3, o3⟩ := s3
    have hb1 := bel_objS (L, o)
    have hb2 := bel_objS (L2, o2)
    have hb3 := bel_objS (L3, o3)
    rw [objS_eq] at i1' hb1 ⊢
    rw [objS_eq] at i1' i2 hb2 hp2
    rw [objS_eq] at i2 hb3 ⊢
    refine GC.walk tok mixed cfg0 Try.func50 rfl Try.call50 ?_; simp (maxSteps := 2000000) -implicitDefEqProofs +contextual (disch := first | assumption | omega | decide +kernel) only [push_cast, ↓capI, br2_true, br2_false, frk_tt, frk_tf, frk_f, frkD_tt, frkD_tf, frkD_f, pk2_true, pk2_false, imp_true, seval, Nat.reduceLeDiff, Nat.reduceEqDiff, reduceCtorEq, ↓reduceIte, cfg0, encA, ones_A, objS, objP, Try.ntmps50]
    refine callO.lend (v := .tup []) (G := [_, _, _, _]) (G' := [_, _, _, _]) [_, _] (by simpa [lnds, lnd, lndWs, lndW, lnds_clA, id_eq, List.map_cons, List.map_nil, getO, Nat.blt, Nat.ble, Nat.beq, List.drop_zero, List.nil_append, List.append_nil, List.cons_append, encA] using i1') rfl (by rfl) (by simp [lnds, lnd, lndWs, lndW, lnds_clA, id_eq, List.map_cons, List.map_nil, getO, Nat.blt, Nat.ble, Nat.beq, List.drop_zero, List.nil_append, List.append_nil, List.cons_append, encA, bel_clA, bel_encA, bel_As, bel_mapE, hbn]) hb1 rfl rfl hb2 hp2 ?_
    simp (maxSteps := 2000000) -implicitDefEqProofs +contextual (disch := first | assumption | omega | decide +kernel) only [push_cast, ↓capI, br2_true, br2_false, frk_tt, frk_tf, frk_f, frkD_tt, frkD_tf, frkD_f, pk2_true, pk2_false, imp_true, seval, Nat.reduceLeDiff, Nat.reduceEqDiff, reduceCtorEq, ↓reduceIte, cfg0, encA, ones_A, objS, objP]
    refine callI.of (mtA a) (callO.pc hnul ?_)
    simp (maxSteps := 2000000) -implicitDefEqProofs +contextual (disch := first | assumption | omega | decide +kernel) only [push_cast, ↓capI, br2_true, br2_false, frk_tt, frk_tf, frk_f, frkD_tt, frkD_tf, frkD_f, pk2_true, pk2_false, imp_true, seval, Nat.reduceLeDiff, Nat.reduceEqDiff, reduceCtorEq, ↓reduceIte, cfg0, encA, ones_A, objS, objP]
    refine callO.app [_, _] i2 rfl rfl (by simp [bel_clA, bel_encA, bel_As, bel_mapE, hbn]) hb2 rfl hb3 ?_
    simp (maxSteps := 2000000) -implicitDefEqProofs +contextual (disch := first | assumption | omega | decide +kernel) only [push_cast, ↓capI, br2_true, br2_false, frk_tt, frk_tf, frk_f, frkD_tt, frkD_tf, frkD_f, pk2_true, pk2_false, imp_true, seval, Nat.reduceLeDiff, Nat.reduceEqDiff, reduceCtorEq, ↓reduceIte, cfg0, encA, ones_A, objS, objP]
    refine endG.normal ([_, _]) (by first | rfl | simp [bel_clA, bel_encA, bel_As, bel_mapE, fzs_ok, getO, setO, fzs, fz, fzH, Nat.beq, cfg0, encA, ones_A, objS, objP, objS, objP]) (by simp) (by simp [bel_clA, bel_encA, bel_As, bel_mapE, fzs_ok, imp, lenOK_iff, List.take_of_length_le, evRes, getT, getO, setO, fzs, fz, fzH, Nat.beq, retV, Res.then, ldT, ldR, mkV, getV, cfg0, encA, ones_A, objS, objP, Try.f50, objS, objP]) (by first | rfl | simp [bel_clA, bel_encA, bel_As, bel_mapE, objS, objP]) (by first | rfl | simp [bel_clA, bel_encA, bel_As, bel_mapE, objS, objP])
theorem pc50 (sw : Int) : ∀ x : Nx, DrvC sw x
  | .eps => drv_eps sw
  | .any => drv_any sw
  | .one n => drv_one sw n
  | .star a => drv_star sw a (pc50 sw a)
  | .cat a b => drv_cat sw a b (pc50 sw a) (pc50 sw b)
  | .alt a b => drv_alt sw a b (pc50 sw a) (pc50 sw b)
end Go.Proofs.Ytkjffppioddnpaa

/- Chapter 42: the set of derivatives of a set of expressions, by the program. -/
set_option maxRecDepth 100000
set_option maxHeartbeats 4000000
set_option linter.all false
namespace Go.Proofs.Ytkjffppioddnpaa
open Go.Vm
theorem bit_eq {x : W64} {i : Nat} : (((x >>> i &&& 1#64).toNat : Int) == 1) = x.getLsbD i := by
  have h : (x >>> i &&& 1#64) = if x.getLsbD i then 1#64 else 0#64 := by
    refine BitVec.eq_of_getLsbD_eq fun j hj => ?_
    rw [BitVec.getLsbD_and, BitVec.getLsbD_ushiftRight]
    by_cases h0 : j = 0
    · subst h0; cases h : x.getLsbD i <;> simp [h]
    · cases h : x.getLsbD i <;> simp [BitVec.getLsbD_one, h0]
  rw [h]
  cases x.getLsbD i <;> rfl
def stepI (sw : Int) (set : W64) (i : Nat) (s : Ds) : Ds := if set.getLsbD i = true then (match s.1[i]? with | some x => addL s (drv sw x) | none => s) else s
def stepN (sw : Int) (set : W64) : Nat → Ds → Ds
  | 0, s => s
  | n + 1, s => stepI sw set n (stepN sw set n s)
def stepS (sw : Int) (set : W64) (L : List Nx) : Ds := stepN sw set 64 (L, 0#64)
theorem num_get {L : List Nx} {x : Nx} {i : Nat} {y : Nx} (h : L[i]? = some y) : (num L x).1[i]? = some y := by
  unfold num
  split
  · exact h
  · rw [List.getElem?_append_left (List.getElem?_eq_some_iff.1 h).1]; exact h
theorem addL_get : ∀ (l : List Nx) (s : Ds) {i : Nat} {y : Nx}, s.1[i]? = some y → (addL s l).1[i]? = some y
  | [], s, i, y, h => h
  | x :: r, s, i, y, h => addL_get r (addD s x) (num_get h)
theorem stepI_get {sw : Int} {set : W64} {k : Nat} {s : Ds} {i : Nat} {y : Nx} (h : s.1[i]? = some y) : (stepI sw set k s).1[i]? = some y := by
  unfold stepI
  split
  · split
    · exact addL_get _ _ h
    · exact h
  · exact h
theorem stepN_get {sw : Int} {set : W64} {s : Ds} {i : Nat} {y : Nx} (h : s.1[i]? = some y) : ∀ n, (stepN sw set n s).1[i]? = some y
  | 0 => h
  | n + 1 => stepI_get (stepN_get h n)
structure Cls (D : List Nx) : Prop where
  hgt : ∀ x ∈ D, hgt x ≤ 4000
  clos : ∀ x ∈ D, ∀ sw, ∀ d ∈ drv sw x, d ∈ D
  dl : ∀ x ∈ D, ∀ sw, (drv sw x).length ≤ 1000
  len : D.length ≤ 30
def goodL (D L : List Nx) : Prop := L.Nodup ∧ ∀ x ∈ L, x ∈ D
theorem len_sub {α : Type} [DecidableEq α] : ∀ {L D : List α}, L.Nodup → (∀ x ∈ L, x ∈ D) → L.length ≤ D.length
  | [], _, _, _ => Nat.zero_le _
  | x :: r, D, hn, hs => by
    have hn := List.nodup_cons.1 hn
    have hx := hs x (by simp)
    have h2 := len_sub (L := r) (D := D.erase x) hn.2 (fun y hy => (List.mem_erase_of_ne (fun e => hn.1 (by rw [← e]; exact hy))).2 (hs y (by simp [hy])))
    rw [List.length_erase_of_mem hx] at h2
    have := List.length_pos_of_mem hx
    rw [List.length_cons]
    omega
theorem goodL.len {D L : List Nx} (h : goodL D L) : L.length ≤ D.length := len_sub h.1 h.2
theorem idx_none {x : Nx} : ∀ {L : List Nx}, idx x L = none → x ∉ L
  | [], _ => by simp
  | y :: r, h => by
    simp only [idx] at h
    split at h
    · cases h
    · rename_i e
      rw [Option.map_eq_none_iff] at h
      have := idx_none h
      simp [e, this]
theorem num_good {D L : List Nx} {x : Nx} (h : goodL D L) (hx : x ∈ D) : goodL D (num L x).1 := by
  unfold num
  split
  · exact h
  · rename_i hi
    refine ⟨List.nodup_append.2 ⟨h.1, by simp, ?_⟩, ?_⟩
    · intro a ha b hb
      simp at hb
      subst hb
      exact fun e => idx_none hi (e ▸ ha)
    · intro y hy
      rcases List.mem_append.1 hy with hy | hy
      · exact h.2 y hy
      · simp at hy; subst hy; exact hx
theorem addL_good {D : List Nx} : ∀ (l : List Nx) (s : Ds), goodL D s.1 → (∀ x ∈ l, x ∈ D) → goodL D (addL s l).1
  | [], s, h, _ => h
  | x :: r, s, h, hl => addL_good r (addD s x) (num_good h (hl x (by simp))) (fun y hy => hl y (by simp [hy]))
theorem stepI_good {D : List Nx} (hD : Cls D) {sw : Int} {set : W64} {i : Nat} {s : Ds} (h : goodL D s.1) : goodL D (stepI sw set i s).1 := by
  unfold stepI
  split
  · split
    · rename_i x hx
      exact addL_good _ _ h (hD.clos x (h.2 x (List.mem_of_getElem? hx)) sw)
    · exact h
  · exact h
theorem stepN_good {D : List Nx} (hD : Cls D) {sw : Int} {set : W64} {s : Ds} (h : goodL D s.1) : ∀ n, goodL D (stepN sw set n s).1
  | 0 => h
  | n + 1 => stepI_good hD (stepN_good hD h n)
theorem pc38 {D L : List Nx} {sw : Int} {set : W64} (hD : Cls D) (hL : goodL D L) (hset : ∀ i, set.getLsbD i = true → i < L.length) :
    GCall Try.prog 38 [.ptr 0 0 0, .int .u64 set.toNat, .int .i64 sw] (objP L) (.int .u64 (stepS sw set L).2.toNat) (objP (stepS sw set L).1) := by
  refine GC.cutN tok mixed cfg0 0 Try.func38 rfl Try.call38 ?_
  simp (maxSteps := 2000000) -implicitDefEqProofs +contextual (disch := first | assumption | omega | decide +kernel) only [push_cast, ↓capI, br2_true, br2_false, frk_tt, frk_tf, frk_f, frkD_tt, frkD_tf, frkD_f, pk2_true, pk2_false, imp_true, seval, Nat.reduceLeDiff, Nat.reduceEqDiff, reduceCtorEq, ↓reduceIte, cfg0, encA, ones_A, objS, objP, ib_and, w_ofInt, w_shr, BitVec.reduceOfInt, bit_eq, lenE, getV_mapO, w_wrap, Try.ntmps38, cutAt_z, cutAt_s]
  refine cutK.gn (cut_fz (H := objP L) (l := [.ptr 0 0 0]) (tm2 := [.ptr 0 0 0, .int .u64 set.toNat, .int .i64 sw, .ptr 3 0 0, .dead, .dead, .int .u64 0, .dead, .dead, .dead, .dead, .dead, .dead, .dead, .dead, .dead, .dead, .dead, .dead, .dead, .dead, .dead, .dead, .dead, .dead, .dead, .dead, .dead, .dead]) (tm' := [.ptr 0 0 0, .int .u64 set.toNat, .int .i64 sw, .fp [.ptr 0 0 0], .dead, .dead, .int .u64 0, .dead, .dead, .dead, .dead, .dead, .dead, .dead, .dead, .dead, .dead, .dead, .dead, .dead, .dead, .dead, .dead, .dead, .dead, .dead, .dead, .dead, .dead]) (by rfl) (by simp [objP]) (bel_objP L) (by simp [wk]) (by simp [fzs, fz, len_objP, Nat.beq]) (by rw [len_objP]; simp [bel_clA, bel_encA, bel_As, bel_mapE, len_objS, bel_objS])) (cutK.go (cfg := cfg0) tok mixed ?_)
  simp (maxSteps := 2000000) -implicitDefEqProofs +contextual (disch := first | assumption | omega | decide +kernel) only [push_cast, ↓capI, br2_true, br2_false, frk_tt, frk_tf, frk_f, frkD_tt, frkD_tf, frkD_f, pk2_true, pk2_false, imp_true, seval, Nat.reduceLeDiff, Nat.reduceEqDiff, reduceCtorEq, ↓reduceIte, cfg0, encA, ones_A, objS, objP, ib_and, w_ofInt, w_shr, BitVec.reduceOfInt, bit_eq, lenE, getV_mapO, w_wrap]
  refine T.lp tok mixed cfg0 (fun ((i : Nat)) => dd 1 (kp 3 (dd 3 (kp 1 (sv (.int .i64 (i : Int)) (dd 20 (nl))))))) (fun H0 ((i : Nat)) => objS (stepN sw set i (L, 0#64))) (fun ((i : Nat)) => i ≤ 64) (fun ((i : Nat)) => 64 - i) (0) ?_ ?_ ?_
  · omega
  · exact Gn.canon (J := _) (by first | rfl | (simp [List.append_nil]; done) | (simp [List.append_nil]; rfl)) (by simp [wk, putT, kp, dd, sv, nl]) (by simp [List.length_append, len_objS]) (by simp [bel_clA, bel_encA, bel_As, bel_mapE, len_objS, bel_objS, kp, dd, sv, nl]) (by simp [bel_clA, bel_encA, bel_As, bel_mapE, len_objS, bel_objS])
  · intro i hi
    have hg := stepN_good hD (sw := sw) (set := set) (s := (L, 0#64)) hL i
    have hget := fun k y h => stepN_get (sw := sw) (set := set) (s := (L, 0#64)) (i := k) (y := y) h i
    have hnext : stepN sw set (i + 1) (L, 0#64) = stepI sw set i (stepN sw set i (L, 0#64)) := rfl
    have hlast : i = 64 → stepS sw set L = stepN sw set i (L, 0#64) := fun e => by subst e; rfl
    generalize hs : stepN sw set i (L, 0#64) = s at hg hget hnext hlast
    simp only [hs]
    obtain ⟨Li, oi⟩ := s
    rw [objS_eq]
    by_cases hlt : i < 64
    · cases hb : set.getLsbD i with
      | false =>
        have hst : stepI sw set i (Li, oi) = (Li, oi) := by rw [stepI, hb]; rfl
        simp (maxSteps := 2000000) -implicitDefEqProofs +contextual (disch := first | assumption | omega | decide +kernel) only [push_cast, ↓capI, br2_true, br2_false, frk_tt, frk_tf, frk_f, frkD_tt, frkD_tf, frkD_f, pk2_true, pk2_false, imp_true, seval, Nat.reduceLeDiff, Nat.reduceEqDiff, reduceCtorEq, ↓reduceIte, cfg0, encA, ones_A, objS, objP, ib_and, w_ofInt, w_shr, BitVec.reduceOfInt, bit_eq, lenE, getV_mapO, w_wrap, hlt, hb]
        refine ⟨(i + 1), by omega, by (try simp only); omega, ?_⟩; exact Gn.canon (by first | rfl | (simp [List.append_nil, hnext, hst, objS_eq]; rfl)) (by simp [wk, hnext, hst, objS_eq]) (by simp [List.length_append, len_objS]) (by simp [bel_clA, bel_encA, bel_As, bel_mapE, len_objS, bel_objS]) (by simp [bel_clA, bel_encA, bel_As, bel_mapE, len_objS, bel_objS])
      | true =>
        have hiL := hset i hb
        have hx0 := hget i L[i] (List.getElem?_eq_getElem hiL)
        obtain ⟨hiLi, hxi⟩ := List.getElem?_eq_some_iff.1 hx0
        simp only at hiLi hxi
        have hxD : L[i] ∈ D := hL.2 _ (List.getElem_mem hiL)
        have hdr := hD.clos _ hxD sw
        have hlen := hg.len
        have hll := hD.len
        have hdl := hD.dl _ hxD sw
        have h50 := pc50 sw L[i] [] (Li, oi) (fun y hy => hD.hgt y (hg.2 y hy)) (fun y hy => by
          obtain ⟨d, hd, rfl⟩ := List.mem_map.1 hy
          exact hD.hgt _ (hdr d hd)) (by simp only; simp only at hlen; omega)
        have hmap : (drv sw L[i]).map (ap []) = drv sw L[i] := by
          rw [show (ap [] : Nx → Nx) = id from rfl]
          exact List.map_id _
        rw [hmap] at h50
        have hst : stepI sw set i (Li, oi) = addL (Li, oi) (drv sw L[i]) := by rw [stepI, if_pos hb, hx0]
        rw [← hst] at h50
        generalize hr : stepI sw set i (Li, oi) = r at h50 hnext
        obtain ⟨Lr, or⟩ := r
        rw [objS_eq, objS_eq] at h50
        simp only [cloF, cloC, encA] at h50
        simp (maxSteps := 2000000) -implicitDefEqProofs +contextual (disch := first | assumption | omega | decide +kernel) only [push_cast, ↓capI, br2_true, br2_false, frk_tt, frk_tf, frk_f, frkD_tt, frkD_tf, frkD_f, pk2_true, pk2_false, imp_true, seval, Nat.reduceLeDiff, Nat.reduceEqDiff, reduceCtorEq, ↓reduceIte, cfg0, encA, ones_A, objS, objP, ib_and, w_ofInt, w_shr, BitVec.reduceOfInt, bit_eq, lenE, getV_mapO, w_wrap, hlt, hb, hiLi, hxi]
        refine ⟨.tup [], objS (Lr, or), .inl (by simpa [hxi, objS_eq] using h50), ?_⟩
        simp (maxSteps := 2000000) -implicitDefEqProofs +contextual (disch := first | assumption | omega | decide +kernel) only [push_cast, ↓capI, br2_true, br2_false, frk_tt, frk_tf, frk_f, frkD_tt, frkD_tf, frkD_f, pk2_true, pk2_false, imp_true, seval, Nat.reduceLeDiff, Nat.reduceEqDiff, reduceCtorEq, ↓reduceIte, cfg0, encA, ones_A, objS, objP, ib_and, w_ofInt, w_shr, BitVec.reduceOfInt, bit_eq, lenE, getV_mapO, w_wrap]
        refine ⟨(i + 1), by omega, by (try simp only); omega, ?_⟩; exact Gn.canon (by first | rfl | (simp [List.append_nil, hnext, objS_eq]; rfl)) (by simp [wk, hnext, objS_eq]) (by simp [List.length_append, len_objS]) (by simp [bel_clA, bel_encA, bel_As, bel_mapE, len_objS, bel_objS]) (by simp [bel_clA, bel_encA, bel_As, bel_mapE, len_objS, bel_objS])
    · have h64 : i = 64 := by omega
      rw [hlast h64]
      simp (maxSteps := 2000000) -implicitDefEqProofs +contextual (disch := first | assumption | omega | decide +kernel) only [push_cast, ↓capI, br2_true, br2_false, frk_tt, frk_tf, frk_f, frkD_tt, frkD_tf, frkD_f, pk2_true, pk2_false, imp_true, seval, Nat.reduceLeDiff, Nat.reduceEqDiff, reduceCtorEq, ↓reduceIte, cfg0, encA, ones_A, objS, objP, ib_and, w_ofInt, w_shr, BitVec.reduceOfInt, bit_eq, lenE, getV_mapO, w_wrap, hlt]
      refine endG.ret ([_]) (by first | rfl | simp [bel_clA, bel_encA, bel_As, bel_mapE, len_objS, bel_objS, fzs_ok, getO, setO, fzs, fz, fzH, Nat.beq, cfg0, encA, ones_A, objS, objP, ib_and, w_ofInt, w_shr, BitVec.reduceOfInt, bit_eq, lenE, getV_mapO, w_wrap, objP]) (by simp) (by simp [bel_clA, bel_encA, bel_As, bel_mapE, len_objS, bel_objS, fzs_ok, imp, lenOK_iff, List.take_of_length_le, evRes, getT, getO, setO, fzs, fz, fzH, Nat.beq, retV, Res.then, ldT, ldR, mkV, getV, cfg0, encA, ones_A, objS, objP, ib_and, w_ofInt, w_shr, BitVec.reduceOfInt, bit_eq, lenE, getV_mapO, w_wrap, Try.f38, objP]) (by first | rfl | simp [bel_clA, bel_encA, bel_As, bel_mapE, len_objS, bel_objS, objP]) (by first | rfl | simp [bel_clA, bel_encA, bel_As, bel_mapE, len_objS, bel_objS, objP])
end Go.Proofs.Ytkjffppioddnpaa

/- Chapter 42: whether a set of expressions holds one that matches the empty list, by the program. -/
set_option maxRecDepth 100000
set_option maxHeartbeats 4000000
set_option linter.all false
namespace Go.Proofs.Ytkjffppioddnpaa
open Go.Vm
def accI (set : W64) : Nat → List Nx → Bool
  | _, [] => false
  | i, x :: r => (set.getLsbD i && nul x) || accI set (i + 1) r
def accS (set : W64) (L : List Nx) : Bool := accI set 0 L
theorem pc39 {L : List Nx} {set : W64} (hl : L.length ≤ 4000000) : PC Try.prog 39 [.fp [.dead, .sl false (L.map encA) L.length], .int .u64 set.toNat] (.bool (accS set L)) := by
  refine PC.walk tok mixed cfg0 Try.func39 rfl Try.call39 (by simp [bel_clA, bel_encA, bel_As]) (by first | rfl | simp [bel_clA, bel_encA, bel_As]) ?_; simp (maxSteps := 2000000) -implicitDefEqProofs +contextual (disch := first | assumption | omega | decide +kernel) only [push_cast, ↓capI, br2_true, br2_false, frk_tt, frk_tf, frk_f, frkD_tt, frkD_tf, frkD_f, pk2_true, pk2_false, imp_true, seval, Nat.reduceLeDiff, Nat.reduceEqDiff, reduceCtorEq, ↓reduceIte, cfg0, encA, ones_A, ib_and, w_ofInt, w_shr, BitVec.reduceOfInt, bit_eq, lenE, getV_map, getV_mapO, w_wrap, Nat.mul_one, Try.ntmps39]
  refine T.lp tok mixed cfg0 (fun ((i : Nat)) => dd 1 (kp 1 (dd 8 (kp 2 (sv (.int .i64 (i : Int)) (dd 14 (nl))))))) (fun H0 ((i : Nat)) => H0) (fun ((i : Nat)) => i ≤ L.length ∧ accI set i (L.drop i) = accS set L) (fun ((i : Nat)) => L.length - i) (0) ?_ ?_ ?_
  · exact ⟨by omega, rfl⟩
  · exact Gn.canon (J := _) (by first | rfl | (simp [List.append_nil]; done) | (simp [List.append_nil]; rfl)) (by simp [wk, putT, kp, dd, sv, nl]) (by simp [List.length_append]) (by simp [bel_clA, bel_encA, bel_As, kp, dd, sv, nl]) (by simp [bel_clA, bel_encA, bel_As])
  · intro i hi
    obtain ⟨hi, hacc⟩ := hi
    by_cases hlt : i < L.length
    · rw [List.drop_eq_getElem_cons hlt, accI] at hacc
      have hn := pcNul L[i]
      cases hb : set.getLsbD i with
      | false =>
        rw [hb, Bool.false_and, Bool.false_or] at hacc
        simp (maxSteps := 2000000) -implicitDefEqProofs +contextual (disch := first | assumption | omega | decide +kernel) only [push_cast, ↓capI, br2_true, br2_false, frk_tt, frk_tf, frk_f, frkD_tt, frkD_tf, frkD_f, pk2_true, pk2_false, imp_true, seval, Nat.reduceLeDiff, Nat.reduceEqDiff, reduceCtorEq, ↓reduceIte, cfg0, encA, ones_A, ib_and, w_ofInt, w_shr, BitVec.reduceOfInt, bit_eq, lenE, getV_map, getV_mapO, w_wrap, Nat.mul_one, hlt, hb]
        refine ⟨(i + 1), ⟨by omega, hacc⟩, by (try simp only); omega, ?_⟩; exact Gn.canon (by first | rfl | (simp [List.append_nil]; rfl)) (by simp [wk]) (by simp [List.length_append]) (by simp [bel_clA, bel_encA, bel_As]) (by simp [bel_clA, bel_encA, bel_As])
      | true =>
        rw [hb, Bool.true_and] at hacc
        cases hnx : nul L[i] with
        | false =>
          rw [hnx, Bool.false_or] at hacc
          rw [hnx] at hn
          simp (maxSteps := 2000000) -implicitDefEqProofs +contextual (disch := first | assumption | omega | decide +kernel) only [push_cast, ↓capI, br2_true, br2_false, frk_tt, frk_tf, frk_f, frkD_tt, frkD_tf, frkD_f, pk2_true, pk2_false, imp_true, seval, Nat.reduceLeDiff, Nat.reduceEqDiff, reduceCtorEq, ↓reduceIte, cfg0, encA, ones_A, ib_and, w_ofInt, w_shr, BitVec.reduceOfInt, bit_eq, lenE, getV_map, getV_mapO, w_wrap, Nat.mul_one, hlt, hb]
          refine callI.of (mtA _) (callO.pc hn ?_)
          simp (maxSteps := 2000000) -implicitDefEqProofs +contextual (disch := first | assumption | omega | decide +kernel) only [push_cast, ↓capI, br2_true, br2_false, frk_tt, frk_tf, frk_f, frkD_tt, frkD_tf, frkD_f, pk2_true, pk2_false, imp_true, seval, Nat.reduceLeDiff, Nat.reduceEqDiff, reduceCtorEq, ↓reduceIte, cfg0, encA, ones_A, ib_and, w_ofInt, w_shr, BitVec.reduceOfInt, bit_eq, lenE, getV_map, getV_mapO, w_wrap, Nat.mul_one]
          refine ⟨(i + 1), ⟨by omega, hacc⟩, by (try simp only); omega, ?_⟩; exact Gn.canon (by first | rfl | (simp [List.append_nil]; rfl)) (by simp [wk]) (by simp [List.length_append]) (by simp [bel_clA, bel_encA, bel_As]) (by simp [bel_clA, bel_encA, bel_As])
        | true =>
          rw [hnx, Bool.true_or] at hacc
          rw [hnx] at hn
          simp (maxSteps := 2000000) -implicitDefEqProofs +contextual (disch := first | assumption | omega | decide +kernel) only [push_cast, ↓capI, br2_true, br2_false, frk_tt, frk_tf, frk_f, frkD_tt, frkD_tf, frkD_f, pk2_true, pk2_false, imp_true, seval, Nat.reduceLeDiff, Nat.reduceEqDiff, reduceCtorEq, ↓reduceIte, cfg0, encA, ones_A, ib_and, w_ofInt, w_shr, BitVec.reduceOfInt, bit_eq, lenE, getV_map, getV_mapO, w_wrap, Nat.mul_one, hlt, hb]
          refine callI.of (mtA _) (callO.pc hn ?_)
          simp (maxSteps := 2000000) -implicitDefEqProofs +contextual (disch := first | assumption | omega | decide +kernel) only [push_cast, ↓capI, br2_true, br2_false, frk_tt, frk_tf, frk_f, frkD_tt, frkD_tf, frkD_f, pk2_true, pk2_false, imp_true, seval, Nat.reduceLeDiff, Nat.reduceEqDiff, reduceCtorEq, ↓reduceIte, cfg0, encA, ones_A, ib_and, w_ofInt, w_shr, BitVec.reduceOfInt, bit_eq, lenE, getV_map, getV_mapO, w_wrap, Nat.mul_one]
          refine endK.ret ?_ (by first | rfl | simp [bel_clA, bel_encA, bel_As]); simp [evRes, getT, retV, Try.f39,  hacc]
    · have h64 : i = L.length := by omega
      subst h64
      rw [List.drop_eq_nil_of_le (Nat.le_refl _), accI] at hacc
      simp (maxSteps := 2000000) -implicitDefEqProofs +contextual (disch := first | assumption | omega | decide +kernel) only [push_cast, ↓capI, br2_true, br2_false, frk_tt, frk_tf, frk_f, frkD_tt, frkD_tf, frkD_f, pk2_true, pk2_false, imp_true, seval, Nat.reduceLeDiff, Nat.reduceEqDiff, reduceCtorEq, ↓reduceIte, cfg0, encA, ones_A, ib_and, w_ofInt, w_shr, BitVec.reduceOfInt, bit_eq, lenE, getV_map, getV_mapO, w_wrap, Nat.mul_one, hlt]
      refine endK.ret ?_ (by first | rfl | simp [bel_clA, bel_encA, bel_As]); simp [evRes, getT, retV, Try.f39,  hacc]
end Go.Proofs.Ytkjffppioddnpaa


/-
  Chapter 45: the listed package-level variables; from a contract to a given statement.
-/
import Derived.Test.YtlbmbbaefncleaaGreatDoorLaw
import Derived.Lib.LaidTab
import Derived.Lib.LaidU8
import Derived.LaidMore
import Derived.Stop.Joined
set_option maxRecDepth 100000
set_option maxHeartbeats 4000000
set_option linter.all false
namespace Go.Proofs.YtlbmbbaefncleaaGreatDoor
open Go Go.Vm Go.ChangeShapes Go.WideShapes Go.ChangeAt Go.RowKit
abbrev LL : List (String × DataW Unit) := Rows.policyOverridesRow.laid
theorem gPow : Tryz.prog.globalNamed "internal/strconv.uint64pow10" = some 1 := by kernel_rfl
theorem tPow : (Tryz.prog.globals[1]?).map (·.type) = some 299 := by kernel_rfl
theorem gl1 : (GlobTab.gl 1 : Option (List (IntKind × Int))) = some [(.u64, 1), (.u64, 10), (.u64, 100), (.u64, 1000), (.u64, 10000), (.u64, 100000), (.u64, 1000000), (.u64, 10000000), (.u64, 100000000), (.u64, 1000000000), (.u64, 10000000000), (.u64, 100000000000), (.u64, 1000000000000), (.u64, 10000000000000), (.u64, 100000000000000), (.u64, 1000000000000000), (.u64, 10000000000000000), (.u64, 100000000000000000), (.u64, 1000000000000000000), (.u64, 10000000000000000000)] := rfl
theorem gt_of_laid {W : World} (h : laidMetH Tryz.prog LL W) : GT (fun _ => False) W := by
 rw [MakeChecks.laidMetH_plain _ _ _ (by kernel_rfl)] at h
 obtain ⟨g', t', cs, fuel, p, hg', ht', hvar, hd⟩ := Lib.laidMet.reads h (n := "internal/strconv.uint64pow10") (d := Rows.laid_internal_strconv_uint64pow10) (by simp [LL, Rows.policyOverridesRow])
 obtain rfl := Option.some.inj (gPow.symm.trans hg')
 obtain rfl := Option.some.inj (tPow.symm.trans ht')
 have hc := Lib.cells_of_tab (k := .u64) (zs := [1, 10, 100, 1000, 10000, 100000, 1000000, 10000000, 100000000, 1000000000, 10000000000, 100000000000, 1000000000000, 10000000000000, 100000000000000, 1000000000000000, 10000000000000000, 100000000000000000, 1000000000000000000, 10000000000000000000])
  (show Tryz.prog.underlying 299 = some (.array 20 128) by kernel_rfl) (show Tryz.prog.underlying 128 = some (.int .u64) by kernel_rfl) (by kernel_rfl) (by kernel_rfl) hd
 have hcell := World.var?_cell hg' hvar
 intro g l hgl
 have h0 : g = 1 ∧ l = [(.u64, 1), (.u64, 10), (.u64, 100), (.u64, 1000), (.u64, 10000), (.u64, 100000), (.u64, 1000000), (.u64, 10000000), (.u64, 100000000), (.u64, 1000000000), (.u64, 10000000000), (.u64, 100000000000), (.u64, 1000000000000), (.u64, 10000000000000), (.u64, 100000000000000), (.u64, 1000000000000000), (.u64, 10000000000000000), (.u64, 100000000000000000), (.u64, 1000000000000000000), (.u64, 10000000000000000000)] := by
  match g, hgl with
  | 0, hgl => cases hgl
  | 1, hgl => rw [gl1] at hgl; exact ⟨rfl, (Option.some.inj hgl).symm⟩
  | g + 2, hgl => cases hgl
 obtain ⟨rfl, rfl⟩ := h0
 have hcs : CellsAt W 1 0 cs.toList := by
  intro i v hv
  rw [Nat.zero_add, hcell i, ← hv, Array.getElem?_toList]
 refine ⟨?_, fun h => h, ?_⟩
 ·have h1 := hcell 0
  have h2 : cs[0]? = some (.int .u64 1) := by rw [← Array.getElem?_toList, hc]; rfl
  rw [h2] at h1
  apply Decidable.byContradiction
  intro hn
  unfold World.cell? at h1
  rw [Array.getElem?_eq_none (by simp only; omega)] at h1
  cases h1
 ·rw [hc] at hcs
  exact hcs
noncomputable def laidWorld (os : Os) : World := World.doorLaid Tryz.prog 34 os
theorem door_met (os : Os) (args : Array Value) : laidMetH Tryz.prog LL ((laidWorld os).forCall (fun _ _ => 0) ⟨#[], args, []⟩).memory :=
 laidMetH_of_parts3 (fuel := 8) (laidMet_of_run' 8 (by kernel_rfl) (by kernel_rfl)) (by kernel_rfl) (by kernel_rfl)
end Go.Proofs.YtlbmbbaefncleaaGreatDoor

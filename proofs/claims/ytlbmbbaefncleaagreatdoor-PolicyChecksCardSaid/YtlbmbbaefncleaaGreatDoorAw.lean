/-
  Chapter 45: the chapter's examples, run.
-/
import Derived.Test.YtlbmbbaefncleaaGreatDoorAw0
set_option maxRecDepth 100000
set_option maxHeartbeats 4000000
set_option linter.all false
namespace Go.Proofs.YtlbmbbaefncleaaGreatDoor
open Go.Vm
def CF (k : Nat) (args : List V) (n : Nat) : Cfg := match k with
 | 265 => { lv := [], ef := [9], ord := [], em := [] }
 | 266 => { lv := [], ef := [9], ord := [], em := [] }
 | 229 => { lv := [], ef := [9], ord := [], em := [9], fl := [], ks := some (ptrs args) }
 | 231 => { lv := [], ef := [9], ord := [], em := [9], fl := [], ks := some (ptrs args) }
 | 219 => { lv := [], ef := [7], ord := [], em := [7], fl := [], ks := some (ptrs args) }
 | 106 => { lv := [5], ef := [], ord := [], em := [] }
 | 107 => { lv := [5], ef := [], ord := [], em := [] }
 | 232 => { lv := [5], ef := [], ord := [], em := [] }
 | 99 => { lv := [7], ef := [], ord := [], em := [] }
 | 174 => { lv := [22], ef := [88], ord := [], em := [88], ks := some [n + 6, n + 4] }
 | 175 => { lv := [16], ef := [], ord := [], em := [] }
 | 61 => { lv := [], ef := [162], ord := [(30, [0, 1, 2, 3, 4, 6, 7, 8, 9, 10, 11, 5, 12, 13, 14, 15, 16])], em := [169, 172], fl := [38, 43, 41, 46], ks := some (List.range' n 10) }
 | _ => c0
def ZF (k : Nat) : Nat := match k with
 | 174 => 3
 | 175 => 3
 | 146 => 3
 | 98 => 3
 | 61 => 3
 | 111 => 2
 | 69 => 2
 | 71 => 2
 | 180 => 2
 | 112 => 1
 | 106 => 1
 | 107 => 1
 | 67 => 3
 | 113 => 1
 | 114 => 1
 | 115 => 1
 | 153 => 1
 | _ => 0
def ZC (k : Nat) (args : List V) (n i : Nat) : List Nat := match k with
 | 61 => (match i with | 1 => [n, n + 1] | _ => [])
 | _ => []
def pPair : V := .sl false [.int .i64 6, .int .i64 0, .int .i64 2, .int .i64 0] 2
def qPred : V := .sl false [.int .i64 1, .int .i64 0, .int .u8 0, .int .u8 0] 1
def lRule : V := .sl false [.int .i64 0, .int .i64 1, qPred, pPair] 1
def fmtV : V := .tup [.str [114, 117, 108, 101, 32, 48, 32, 49, 10, 116, 114, 117, 101, 10, 46, 42, 10], .int .i64 0]
def XX : V → List V → List Ob → Option (V × List Ob) := fun f a H => match f with
 | .fn (.func 11) [] [] => (match eqVs a [lRule] with | true => some (fmtV, H) | false => none)
 | _ => none
theorem hXX (h : PC Tryz.prog 11 [lRule] fmtV) : ∀ f a H v H', XX f a H = some (v, H') → ACall Tryz.prog f a H v H' := by
 intro f a H v H' e
 unfold XX at e
 split at e
 ·split at e
  ·rename_i he
   cases e
   obtain rfl := eqVs_ok he
   exact .inl (h H)
  ·cases e
 ·cases e
theorem awk (h : PC Tryz.prog 11 [lRule] fmtV) : PC Tryz.prog 10 [] (.bool true) :=
 PC.run Tryz.prog tt MT tbl CF XX 1000 ZF ZC hMT (hXX h) tok mixed' 30 rfl rfl (by kernel_rfl)
end Go.Proofs.YtlbmbbaefncleaaGreatDoor

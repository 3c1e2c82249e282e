/-
  Joined by a program from the texts Vm6.
-/
import Derived.Test.YtlbmbbaefncleaaGreatDoorSe
set_option linter.all false
namespace Go.Vm
abbrev W64:=BitVec 64
section
variable {x y:W64} {a b n:Int}
end
end Go.Vm
namespace Go.Vm
section
variable {α:Type}
end
end Go.Vm

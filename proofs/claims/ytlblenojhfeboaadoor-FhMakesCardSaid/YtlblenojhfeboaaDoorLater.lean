/-
  Operations under other names: a region that draws its order (go_region_held3) then runs them in their place, not first. No condition.
-/
import Derived.Test.YtlblenojhfeboaaDoorMem
namespace Go.Proofs.YtlblenojhfeboaaDoor
def laterLd (T : TypeId) (x : Operand) : Op := Op.load T x
theorem laterLd_eq (T : TypeId) (x : Operand) : Op.load T x = laterLd T x := rfl
def laterCv (S T : TypeId) (x : Operand) : Op := Op.convert S T x
theorem laterCv_eq (S T : TypeId) (x : Operand) : Op.convert S T x = laterCv S T x := rfl
end Go.Proofs.YtlblenojhfeboaaDoor

/-
  The library's own number is some number. No condition.
-/
import Derived.Test.YtlblenojhfeboaaDoorFhWalkJ
import Derived.Shelf.Vars
namespace Go.Proofs.YtlblenojhfeboaaDoor
open Go.RowKit
theorem mxLen3_of {W : World} (h : W.ShapedOpen Tryd.prog) : MxLen3 W :=
  cell_of_shapedOpen_int (g := 1) (t := 3) (zero := #[.int .i64 0]) h (of_decide_eq_true (by kernel_rfl)) (by kernel_rfl) rfl (by kernel_rfl) (by kernel_rfl) Tryd.underlying3
end Go.Proofs.YtlblenojhfeboaaDoor

/-
  Layer 4, walks: a byte, shown. No condition.
-/
import Derived.Test.YtlblenojhfeboaaDoorNamePureB
import Derived.Test.YtlblenojhfeboaaDoorProg
import Derived.Test.YtlblenojhfeboaaDoorBytes
namespace Go.Proofs.YtlblenojhfeboaaDoor
open Go.RowKit
attribute [local go_sem ↓] Go.wp_at_zero Go.wp_at_succ
attribute [local go_sem] rowAt_ptr rowOf_drew rowOf_drewN rowOf_alloc_past rowOf_new
theorem bs_part (s : List UInt8) (a b : Nat) : (bs s).extract a b = bs ((s.drop a).take (b - a)) := by
  apply ByteArray.ext
  simp [List.extract]
theorem dig_cut {n : Nat} (h : n < 16) : (bs digL).extract n (n + 1) = bs [dig n] := by
  rw [bs_part, show n + 1 - n = 1 by omega, ← List.getElem_cons_drop (show n < digL.length from h)]
  have e : dig n = digL[n]'h := by unfold dig; rw [List.getD_eq_getElem?_getD, List.getElem?_eq_getElem (show n < digL.length from h)]; rfl
  rw [e]
  rfl
end Go.Proofs.YtlblenojhfeboaaDoor

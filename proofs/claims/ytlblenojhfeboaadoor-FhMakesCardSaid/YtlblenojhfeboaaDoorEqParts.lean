/-
  Parts of handles held against each other, whole. No condition.
-/
import Derived.Test.YtlblenojhfeboaaDoorStructEq
import Derived.Test.YtlblenojhfeboaaDoorXdrMem
import Derived.Test.YtlblenojhfeboaaDoorApiWire
namespace Go.Proofs.YtlblenojhfeboaaDoor
open Go.RowKit
attribute [local go_sem ↓] Go.wp_at_zero Go.wp_at_succ
attribute [local go_sem] rowAt_ptr rowOf_drew rowOf_drewN rowOf_alloc_past rowOf_new
def lfParts : List Leaf := [.i .i64, .i .i64, .i .i64]
theorem leafsParts : leafs Tryd.prog 8 24 = some lfParts := by kernel_rfl
theorem guardParts : Tryd.prog.eqGuardType Tryd.prog.depth 24 = false := by kernel_rfl
theorem Parts.inj3 {x y : Parts} (h : x.vals = y.vals) : x = y := by
  obtain ⟨_, _, _⟩ := x
  obtain ⟨_, _, _⟩ := y
  simp only [Parts.vals, List.cons.injEq, Value.int.injEq, true_and, and_true] at h
  obtain ⟨h0, h1, h2⟩ := h
  subst_vars
  rfl
theorem eqlParts (x y : Parts) (w : World) : (binOp .eql 24 (.agg x.vals.toArray) (.agg y.vals.toArray)).run Tryd.prog w = .ok (.bool (decide (x = y))) w := by
  by_cases h : x = y
  · rw [eql_same leafsParts (by kernel_rfl) w _ _ (by rfl) (by rw [h]), decide_eq_true h]
  · rw [eql_other leafsParts (by kernel_rfl) w _ _ (by rfl) (by rfl) (fun e => h (Parts.inj3 e)), decide_eq_false h]
theorem eqlPartsZ (x : Parts) (w : World) : (binOp .eql 24 (.agg x.vals.toArray) (.agg #[.int .i64 0, .int .i64 0, .int .i64 0])).run Tryd.prog w = .ok (.bool (decide (x = ⟨0, 0, 0⟩))) w := eqlParts x ⟨0, 0, 0⟩ w
end Go.Proofs.YtlblenojhfeboaaDoor

/-
  Layer 20, walks: the law NodeWritten. No condition but machine numbers.
-/
import Derived.Test.YtmkhpgpnahligaaNodeWalkA
import Derived.Test.YtmkhpgpnahligaaNodePureB
namespace Go.Proofs.Ytmkhpgpnahligaa
open Go.RowKit
attribute [local go_sem ↓] Go.wp_at_zero Go.wp_at_succ
attribute [local go_sem] rowAt_ptr rowOf_drew rowOf_drewN rowOf_alloc_past rowOf_new
attribute [local go_sem] bs_get

set_option maxHeartbeats 800000 in
theorem known20_any (w : World) : Calls Try.prog 8 #[] w fun e w' => e = .returned (.bool true) ∧ Below w.heap.size w w' := by
  go_enter Try.func8, Try.ntmps8
  go_wp2_with fail
  refine (nwrite_any [120] 2 [97, 98] _ (by decide) (by decide) (by decide)).mono ?_
  rintro e w1 ⟨he, hb⟩
  rw [show nWrite [120] 2 [97, 98] = ([120, 0, 97, 98], 0) by decide +kernel] at he
  subst he
  go_wp2_with fail
  refine (nread_any [120, 0, 97, 98] 3 9 _ (by decide) (by decide) (by decide)).mono ?_
  rintro e w2 ⟨he, rfl⟩
  rw [show nRead [120, 0, 97, 98] 3 9 = ([98], true) by decide +kernel] at he
  subst he
  go_wp2
  go_ret
  exact ⟨rfl, hb⟩

end Go.Proofs.Ytmkhpgpnahligaa

/-
  Layer 4, walks: what is plain, by both; the document's size of a rune. Condition: machine texts.
-/
import Derived.Test.YtjjlkdmpnpejjaaDoorNameWalkA
import Derived.Test.YtjjlkdmpnpejjaaDoorNamePureB
namespace Go.Proofs.YtjjlkdmpnpejjaaDoor
open Go.RowKit
attribute [local go_sem ↓] Go.wp_at_zero Go.wp_at_succ
attribute [local go_sem] rowAt_ptr rowOf_drew rowOf_drewN rowOf_alloc_past rowOf_new

set_option maxRecDepth 20000 in
set_option maxHeartbeats 1600000 in
theorem refPlain4_any (v : Nat) (w : World) : Calls Tryd.prog 31 #[.int .i64 (v : Int)] w fun e w' => e = .returned (.bool (plainR v)) ∧ w = w' := by
  obtain ⟨R, hR⟩ : ∃ R, R = plainR v := ⟨_, rfl⟩
  have HR := Lib.hid hR
  rw [← hR]
  clear hR
  go_enter Tryd.func31, Tryd.ntmps31
  go_wp2
  all_goals
    go_ret
    refine ⟨ret_bool ?_, rfl⟩
    rw [HR.out]
    clear HR
    unfold plainR
    rw [Bool.eq_iff_iff]
    simp only [decide_eq_true_eq, beq_iff_eq, bne_iff_ne, Bool.false_eq_true, true_iff, false_iff, ne_eq]
    first | omega | grind
set_option maxRecDepth 20000 in
set_option maxHeartbeats 1600000 in
theorem plain4_any (v : Nat) (w : World) : Calls Tryd.prog 27 #[.int .i32 (v : Int)] w fun e w' => e = .returned (.bool (plainR v)) ∧ w = w' := by
  obtain ⟨R, hR⟩ : ∃ R, R = plainR v := ⟨_, rfl⟩
  have HR := Lib.hid hR
  rw [← hR]
  clear hR
  go_enter Tryd.func27, Tryd.ntmps27
  go_wp2
  all_goals
    go_ret
    refine ⟨ret_bool ?_, rfl⟩
    rw [HR.out]
    clear HR
    unfold plainR
    rw [Bool.eq_iff_iff]
    simp only [decide_eq_true_eq, beq_iff_eq, bne_iff_ne, Bool.false_eq_true, true_iff, false_iff, ne_eq]
    first | omega | grind
end Go.Proofs.YtjjlkdmpnpejjaaDoor

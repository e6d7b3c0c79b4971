/-
  Layer 7, walks: which letters a procedure's calls have, and whether it changes something (written by wip/tools/genfields.py). No condition.
-/
import Derived.Test.YtfjflkmhhbhceaaGreatDoorProg
import Derived.Test.YtfjflkmhhbhceaaGreatDoorW04
import Derived.Test.YtfjflkmhhbhceaaGreatDoorW02
import Derived.Deep.Light
namespace Go.Proofs.YtfjflkmhhbhceaaGreatDoor
open Go.RowKit
attribute [local go_sem ↓] Go.wp_at_zero Go.wp_at_succ
attribute [local go_sem] rowAt_ptr rowOf_drew rowOf_drewN rowOf_alloc_past rowOf_new

def lettersC : List (List UInt8) := [[], [102], [102, 115, 103], [102, 110], [102, 104], [102], [102, 111, 99], [102, 111, 104, 100], [102, 110, 104, 115, 118], [102, 110, 115], [102, 110, 115, 116], [102, 110, 104, 115], [102, 110], [102, 110], [102, 110, 70, 78], [102, 70, 78], [102, 107, 118, 99], [102, 107, 118, 99], [102], [102], [102], [102, 111, 99]]
/-- the letters of a procedure's calls -/
def cFields (p : Int) : List UInt8 := if p < 0 then [] else lettersC.getD p.toNat []
theorem cFields_cases (p : Int) : p < 0 ∨ 22 ≤ p ∨ p = 0 ∨ p = 1 ∨ p = 2 ∨ p = 3 ∨ p = 4 ∨ p = 5 ∨ p = 6 ∨ p = 7 ∨ p = 8 ∨ p = 9 ∨ p = 10 ∨ p = 11 ∨ p = 12 ∨ p = 13 ∨ p = 14 ∨ p = 15 ∨ p = 16 ∨ p = 17 ∨ p = 18 ∨ p = 19 ∨ p = 20 ∨ p = 21 := by omega
theorem cFields_low {p : Int} (h : p < 0) : cFields p = [] := by simp [cFields, h]
theorem cFields_high {p : Int} (h : 22 ≤ p) : cFields p = [] := by
  have h1 : ¬ p < 0 := by omega
  have h2 : lettersC.length ≤ p.toNat := by show 22 ≤ _; omega
  simp [cFields, h1, List.getD, List.getElem?_eq_none h2]
set_option maxHeartbeats 1600000 in
theorem callFields_any (p : Int) (w : World) : Calls Tryz.prog 119 #[.int .i64 p] w fun e w' => e = .returned (.string (bs (cFields p))) ∧ Below w.heap.size w w' := by
  rcases cFields_cases p with hlo | hhi | rfl | rfl | rfl | rfl | rfl | rfl | rfl | rfl | rfl | rfl | rfl | rfl | rfl | rfl | rfl | rfl | rfl | rfl | rfl | rfl | rfl | rfl
  · rw [cFields_low hlo]
    go_enter Tryz.func119, Tryz.ntmps119
    go_wp2
    all_goals first
      | (go_ret; exact ⟨rfl, Below.refl _ _⟩)
      | (exfalso; omega)
  · rw [cFields_high hhi]
    go_enter Tryz.func119, Tryz.ntmps119
    go_wp2
    all_goals first
      | (go_ret; exact ⟨rfl, Below.refl _ _⟩)
      | (exfalso; omega)
  all_goals
    go_enter Tryz.func119, Tryz.ntmps119
    go_wp2
    go_ret
    exact ⟨rfl, Below.refl _ _⟩

set_option maxHeartbeats 1600000 in
theorem refFields_any (p : Int) (w : World) : Calls Tryz.prog 53 #[.int .i64 p] w fun e w' => e = .returned (.string (bs (cFields p))) ∧ Below w.heap.size w w' := by
  rcases cFields_cases p with hlo | hhi | rfl | rfl | rfl | rfl | rfl | rfl | rfl | rfl | rfl | rfl | rfl | rfl | rfl | rfl | rfl | rfl | rfl | rfl | rfl | rfl | rfl | rfl
  · rw [cFields_low hlo]
    go_enter Tryz.func53, Tryz.ntmps53
    go_wp2
    go_ret
    exact ⟨rfl, (Below.refl _ _).alloc (Nat.le_refl _) _⟩
  · rw [cFields_high hhi]
    have hlo : ¬ p < 0 := by omega
    go_enter Tryz.func53, Tryz.ntmps53
    go_wp2
    go_ret
    exact ⟨rfl, (Below.refl _ _).alloc (Nat.le_refl _) _⟩
  all_goals
    go_enter Tryz.func53, Tryz.ntmps53
    go_wp2
    go_ret
    exact ⟨rfl, (Below.refl _ _).alloc (Nat.le_refl _) _⟩

end Go.Proofs.YtfjflkmhhbhceaaGreatDoor

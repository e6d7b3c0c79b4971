/-
  Layer 7, walks: which letters a procedure's calls have, and whether it changes something (written by wip/tools/genfields.py). No condition.
-/
import Derived.Test.YtapcjojlkeaadaaGreatDoorProg
import Derived.Test.YtapcjojlkeaadaaGreatDoorP03
import Derived.Test.YtapcjojlkeaadaaGreatDoorP02
import Derived.Deep.Light
namespace Go.Proofs.YtapcjojlkeaadaaGreatDoor
open Go.RowKit
attribute [local go_sem ↓] Go.wp_at_zero Go.wp_at_succ
attribute [local go_sem] rowAt_ptr rowOf_drew rowOf_drewN rowOf_alloc_past rowOf_new

def lettersC : List (List UInt8) := [[], [102], [102, 115, 103], [102, 110], [102, 104], [102], [102, 111, 99], [102, 111, 104, 100], [102, 110, 104, 115, 118], [102, 110, 115], [102, 110, 115, 116], [102, 110, 104, 115], [102, 110], [102, 110], [102, 110, 70, 78], [102, 70, 78], [102, 107, 118, 99], [102, 107, 118, 99], [102], [102], [102], [102, 111, 99]]
/-- the letters of a procedure's calls -/
def cFields (p : Int) : List UInt8 := if p < 0 then [] else lettersC.getD p.toNat []
theorem cFields_cases (p : Int) : p < 0 ∨ 22 ≤ p ∨ p = 0 ∨ p = 1 ∨ p = 2 ∨ p = 3 ∨ p = 4 ∨ p = 5 ∨ p = 6 ∨ p = 7 ∨ p = 8 ∨ p = 9 ∨ p = 10 ∨ p = 11 ∨ p = 12 ∨ p = 13 ∨ p = 14 ∨ p = 15 ∨ p = 16 ∨ p = 17 ∨ p = 18 ∨ p = 19 ∨ p = 20 ∨ p = 21 := by omega
theorem cFields_low {p : Int} (h : p < 0) : cFields p = [] := by simp [cFields, h]
theorem cFields_high {p : Int} (h : 22 ≤ p) : cFields p = [] := by
  have h1 : ¬ p < 0 := by omega
  have h2 : lettersC.length ≤ p.toNat := by show 22 ≤ _; omega
  simp [cFields, h1, List.getD, List.getElem?_eq_none h2]
def cChanges (p : Int) : Bool := p == 2 || (decide (7 ≤ p) && decide (p ≤ 15))

theorem cChanges_leaf {b : Bool} {p : Int} (h : b = cChanges p) : Ending.returned (.bool b) = .returned (.bool (cChanges p)) := by rw [h]
end Go.Proofs.YtapcjojlkeaadaaGreatDoor

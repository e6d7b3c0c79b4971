/-
  Layer 8, walks: which letters a procedure's results have (written by wip/tools/genfields8.py). No condition.
-/
import Derived.Test.YtmkhpgpnahligaaProg
import Derived.Test.YtmkhpgpnahligaaCells
import Derived.Test.YtmkhpgpnahligaaXdrPure
import Derived.Deep.Light
namespace Go.Proofs.Ytmkhpgpnahligaa
open Go.RowKit
attribute [local go_sem ↓] Go.wp_at_zero Go.wp_at_succ
attribute [local go_sem] rowAt_ptr rowOf_drew rowOf_drewN rowOf_alloc_past rowOf_new

def lettersP : List (List UInt8) := [[], [97], [119], [104, 97, 68], [97, 120], [97, 100], [97, 101, 100], [119, 99, 115, 118], [104, 97, 119], [104, 97, 119], [104, 97, 119], [104, 97, 119], [119], [119], [119, 87], [97, 87], [97, 118, 108, 101], [97, 118, 112, 101], [97, 110], [97, 110], [97, 110], [119, 118]]
def lettersQ : List (List UInt8) := [[], [], [119], [68], [97], [97], [97], [119], [119], [119], [119], [119], [119], [119], [119, 87], [97, 87], [97], [97], [97], [97], [97], [119]]
def lettersPQ (fine : Bool) : List (List UInt8) := if fine then lettersP else lettersQ
/-- the letters of a procedure's results -/
def pFields (p : Int) (fine : Bool) : List UInt8 := if p < 0 then [] else (lettersPQ fine).getD p.toNat []
theorem pFields_cases (p : Int) : p < 0 ∨ 22 ≤ p ∨ p = 0 ∨ p = 1 ∨ p = 2 ∨ p = 3 ∨ p = 4 ∨ p = 5 ∨ p = 6 ∨ p = 7 ∨ p = 8 ∨ p = 9 ∨ p = 10 ∨ p = 11 ∨ p = 12 ∨ p = 13 ∨ p = 14 ∨ p = 15 ∨ p = 16 ∨ p = 17 ∨ p = 18 ∨ p = 19 ∨ p = 20 ∨ p = 21 := by omega
theorem pFields_low {p : Int} {fine : Bool} (h : p < 0) : pFields p fine = [] := by simp [pFields, h]
theorem pFields_high {p : Int} {fine : Bool} (h : 22 ≤ p) : pFields p fine = [] := by
  have h1 : ¬ p < 0 := by omega
  have h2 : (lettersPQ fine).length ≤ p.toNat := by
    have : (lettersPQ fine).length = 22 := by cases fine <;> rfl
    omega
  simp [pFields, h1, List.getD, List.getElem?_eq_none h2]

set_option maxHeartbeats 1600000 in
theorem refused_any (p : Int) (w : World) : Calls Try.prog 29 #[.int .i64 p] w fun e w' => e = .returned (.string (bs (pFields p false))) ∧ Below w.heap.size w w' := by
  rcases pFields_cases p with hlo | hhi | rfl | rfl | rfl | rfl | rfl | rfl | rfl | rfl | rfl | rfl | rfl | rfl | rfl | rfl | rfl | rfl | rfl | rfl | rfl | rfl | rfl | rfl
  · rw [pFields_low hlo]
    go_enter Try.func29, Try.ntmps29
    go_wp2
    all_goals first
      | (go_ret; exact ⟨rfl, Below.refl _ _⟩)
      | (exfalso; omega)
  · rw [pFields_high hhi]
    have hlo : ¬ p < 0 := by omega
    go_enter Try.func29, Try.ntmps29
    go_wp2
    all_goals first
      | (go_ret; exact ⟨rfl, Below.refl _ _⟩)
      | (exfalso; omega)
  all_goals
    go_enter Try.func29, Try.ntmps29
    go_wp2
    go_ret
    exact ⟨rfl, Below.refl _ _⟩

set_option maxHeartbeats 1600000 in
theorem replyFieldsT_any (p : Int) (w : World) : Calls Try.prog 13 #[.int .i64 p, .bool true] w fun e w' => e = .returned (.string (bs (pFields p true))) ∧ Below w.heap.size w w' := by
  rcases pFields_cases p with hlo | hhi | rfl | rfl | rfl | rfl | rfl | rfl | rfl | rfl | rfl | rfl | rfl | rfl | rfl | rfl | rfl | rfl | rfl | rfl | rfl | rfl | rfl | rfl
  · rw [pFields_low hlo]
    go_enter Try.func13, Try.ntmps13
    go_wp2
    all_goals first
      | (go_ret; exact ⟨rfl, Below.refl _ _⟩)
      | (exfalso; omega)
  · rw [pFields_high hhi]
    go_enter Try.func13, Try.ntmps13
    go_wp2
    all_goals first
      | (go_ret; exact ⟨rfl, Below.refl _ _⟩)
      | (exfalso; omega)
  all_goals
    go_enter Try.func13, Try.ntmps13
    go_wp2
    go_ret
    exact ⟨rfl, Below.refl _ _⟩

theorem replyFields_any (p : Int) (fine : Bool) (w : World) : Calls Try.prog 13 #[.int .i64 p, .bool fine] w fun e w' => e = .returned (.string (bs (pFields p fine))) ∧ Below w.heap.size w w' := by
  cases fine
  · have hr := refused_any p w
    generalize pFields p false = l at *
    go_enter Try.func13, Try.ntmps13
    go_wp2_with fail
    refine hr.mono ?_
    rintro e w1 ⟨rfl, hb1⟩
    go_wp2
    go_ret
    exact ⟨rfl, hb1⟩
  · exact replyFieldsT_any p w
end Go.Proofs.Ytmkhpgpnahligaa

/-
  Layer 7, walks: what must come of fixed calls; the law CallFields. No condition.
-/
import Derived.Test.YtjepemfllgjhfaaCallWalkK
namespace Go.Proofs.Ytjepemfllgjhfaa
open Go.RowKit
attribute [local go_sem ↓] Go.wp_at_zero Go.wp_at_succ
attribute [local go_sem] rowAt_ptr rowOf_drew rowOf_drewN rowOf_alloc_past rowOf_new

def knownCall : Call := ⟨3, [104], [97], [], [], 0, 0, 0, [], ⟨⟨false, 0⟩, ⟨false, 0⟩, ⟨false, 0⟩, ⟨false, 0⟩, ⟨false, 0⟩⟩, ⟨false, 0⟩, 0, 0, []⟩
theorem cPut_known : cPut knownCall = ([0, 0, 0, 1, 104, 0, 0, 0, 0, 0, 0, 1, 97, 0, 0, 0], 0) := by kernel_rfl
theorem cFields_write : cFields 7 = [102, 111, 104, 100] := by kernel_rfl

set_option maxHeartbeats 400000 in
theorem known7_any (w : World) : Calls Try.prog 23 #[] w fun e w' => e = .returned (.bool true) ∧ Below w.heap.size w w' := by
  have hp := fun w => put7_any knownCall w (by decide) (by decide) (by decide) ⟨rfl, rfl, rfl, rfl, rfl⟩ (by decide)
  rw [cPut_known] at hp
  have hf := fun w => callFields_any 7 w
  rw [cFields_write] at hf
  go_enter Try.func23, Try.ntmps23
  go_wp2_with fail
  refine (hp _).mono ?_
  rintro e w1 ⟨rfl, hb1⟩
  go_wp2_with fail
  refine (hf _).mono ?_
  rintro e w2 ⟨rfl, hb2⟩
  go_wp2
  go_ret
  exact ⟨rfl, below_then hb1 hb2⟩

set_option maxHeartbeats 400000 in
theorem callFields7_any (p : Int) (w : World) : Calls Try.prog 6 #[.int .i64 p] w fun e w' => e = .returned (.bool true) ∧ Below w.heap.size w w' := by
  have h1 := fun w => callFields_any p w
  have h2 := fun w => refFields_any p w
  have h3 := fun w => callChanges_any p w
  have h4 := fun w => refChanges_any p w
  generalize cFields p = l at *
  generalize cChanges p = c at *
  go_enter Try.func6, Try.ntmps6
  go_wp2_with fail
  refine (h1 _).mono ?_
  rintro e w1 ⟨rfl, hb1⟩
  go_wp2_with fail
  refine (h2 _).mono ?_
  rintro e w2 ⟨rfl, hb2⟩
  have hb := below_then hb1 hb2
  clear hb1 hb2
  go_wp2_with fail
  refine (h3 _).mono ?_
  rintro e w3 ⟨rfl, hb3⟩
  have hB := below_then hb hb3
  clear hb hb3
  go_wp2_with fail
  refine (h4 _).mono ?_
  rintro e w4 ⟨rfl, hb4⟩
  have hb := below_then hB hb4
  clear hB hb4
  go_wp2_with fail
  refine (known7_any _).mono ?_
  rintro e w5 ⟨rfl, hb5⟩
  go_wp2
  go_ret
  exact ⟨rfl, below_then hb hb5⟩
end Go.Proofs.Ytjepemfllgjhfaa

/-
  Layer 9, walks: whether a message may be. No condition.
-/
import Derived.Test.YtlblenojhfeboaaDoorProg
import Derived.Test.YtlblenojhfeboaaDoorRpcPure
import Derived.Test.YtlblenojhfeboaaDoorCells
import Derived.Test.YtlblenojhfeboaaDoorStructEq
import Derived.Deep.Light
namespace Go.Proofs.YtlblenojhfeboaaDoor
open Go.RowKit
attribute [local go_sem ↓] Go.wp_at_zero Go.wp_at_succ

theorem number9_any (n least : Int) (w : World) : Calls Tryd.prog 65 #[.int .i64 n, .int .i64 least] w fun e w' => e = .returned (.bool (num32 n least)) ∧ w = w' := by
  go_enter Tryd.func65, Tryd.ntmps65
  go_wp2
  all_goals
    go_ret
    exact ⟨ret_bool (by grind [num32]), rfl⟩
theorem there9_any (n : Int) (w : World) : Calls Tryd.prog 66 #[.int .i64 n] w fun e w' => e = .returned (.bool (thereP n)) ∧ w = w' := by
  go_enter Tryd.func66, Tryd.ntmps66
  go_wp2
  all_goals
    go_ret
    exact ⟨ret_bool (by grind [thereP]), rfl⟩

set_option maxHeartbeats 1600000 in
theorem owner9_any (c : Cred) (w : World) : Calls Tryd.prog 67 #[.agg c.vals.toArray] w fun e w' => e = .returned (.bool c.ok) ∧ Below w.heap.size w w' := by
  have hr := range_new w c.vals 40
  have hc0 := hr 0 _ rfl
  have hc1 := hr 1 _ rfl
  have hc2 := hr 2 _ rfl
  have hc3 := hr 3 _ rfl
  have hB0 : Below w.heap.size w (w.alloc (.cells c.vals.toArray 40)) := (Below.refl _ _).alloc (Nat.le_refl _) _
  clear hr
  go_enter Tryd.func67, Tryd.ntmps67
  go_wp2_with (first | (go_at_call 65; refine (number9_any _ _ _).mono ?_; rintro e w' ⟨rfl, rfl⟩) | fail)
  all_goals
    clear hc0 hc1 hc2 hc3
    go_ret
    exact ⟨ret_bool (by grind [Cred.ok]), hB0⟩

theorem guardCred : Tryd.prog.eqGuardType Tryd.prog.depth 40 = false := by kernel_rfl
theorem leafsCred : leafs Tryd.prog 8 40 = some (List.replicate 4 (.i .i64)) := by kernel_rfl
theorem fitsCred (a : Cred) : fits (List.replicate 4 (.i .i64)) a.vals = true := by rfl
theorem valsCred {a b : Cred} (h : a.vals = b.vals) : a = b := by
  cases a; cases b; simp_all [Cred.vals]
theorem eqCred (a b : Cred) (w : World) : (binOp .eql 40 (.agg a.vals.toArray) (.agg b.vals.toArray)).run Tryd.prog w = .ok (.bool (decide (a = b))) w := by
  by_cases h : a = b
  · subst h
    rw [eql_same leafsCred (by kernel_rfl) w _ _ (fitsCred a) rfl]
    simp
  · rw [eql_other leafsCred (by kernel_rfl) w _ _ (fitsCred a) (fitsCred b) fun hh => h (valsCred hh)]
    simp [h]
theorem eqCred0 (a : Cred) (w : World) : (binOp .eql 40 (.agg a.vals.toArray) (.agg #[.int .i64 0, .int .i64 0, .int .i64 0, .int .i64 0])).run Tryd.prog w = .ok (.bool (decide (a = cred0))) w := eqCred a cred0 w
theorem ldCred {ρ : Operand → Value} {w : World} {dst : Option Tmp} {ty : TypeId} {pos : String} {after : Array Edge} {g : Option (Nat × Bool)} {x : Operand} (h : (rowAt w 4 (ρ x)).isSome = true) :
    (execOp ρ ⟨dst, .load 40 x, ty, pos, after, g⟩).run Tryd.prog w = .ok (.value (.agg ((rowAt w 4 (ρ x)).getD #[]))) w := ex_load 40 4 Tryd.underlying40 rfl (by kernel_rfl) h
theorem ldMessage {ρ : Operand → Value} {w : World} {dst : Option Tmp} {ty : TypeId} {pos : String} {after : Array Edge} {g : Option (Nat × Bool)} {x : Operand} (h : (rowAt w 10 (ρ x)).isSome = true) :
    (execOp ρ ⟨dst, .load 42 x, ty, pos, after, g⟩).run Tryd.prog w = .ok (.value (.agg ((rowAt w 10 (ρ x)).getD #[]))) w := ex_load 42 10 Tryd.underlying42 rfl (by kernel_rfl) h
attribute [local go_sem ↓] eqCred eqCred0 ldCred ldMessage

attribute [local go_sem] guardCred rowAt_ptr rowOf_drew rowOf_drewN

set_option maxHeartbeats 3200000 in
theorem may9_any (m : Message) (w : World) (hl : m.body.length ≤ 9223372036854775807) : Calls Tryd.prog 48 #[.agg m.vals.toArray] w fun e w' => e = .returned (.bool m.may) ∧ Below w.heap.size w w' := by
  have hr := range_new w m.vals 42
  have hc0 := hr 0 _ rfl
  have hc1 := hr 1 _ rfl
  have hc2 := hr 2 _ rfl
  have hc3 := hr 3 _ rfl
  have hc8 := hr 8 _ rfl
  have hc9 := hr 9 _ rfl
  have hb0 := Blk.new w 42 m.vals
  have h4 : rowOf (w.alloc (.cells m.vals.toArray 42)) w.heap.size 4 4 = some m.cred.vals.toArray := hb0.row 4 4 (by simp [Message.len])
  have hB0 : Below w.heap.size w (w.alloc (.cells m.vals.toArray 42)) := (Below.refl _ _).alloc (Nat.le_refl _) _
  have hz : w.heap.size < (w.alloc (.cells m.vals.toArray 42)).heap.size := by simp
  have hsz := bs_size m.body
  clear hr hb0
  go_enter Tryd.func48, Tryd.ntmps48
  go_wp2_with (first
    | (go_at_call 65; refine (number9_any _ _ _).mono ?_; rintro e w' ⟨rfl, rfl⟩)
    | (go_at_call 66; refine (there9_any _ _).mono ?_; rintro e w' ⟨rfl, rfl⟩)
    | (go_at_call 67; refine (owner9_any _ _).mono ?_; rintro e w' ⟨rfl, hb⟩; have hs := Stb.of hb) | fail)
  all_goals
    go_ret
    clear hc0 hc1 hc2 hc3 hc8 hc9 h4 hz hsz
    go_light
    refine ⟨ret_bool ?_, by first | exact hB0 | exact below_then hB0 (Stb.below (by assumption))⟩
    grind [Message.may]
end Go.Proofs.YtlblenojhfeboaaDoor

/-
  Layer 9, walks: whether a message may be. No condition.
-/
import Derived.Test.YtjkpcbbiihedaaaProg
import Derived.Test.YtjkpcbbiihedaaaRpcPure
import Derived.Test.YtjkpcbbiihedaaaCells
import Derived.Test.YtjkpcbbiihedaaaStructEq
import Derived.Deep.Light
namespace Go.Proofs.Ytjkpcbbiihedaaa
open Go.RowKit
attribute [local go_sem ↓] Go.wp_at_zero Go.wp_at_succ

theorem number9_any (n least : Int) (w : World) : Calls Try.prog 105 #[.int .i64 n, .int .i64 least] w fun e w' => e = .returned (.bool (num32 n least)) ∧ w = w' := by
  go_enter Try.func105, Try.ntmps105
  go_wp2
  all_goals
    go_ret
    exact ⟨ret_bool (by grind [num32]), rfl⟩
theorem there9_any (n : Int) (w : World) : Calls Try.prog 106 #[.int .i64 n] w fun e w' => e = .returned (.bool (thereP n)) ∧ w = w' := by
  go_enter Try.func106, Try.ntmps106
  go_wp2
  all_goals
    go_ret
    exact ⟨ret_bool (by grind [thereP]), rfl⟩

set_option maxHeartbeats 1600000 in
theorem owner9_any (c : Cred) (w : World) : Calls Try.prog 107 #[.agg c.vals.toArray] w fun e w' => e = .returned (.bool c.ok) ∧ Below w.heap.size w w' := by
  have hr := range_new w c.vals 23
  have hc0 := hr 0 _ rfl
  have hc1 := hr 1 _ rfl
  have hc2 := hr 2 _ rfl
  have hc3 := hr 3 _ rfl
  have hB0 : Below w.heap.size w (w.alloc (.cells c.vals.toArray 23)) := (Below.refl _ _).alloc (Nat.le_refl _) _
  clear hr
  go_enter Try.func107, Try.ntmps107
  go_wp2_with (first | (go_at_call 105; refine (number9_any _ _ _).mono ?_; rintro e w' ⟨rfl, rfl⟩) | fail)
  all_goals
    clear hc0 hc1 hc2 hc3
    go_ret
    exact ⟨ret_bool (by grind [Cred.ok]), hB0⟩

theorem guardCred : Try.prog.eqGuardType Try.prog.depth 23 = false := by kernel_rfl
theorem leafsCred : leafs Try.prog 8 23 = some (List.replicate 4 (.i .i64)) := by kernel_rfl
theorem fitsCred (a : Cred) : fits (List.replicate 4 (.i .i64)) a.vals = true := by rfl
theorem valsCred {a b : Cred} (h : a.vals = b.vals) : a = b := by
  cases a; cases b; simp_all [Cred.vals]
theorem eqCred (a b : Cred) (w : World) : (binOp .eql 23 (.agg a.vals.toArray) (.agg b.vals.toArray)).run Try.prog w = .ok (.bool (decide (a = b))) w := by
  by_cases h : a = b
  · subst h
    rw [eql_same leafsCred (by kernel_rfl) w _ _ (fitsCred a) rfl]
    simp
  · rw [eql_other leafsCred (by kernel_rfl) w _ _ (fitsCred a) (fitsCred b) fun hh => h (valsCred hh)]
    simp [h]
theorem eqCred0 (a : Cred) (w : World) : (binOp .eql 23 (.agg a.vals.toArray) (.agg #[.int .i64 0, .int .i64 0, .int .i64 0, .int .i64 0])).run Try.prog w = .ok (.bool (decide (a = cred0))) w := eqCred a cred0 w
theorem ldCred {ρ : Operand → Value} {w : World} {dst : Option Tmp} {ty : TypeId} {pos : String} {after : Array Edge} {g : Option (Nat × Bool)} {x : Operand} (h : (rowAt w 4 (ρ x)).isSome = true) :
    (execOp ρ ⟨dst, .load 23 x, ty, pos, after, g⟩).run Try.prog w = .ok (.value (.agg ((rowAt w 4 (ρ x)).getD #[]))) w := ex_load 23 4 Try.underlying23 rfl (by kernel_rfl) h
theorem ldMessage {ρ : Operand → Value} {w : World} {dst : Option Tmp} {ty : TypeId} {pos : String} {after : Array Edge} {g : Option (Nat × Bool)} {x : Operand} (h : (rowAt w 10 (ρ x)).isSome = true) :
    (execOp ρ ⟨dst, .load 25 x, ty, pos, after, g⟩).run Try.prog w = .ok (.value (.agg ((rowAt w 10 (ρ x)).getD #[]))) w := ex_load 25 10 Try.underlying25 rfl (by kernel_rfl) h
attribute [local go_sem ↓] eqCred eqCred0 ldCred ldMessage

attribute [local go_sem] guardCred rowAt_ptr rowOf_drew rowOf_drewN

set_option maxHeartbeats 3200000 in
theorem may9_any (m : Message) (w : World) (hl : m.body.length ≤ 9223372036854775807) : Calls Try.prog 76 #[.agg m.vals.toArray] w fun e w' => e = .returned (.bool m.may) ∧ Below w.heap.size w w' := by
  have hr := range_new w m.vals 25
  have hc0 := hr 0 _ rfl
  have hc1 := hr 1 _ rfl
  have hc2 := hr 2 _ rfl
  have hc3 := hr 3 _ rfl
  have hc8 := hr 8 _ rfl
  have hc9 := hr 9 _ rfl
  have hb0 := Blk.new w 25 m.vals
  have h4 : rowOf (w.alloc (.cells m.vals.toArray 25)) w.heap.size 4 4 = some m.cred.vals.toArray := hb0.row 4 4 (by simp [Message.len])
  have hB0 : Below w.heap.size w (w.alloc (.cells m.vals.toArray 25)) := (Below.refl _ _).alloc (Nat.le_refl _) _
  have hz : w.heap.size < (w.alloc (.cells m.vals.toArray 25)).heap.size := by simp
  have hsz := bs_size m.body
  clear hr hb0
  go_enter Try.func76, Try.ntmps76
  go_wp2_with (first
    | (go_at_call 105; refine (number9_any _ _ _).mono ?_; rintro e w' ⟨rfl, rfl⟩)
    | (go_at_call 106; refine (there9_any _ _).mono ?_; rintro e w' ⟨rfl, rfl⟩)
    | (go_at_call 107; refine (owner9_any _ _).mono ?_; rintro e w' ⟨rfl, hb⟩; have hs := Stb.of hb) | fail)
  all_goals
    go_ret
    clear hc0 hc1 hc2 hc3 hc8 hc9 h4 hz hsz
    go_light
    refine ⟨ret_bool ?_, by first | exact hB0 | exact below_then hB0 (Stb.below (by assumption))⟩
    grind [Message.may]
end Go.Proofs.Ytjkpcbbiihedaaa

/-
  Layer 5, walks: what may be set, by the program and by the reference; whether nothing is to be set. No condition.
-/
import Derived.Test.YtmkhpgpnahligaaAttrWalkA
namespace Go.Proofs.Ytmkhpgpnahligaa
open Go.RowKit
attribute [local go_sem ↓] Go.wp_at_zero Go.wp_at_succ

theorem ldOpt {ρ : Operand → Value} {w : World} {dst : Option Tmp} {ty : TypeId} {pos : String} {after : Array Edge} {g : Option (Nat × Bool)} {x : Operand} (h : (rowAt w 2 (ρ x)).isSome = true) :
    (execOp ρ ⟨dst, .load 41 x, ty, pos, after, g⟩).run Try.prog w = .ok (.value (.agg ((rowAt w 2 (ρ x)).getD #[]))) w := ex_load 41 2 Try.underlying41 rfl (by kernel_rfl) h
attribute [local go_sem ↓] ldOpt

attribute [local go_sem] rowAt_ptr rowOf_drew rowOf_drewN

end Go.Proofs.Ytmkhpgpnahligaa

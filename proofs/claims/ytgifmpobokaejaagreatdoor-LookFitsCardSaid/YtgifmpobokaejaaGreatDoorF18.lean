/-
  Layer 1, walks: a writer's number. Conditions: a number from 0 on, in 4 or 8 bytes; at most 2^40 bytes so far.
-/
import Derived.Test.YtgifmpobokaejaaGreatDoorF04
import Derived.Test.YtgifmpobokaejaaGreatDoorF08
import Derived.Deep.RegionLaw
namespace Go.Proofs.YtgifmpobokaejaaGreatDoor
open Go.RowKit
attribute [local go_sem ↓] Go.wp_at_zero Go.wp_at_succ

theorem infoU8 : (Tryz.prog.info? 5).map (fun i => (i.zero, i.size, i.bytes)) = some (some (.int .u8 0), 1, 1) := by kernel_rfl

/-- a pointer to a writer, or none -/
abbrev ptr (g : Nat) : Value := .pointer (some ⟨g, 0, none⟩)

end Go.Proofs.YtgifmpobokaejaaGreatDoor

/-
  Layer 1, walks: a writer's texts and options, its bytes. Conditions: at most 2^40 bytes so far.
-/
namespace Go.Proofs.YtgifmpobokaejaaGreatDoor
open Go.RowKit
attribute [local go_sem ↓] Go.wp_at_zero Go.wp_at_succ

end Go.Proofs.YtgifmpobokaejaaGreatDoor

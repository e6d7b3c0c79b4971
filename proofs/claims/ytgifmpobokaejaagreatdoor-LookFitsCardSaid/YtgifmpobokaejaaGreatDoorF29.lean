/-
  Layer 20, walks: bytes of a node are read, written, resized by the program. Conditions: texts of at most 2^20 bytes.
-/
import Derived.Test.YtgifmpobokaejaaGreatDoorProg
import Derived.Test.YtgifmpobokaejaaGreatDoorF02
import Derived.Test.YtgifmpobokaejaaGreatDoorF15
import Derived.Lib.Repeat
import Derived.Deep.Light
namespace Go.Proofs.YtgifmpobokaejaaGreatDoor
open Go.RowKit
attribute [local go_sem ↓] Go.wp_at_zero Go.wp_at_succ
attribute [local go_sem] rowAt_ptr rowOf_drew rowOf_drewN rowOf_alloc_past rowOf_new
attribute [local go_sem] bs_take bs_drop bs_get

theorem bs_slice (s : List UInt8) (a b : Nat) : (bs s).extract a b = bs ((s.drop a).take (b - a)) := by
  apply ByteArray.ext
  simp [List.extract]
theorem repeatL_zero (n : Nat) : Lib.repeatL [0] n = List.replicate n (0 : UInt8) := by
  induction n with
  | zero => rfl
  | succ n ih => rw [Lib.repeatL, ih]; rfl
theorem nread_leaf {d : List UInt8} {off count : Int} {a b : Nat} {c : Bool} (ha : a = nFrom d off) (hb : b = nFrom d off + nCount d off count) (hc : c = (nFrom d off + nCount d off count == d.length)) :
    Ending.returned (.tuple #[.string ((bs d).extract a b), .bool c]) = .returned (.tuple #[.string (bs (nRead d off count).1), .bool (nRead d off count).2]) := by
  subst ha hb hc
  rw [bs_slice, Nat.add_sub_cancel_left]
  rfl

set_option maxHeartbeats 400000 in
theorem nread_any (d : List UInt8) (off count : Int) (w : World) (hl : d.length ≤ 1048576) (ho : -9223372036854775808 ≤ off ∧ off ≤ 9223372036854775807) (hc : -9223372036854775808 ≤ count ∧ count ≤ 9223372036854775807) :
    Calls Tryz.prog 107 #[.string (bs d), .int .i64 off, .int .i64 count] w fun e w' => e = .returned (.tuple #[.string (bs (nRead d off count).1), .bool (nRead d off count).2]) ∧ w = w' := by
  have hsz := bs_size d
  go_enter Tryz.func107, Tryz.ntmps107
  go_wp2
  all_goals
    go_ret2
    refine ⟨nread_leaf ?_ ?_ ?_, rfl⟩
    all_goals
      go_light
      first | (unfold nFrom; omega) | (unfold nCount nFrom; omega) | (rw [Bool.eq_iff_iff, beq_iff_eq, beq_iff_eq]; unfold nCount nFrom; omega)

/-- texts that are put together -/
theorem add_bs20 (a b : List UInt8) (h : a.length + b.length ≤ 9223372036854775807) : Op.stringOp .add (bs a) (bs b) = pure (.string (bs (a ++ b))) := by
  have h2 : ¬ (((bs a).size + (bs b).size : Nat) : Int) > IntKind.i64.max := by
    rw [bs_size, bs_size]
    show ¬ (((a.length + b.length : Nat) : Int) > 9223372036854775807)
    omega
  simp only [Op.stringOp]
  rw [if_neg h2, bs_append]
attribute [local go_sem ↓] add_bs20

end Go.Proofs.YtgifmpobokaejaaGreatDoor

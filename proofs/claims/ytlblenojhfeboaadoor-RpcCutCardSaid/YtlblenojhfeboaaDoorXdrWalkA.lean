/-
  Layer 1, walks: the reference's bytes of numbers and texts; what fills up. Conditions: numbers from 0 on; texts below 2^40 bytes.
-/
import Derived.Test.YtlblenojhfeboaaDoorProg
import Derived.Test.YtlblenojhfeboaaDoorBytes
namespace Go.Proofs.YtlblenojhfeboaaDoor
open Go.RowKit
attribute [local go_sem ↓] Go.wp_at_zero Go.wp_at_succ

set_option maxHeartbeats 400000 in
theorem pad_any (n : Int) (w : World) (hn : n ≤ 9223372036854775807) :
    Calls Tryd.prog 79 #[.int .i64 n] w fun e w' => e = .returned (.int .i64 (padn n.toNat)) ∧ w = w' := by
  by_cases h : n < 1
  · have hr := Lib.hid (show padn n.toNat = 0 by rw [show n.toNat = 0 by omega]; rfl)
    go_enter Tryd.func79, Tryd.ntmps79
    go_wp2
    go_ret
    exact ⟨ret_int (by rw [hr.out]; rfl), rfl⟩
  · have hr := Lib.hid (show (padn n.toNat : Int) = (4 - n % 4) % 4 by unfold padn; omega)
    go_enter Tryd.func79, Tryd.ntmps79
    go_wp2
    go_ret
    exact ⟨ret_int (by have := hr.out; omega), rfl⟩

theorem one_string (x : Int) (W : World) : (convert 59 9 (.slice (some ⟨W.heap.size, 0, none⟩) 1 1)).run Tryd.prog (W.alloc (.cells #[.int .u8 x] 5)) = .ok (.string (bs [UInt8.ofNat x.toNat])) (W.alloc (.cells #[.int .u8 x] 5)) :=
  run_one_string Tryd.underlying59 Tryd.underlying5 Tryd.underlying9 x W
attribute [local go_sem] one_string

set_option maxRecDepth 20000 in
set_option maxHeartbeats 800000 in
theorem refNum_any (n k : Nat) (w : World) (hn : (n : Int) ≤ 9223372036854775807) (hk : k ≤ 8) :
    Calls Tryd.prog 40 #[.int .i64 n, .int .i64 k] w fun e w' => e = .returned (.string (bs (num n k))) ∧ Below w.heap.size w w' := by
  go_enter Tryd.func40, Tryd.ntmps40
  go_wp2
  go_loopg [0, 5, 6] k (fun g m s i wr => ∃ (j q : Nat) (l : List UInt8), i = .int .i64 j ∧ j + g = k ∧ m = .int .i64 q ∧ (q : Int) ≤ 9223372036854775807 ∧ s = .string (bs l) ∧ l.length = j ∧ num q g ++ l = num n k ∧ Below w.heap.size w wr)
  case atStart => exact ⟨0, n, [], rfl, by omega, rfl, hn, rfl, rfl, by simp, Below.refl _ _⟩
  case round =>
    obtain ⟨j, q, l, rfl, hj, rfl, hq, rfl, hl, hnum, hB⟩ := hrel
    have HN := Lib.hid hnum
    clear hnum
    by_cases hlt : j < k
    · have HS := Lib.hid (show num (q / 256) (gk - 1) ++ (UInt8.ofNat (q % 256) :: l) = num n k by
        rw [ofNat_mod, ← HN.out, show gk = gk - 1 + 1 by omega, num]; simp)
      go_wp2
      go_roundg (gk - 1)
      case measure => omega
      case rel => exact ⟨j + 1, q / 256, UInt8.ofNat (q % 256) :: l, by go_num, by omega, by go_num, by omega, by rw [bs_append]; rfl, by simp [hl], HS.out, hB.alloc hB.size _⟩
    · have HS := Lib.hid (show l = num n k by rw [← HN.out, show gk = 0 by omega]; rfl)
      go_wp2
      go_ret
      exact ⟨by show Ending.returned (.string (bs l)) = _; rw [HS.out], hB⟩

theorem ret_string {a b : List UInt8} (h : a = b) : Ending.returned (.string (bs a)) = .returned (.string (bs b)) := by rw [h]

theorem filled_step {l m : List UInt8} (h : filled l = filled m) (hn : m.length % 4 ≠ 0) : filled l = filled (m ++ [0]) := by
  rw [h]
  unfold filled
  have : padn m.length = padn (m ++ [0]).length + 1 := by simp [padn]; omega
  rw [this, List.append_assoc]
  rfl
theorem filled_end {m : List UInt8} (hn : m.length % 4 = 0) : filled m = m := by
  unfold filled
  rw [show padn m.length = 0 by unfold padn; omega]
  simp

end Go.Proofs.YtlblenojhfeboaaDoor

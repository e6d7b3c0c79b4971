/-
  Layer 1, walks: the reference's bytes of numbers and texts; what fills up. Conditions: numbers from 0 on; texts below 2^40 bytes.
-/
import Derived.Test.YtbpfniocaibfcaaProg
import Derived.Test.YtbpfniocaibfcaaBytes
namespace Go.Proofs.Ytbpfniocaibfcaa
open Go.RowKit
attribute [local go_sem ↓] Go.wp_at_zero Go.wp_at_succ

set_option maxHeartbeats 400000 in
theorem pad_any (n : Int) (w : World) (hn : n ≤ 9223372036854775807) :
    Calls Try.prog 9 #[.int .i64 n] w fun e w' => e = .returned (.int .i64 (padn n.toNat)) ∧ w = w' := by
  by_cases h : n < 1
  · have hr := Lib.hid (show padn n.toNat = 0 by rw [show n.toNat = 0 by omega]; rfl)
    go_enter Try.func9, Try.ntmps9
    go_wp2
    go_ret
    exact ⟨ret_int (by rw [hr.out]; rfl), rfl⟩
  · have hr := Lib.hid (show (padn n.toNat : Int) = (4 - n % 4) % 4 by unfold padn; omega)
    go_enter Try.func9, Try.ntmps9
    go_wp2
    go_ret
    exact ⟨ret_int (by have := hr.out; omega), rfl⟩

theorem one_string (x : Int) (W : World) : (convert 28 9 (.slice (some ⟨W.heap.size, 0, none⟩) 1 1)).run Try.prog (W.alloc (.cells #[.int .u8 x] 5)) = .ok (.string (bs [UInt8.ofNat x.toNat])) (W.alloc (.cells #[.int .u8 x] 5)) :=
  run_one_string Try.underlying28 Try.underlying5 Try.underlying9 x W
attribute [local go_sem] one_string

set_option maxRecDepth 20000 in
set_option maxHeartbeats 800000 in
theorem refNum_any (n k : Nat) (w : World) (hn : (n : Int) ≤ 9223372036854775807) (hk : k ≤ 8) :
    Calls Try.prog 40 #[.int .i64 n, .int .i64 k] w fun e w' => e = .returned (.string (bs (num n k))) ∧ Below w.heap.size w w' := by
  go_enter Try.func40, Try.ntmps40
  go_wp2
  go_loopg [0, 5, 6] k (fun g m s i wr => ∃ (j q : Nat) (l : List UInt8), i = .int .i64 j ∧ j + g = k ∧ m = .int .i64 q ∧ (q : Int) ≤ 9223372036854775807 ∧ s = .string (bs l) ∧ l.length = j ∧ num q g ++ l = num n k ∧ Below w.heap.size w wr)
  case atStart => exact ⟨0, n, [], rfl, by omega, rfl, hn, rfl, rfl, by simp, Below.refl _ _⟩
  case round =>
    obtain ⟨j, q, l, rfl, hj, rfl, hq, rfl, hl, hnum, hB⟩ := hrel
    have HN := Lib.hid hnum
    clear hnum
    by_cases hlt : j < k
    · have HS := Lib.hid (show num (q / 256) (gk - 1) ++ (UInt8.ofNat (q % 256) :: l) = num n k by
        rw [ofNat_mod, ← HN.out, show gk = gk - 1 + 1 by omega, num]; simp)
      go_wp2
      go_roundg (gk - 1)
      case measure => omega
      case rel => exact ⟨j + 1, q / 256, UInt8.ofNat (q % 256) :: l, by go_num, by omega, by go_num, by omega, by rw [bs_append]; rfl, by simp [hl], HS.out, hB.alloc hB.size _⟩
    · have HS := Lib.hid (show l = num n k by rw [← HN.out, show gk = 0 by omega]; rfl)
      go_wp2
      go_ret
      exact ⟨by show Ending.returned (.string (bs l)) = _; rw [HS.out], hB⟩

theorem ret_string {a b : List UInt8} (h : a = b) : Ending.returned (.string (bs a)) = .returned (.string (bs b)) := by rw [h]

theorem refTruth_any (b : Bool) (w : World) : Calls Try.prog 41 #[.bool b] w fun e w' => e = .returned (.string (bs (truth b))) ∧ Below w.heap.size w w' := by
  cases b
  · go_enter Try.func41, Try.ntmps41
    go_wp2_with (go_at_call 40; refine (refNum_any 0 4 _ (by omega) (by omega)).mono ?_; rintro e w' ⟨rfl, hb⟩)
    go_ret
    exact ⟨rfl, hb⟩
  · go_enter Try.func41, Try.ntmps41
    go_wp2_with (go_at_call 40; refine (refNum_any 1 4 _ (by omega) (by omega)).mono ?_; rintro e w' ⟨rfl, hb⟩)
    go_ret
    exact ⟨rfl, hb⟩

theorem filled_step {l m : List UInt8} (h : filled l = filled m) (hn : m.length % 4 ≠ 0) : filled l = filled (m ++ [0]) := by
  rw [h]
  unfold filled
  have : padn m.length = padn (m ++ [0]).length + 1 := by simp [padn]; omega
  rw [this, List.append_assoc]
  rfl
theorem filled_end {m : List UInt8} (hn : m.length % 4 = 0) : filled m = m := by
  unfold filled
  rw [show padn m.length = 0 by unfold padn; omega]
  simp

set_option maxRecDepth 20000 in
set_option maxHeartbeats 800000 in
theorem refFilled_any (l : List UInt8) (w : World) (hl : l.length ≤ 1000000000) :
    Calls Try.prog 42 #[.string (bs l)] w fun e w' => e = .returned (.string (bs (filled l))) ∧ Below w.heap.size w w' := by
  go_enter Try.func42, Try.ntmps42
  go_wp2
  go_loopg [0] 4 (fun g s wr => ∃ m : List UInt8, s = .string (bs m) ∧ filled l = filled m ∧ (m.length % 4 ≠ 0 → 4 - m.length % 4 ≤ g) ∧ m.length ≤ 1000000010 - g ∧ g ≤ 4 ∧ Below w.heap.size w wr)
  case atStart => exact ⟨l, rfl, rfl, fun _ => by omega, by omega, by omega, Below.refl _ _⟩
  case round =>
    obtain ⟨m, rfl, hf, hg, hm, hg4, hB⟩ := hrel
    have hsz := bs_size m
    by_cases hn : m.length % 4 = 0
    · have HS := Lib.hid (show m = filled l by rw [hf, filled_end hn])
      have h1 : ((m.length : Int) % 4 != 0) = false := by simp; omega
      clear hf hg hn
      go_wp2
      go_ret
      exact ⟨ret_string HS.out, hB⟩
    · have HS := Lib.hid (filled_step hf hn)
      have h1 : ((m.length : Int) % 4 != 0) = true := by simp; omega
      have hg' := hg hn
      have hlen : (m ++ [(0 : UInt8)]).length = m.length + 1 := by simp
      clear hf hg
      go_wp2
      go_roundg (gk - 1)
      case measure => omega
      case rel => exact ⟨m ++ [0], by rw [← bs_append], HS.out, fun h => by omega, by omega, by omega, hB⟩

set_option maxHeartbeats 800000 in
theorem refText_any (l : List UInt8) (w : World) (hl : l.length ≤ 1000000000) :
    Calls Try.prog 43 #[.string (bs l)] w fun e w' => e = .returned (.string (bs (opq l))) ∧ Below w.heap.size w w' := by
  have hsz := bs_size l
  have hf := filled_len l
  have hp := padn_lt l.length
  have hn := num_len l.length 4
  go_enter Try.func43, Try.ntmps43
  go_wp2_with fail
  refine (refNum_any l.length 4 _ (by omega) (by omega)).mono ?_
  rintro e w1 ⟨rfl, hb1⟩
  go_wp2_with fail
  refine (refFilled_any l _ hl).mono ?_
  rintro e w2 ⟨rfl, hb2⟩
  go_wp2
  go_ret
  exact ⟨by show Ending.returned (.string (bs _ ++ bs _)) = _; rw [bs_append]; rfl, below_then hb1 hb2⟩
end Go.Proofs.Ytbpfniocaibfcaa

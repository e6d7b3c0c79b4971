/-
  Layer 20, walks: bytes of a node are read, written, resized by the program. Conditions: texts of at most 2^20 bytes.
-/
import Derived.Test.YtmkhpgpnahligaaProg
import Derived.Test.YtmkhpgpnahligaaNodePure
import Derived.Test.YtmkhpgpnahligaaNodeShelf
import Derived.Deep.Light
namespace Go.Proofs.Ytmkhpgpnahligaa
open Go.RowKit
attribute [local go_sem ↓] Go.wp_at_zero Go.wp_at_succ
attribute [local go_sem] rowAt_ptr rowOf_drew rowOf_drewN rowOf_alloc_past rowOf_new
attribute [local go_sem] bs_take bs_drop bs_get

theorem bs_slice (s : List UInt8) (a b : Nat) : (bs s).extract a b = bs ((s.drop a).take (b - a)) := by
  apply ByteArray.ext
  simp [List.extract]
theorem repeatL_zero (n : Nat) : Lib.repeatL [0] n = List.replicate n (0 : UInt8) := by
  induction n with
  | zero => rfl
  | succ n ih => rw [Lib.repeatL, ih]; rfl
theorem nread_leaf {d : List UInt8} {off count : Int} {a b : Nat} {c : Bool} (ha : a = nFrom d off) (hb : b = nFrom d off + nCount d off count) (hc : c = (nFrom d off + nCount d off count == d.length)) :
    Ending.returned (.tuple #[.string ((bs d).extract a b), .bool c]) = .returned (.tuple #[.string (bs (nRead d off count).1), .bool (nRead d off count).2]) := by
  subst ha hb hc
  rw [bs_slice, Nat.add_sub_cancel_left]
  rfl

set_option maxHeartbeats 400000 in
theorem nread_any (d : List UInt8) (off count : Int) (w : World) (hl : d.length ≤ 1048576) (ho : -9223372036854775808 ≤ off ∧ off ≤ 9223372036854775807) (hc : -9223372036854775808 ≤ count ∧ count ≤ 9223372036854775807) :
    Calls Try.prog 23 #[.string (bs d), .int .i64 off, .int .i64 count] w fun e w' => e = .returned (.tuple #[.string (bs (nRead d off count).1), .bool (nRead d off count).2]) ∧ w = w' := by
  have hsz := bs_size d
  go_enter Try.func23, Try.ntmps23
  go_wp2
  all_goals
    go_ret2
    refine ⟨nread_leaf ?_ ?_ ?_, rfl⟩
    all_goals
      go_light
      first | (unfold nFrom; omega) | (unfold nCount nFrom; omega) | (rw [Bool.eq_iff_iff, beq_iff_eq, beq_iff_eq]; unfold nCount nFrom; omega)

/-- texts that are put together -/
theorem add_bs (a b : List UInt8) (h : a.length + b.length ≤ 9223372036854775807) : Op.stringOp .add (bs a) (bs b) = pure (.string (bs (a ++ b))) := by
  have h2 : ¬ (((bs a).size + (bs b).size : Nat) : Int) > IntKind.i64.max := by
    rw [bs_size, bs_size]
    show ¬ (((a.length + b.length : Nat) : Int) > 9223372036854775807)
    omega
  simp only [Op.stringOp]
  rw [if_neg h2, bs_append]
attribute [local go_sem ↓] add_bs

set_option maxHeartbeats 400000 in
theorem nfilled_any (d : List UInt8) (n : Nat) (w : World) (hl : d.length ≤ 1048576) (hn : n ≤ 1048576) :
    Calls Try.prog 35 #[.string (bs d), .int .i64 n] w fun e w' => e = .returned (.string (bs (nFill d n))) ∧ Below w.heap.size w w' := by
  have hsz := bs_size d
  have hk : max (0 : Int) ((n : Int) - (d.length : Int)) = ((n - d.length : Nat) : Int) := by omega
  have hrl : (List.replicate (n - d.length) (0 : UInt8)).length = n - d.length := by simp
  have hsum : d.length + (List.replicate (n - d.length) (0 : UInt8)).length ≤ 9223372036854775807 := by omega
  go_enter Try.func35, Try.ntmps35
  go_wp2_with fail
  refine (Try.strings_Repeat ⟨#[0]⟩ (n - d.length) _ (by omega) (by show 1 * (n - d.length) ≤ _; omega)).mono ?_
  rintro e w1 ⟨he, hb⟩
  rw [show (⟨#[0]⟩ : ByteArray).data.toList = [0] from rfl, repeatL_zero] at he
  change e = .returned (.string (bs (List.replicate (n - d.length) 0))) at he
  generalize hr : List.replicate (n - d.length) (0 : UInt8) = r at *
  have HR := Lib.hid hr
  clear hr hrl
  subst he
  go_wp2
  go_ret
  exact ⟨by rw [HR.out.symm]; rfl, hb⟩

set_option maxHeartbeats 1000000 in
theorem nwrite_any (d : List UInt8) (off : Int) (t : List UInt8) (w : World) (hl : d.length ≤ 1048576) (ht : t.length ≤ 1048576) (ho : -9223372036854775808 ≤ off ∧ off ≤ 9223372036854775807) :
    Calls Try.prog 22 #[.string (bs d), .int .i64 off, .string (bs t)] w fun e w' => e = .returned (.tuple #[.string (bs (nWrite d off t).1), .int .i64 (nWrite d off t).2]) ∧ Below w.heap.size w w' := by
  have hst := bs_size t
  by_cases h0 : off < 0
  · have HS := Lib.hid (show nWrite d off t = ([], 22) by simp [nWrite, h0])
    go_enter Try.func22, Try.ntmps22
    go_wp2
    go_ret2
    rw [HS.out]
    exact ⟨rfl, Below.refl _ _⟩
  · by_cases h1 : t = []
    · subst h1
      have HS := Lib.hid (show nWrite d off [] = (d, 0) by simp [nWrite, h0])
      go_enter Try.func22, Try.ntmps22
      go_wp2
      go_ret2
      rw [HS.out]
      exact ⟨rfl, Below.refl _ _⟩
    · have hne : t.isEmpty = false := by simpa using h1
      by_cases h2 : 1024 < off ∨ 1024 - off < (t.length : Int)
      · have HS := Lib.hid (show nWrite d off t = ([], 27) by simp [nWrite, h0, h1, h2])
        clear h1
        by_cases h3 : 1024 < off
        all_goals
          go_enter Try.func22, Try.ntmps22
          go_wp2
          go_ret2
          rw [HS.out]
          exact ⟨rfl, Below.refl _ _⟩
      · obtain ⟨k, rfl⟩ := Int.eq_ofNat_of_zero_le (show 0 ≤ off by omega)
        have HS := Lib.hid (show nWrite d k t = ((nFill d (k + t.length)).take k ++ (t ++ (nFill d (k + t.length)).drop (k + t.length)), 0) by simp [nWrite, h1, h2])
        have hfl := nFill_len d (k + t.length)
        have hk1 : k + t.length ≤ 1024 := by omega
        have hfu : (nFill d (k + t.length)).length ≤ 1048576 := by omega
        have hfd : k + t.length ≤ (nFill d (k + t.length)).length := by omega
        have hg1 : ¬ (1024 : Int) < (k : Int) := by omega
        have hg2 : ¬ (1024 : Int) - (k : Int) < (t.length : Int) := by omega
        clear h1 h2 hfl
        go_enter Try.func22, Try.ntmps22
        go_wp2_with fail
        refine (nfilled_any d (k + t.length) _ hl (by omega)).mono ?_
        rintro e w1 ⟨rfl, hb⟩
        generalize nFill d (k + t.length) = f at *
        have hfs := bs_size f
        have a1 : (f.take k).length + t.length ≤ 9223372036854775807 := by rw [List.length_take]; omega
        have a2 : (f.take k ++ t).length + (f.drop (k + t.length)).length ≤ 9223372036854775807 := by rw [List.length_append, List.length_take, List.length_drop]; omega
        have a3 : min k f.length + t.length ≤ 9223372036854775807 := by omega
        have a4 : min k f.length + t.length + (f.length - (k + t.length)) ≤ 9223372036854775807 := by omega
        have e1 : IntKind.i64.wrap ((k : Int) + (t.length : Int)) = (k : Int) + (t.length : Int) := IntWalk.i64_in _ (by omega)
        have e2 : ((k : Int) + (t.length : Int)).toNat = k + t.length := by omega
        have e3 : (0 : Int) ≤ (k : Int) + (t.length : Int) := by omega
        have e4 : (k : Int) + (t.length : Int) ≤ (f.length : Int) := by omega
        have e5 : (k : Int) ≤ (f.length : Int) := by omega
        go_wp2
        go_quiet (fail)
        go_wp2
        go_ret2
        rw [HS.out]
        exact ⟨rfl, hb.trans (bdN (Below.refl _ _) _)⟩
end Go.Proofs.Ytmkhpgpnahligaa

/-
  Layer 20, walks: the law NodeBytes. No condition but machine numbers.
-/
import Derived.Test.YtjkpcbbiihedaaaNodeWalkE
namespace Go.Proofs.Ytjkpcbbiihedaaa
open Go.RowKit
attribute [local go_sem ↓] Go.wp_at_zero Go.wp_at_succ
attribute [local go_sem] rowAt_ptr rowOf_drew rowOf_drewN rowOf_alloc_past rowOf_new

set_option maxRecDepth 20000 in
set_option maxHeartbeats 1600000 in
theorem nodeBytes_any (d : List UInt8) (off count : Int) (t : List UInt8) (w : World) (ho : -9223372036854775808 ≤ off ∧ off ≤ 9223372036854775807) (hc : -9223372036854775808 ≤ count ∧ count ≤ 9223372036854775807) :
    Calls Try.prog 5 #[.string (bs d), .int .i64 off, .int .i64 count, .string (bs t)] w fun e w' => e = .returned (.bool true) ∧ Below w.heap.size w w' := by
  have hsd := bs_size d
  have hst := bs_size t
  by_cases hlen : 1100 < d.length ∨ 1100 < t.length
  · go_enter Try.func5, Try.ntmps5
    go_wp2_with fail
    all_goals
      refine (known20_any _).mono ?_
      rintro e w1 ⟨rfl, hb⟩
      go_wp2
      go_ret
      exact ⟨rfl, hb⟩
  · have hd : d.length ≤ 1048576 := by omega
    have ht : t.length ≤ 1048576 := by omega
    have hnd : ¬ (1100 : Int) < (d.length : Int) := by omega
    have hnt : ¬ (1100 : Int) < (t.length : Int) := by omega
    have n1 := fun w => nread_any d off count w hd ho hc
    have n2 := fun w => refRead_any d off count w hd ho hc
    have n3 := fun w => nwrite_any d off t w hd ht ho
    have n4 := fun w => refWrite_any d off t w hd ht ho
    have n5 := fun w => nresize_any d count w hd hc
    have n6 := fun w => refResize_any d count w hd hc
    generalize nRead d off count = x at *
    generalize nWrite d off t = y at *
    generalize nResize d count = z at *
    obtain ⟨x1, x2⟩ := x
    obtain ⟨y1, y2⟩ := y
    obtain ⟨z1, z2⟩ := z
    clear hlen hd ht ho hc
    go_enter Try.func5, Try.ntmps5
    go_wp2_with fail
    refine (n1 _).mono ?_
    rintro e w1 ⟨rfl, rfl⟩
    go_wp2_with fail
    refine (n2 _).mono ?_
    rintro e w2 ⟨rfl, hb2⟩
    go_wp2_with fail
    refine (n3 _).mono ?_
    rintro e w3 ⟨rfl, hb⟩
    have hb3 := below_then hb2 hb
    clear hb hb2
    go_wp2_with fail
    refine (n4 _).mono ?_
    rintro e w4 ⟨rfl, hb⟩
    have hb4 := below_then hb3 hb
    clear hb hb3
    go_wp2_with fail
    refine (n5 _).mono ?_
    rintro e w5 ⟨rfl, hb⟩
    have hb5 := below_then hb4 hb
    clear hb hb4
    go_wp2_with fail
    refine (n6 _).mono ?_
    rintro e w6 ⟨rfl, hb⟩
    have hb6 := below_then hb5 hb
    clear hb hb5
    go_wp2_with fail
    refine (known20_any _).mono ?_
    rintro e w7 ⟨rfl, hb⟩
    go_wp2
    go_ret
    exact ⟨rfl, below_then hb6 hb⟩
end Go.Proofs.Ytjkpcbbiihedaaa

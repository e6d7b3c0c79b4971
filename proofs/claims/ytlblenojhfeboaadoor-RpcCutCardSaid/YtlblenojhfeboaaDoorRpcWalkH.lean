/-
  Layer 9, walks: the document's num, Owner, Check, nums, at. Condition: machine texts.
-/
import Derived.Test.YtlblenojhfeboaaDoorRpcWalkG
import Derived.Test.YtlblenojhfeboaaDoorRefReadA
import Derived.Test.YtlblenojhfeboaaDoorXdrWalkA
namespace Go.Proofs.YtlblenojhfeboaaDoor
open Go.RowKit
attribute [local go_sem ↓] Go.wp_at_zero Go.wp_at_succ
attribute [local go_sem] rowAt_ptr rowOf_drew rowOf_drewN rowOf_alloc_past rowOf_new
attribute [local go_sem] Message.at0 Message.lat0 Message.at1 Message.lat1 Message.at2 Message.lat2 Message.at3 Message.lat3 Message.at4 Message.lat4 Message.at5 Message.lat5 Message.at6 Message.lat6 Message.at7 Message.lat7 Message.at8 Message.lat8 Message.at9 Message.lat9 Message.sub0_10 Message.lsub0_10 Message.sub4_4 Message.lsub4_4 Message.len Cred.at0 Cred.lat0 Cred.at1 Cred.lat1 Cred.at2 Cred.lat2 Cred.at3 Cred.lat3 Cred.sub0_4 Cred.lsub0_4 Cred.len guardCred

attribute [local go_sem ↓] ldMessage ldCred eqCred eqCred0

theorem refNum9_any (n least : Int) (w : World) : Calls Tryd.prog 46 #[.int .i64 n, .int .i64 least] w fun e w' => e = .returned (.bool (num32 n least)) ∧ w = w' := by
  go_enter Tryd.func46, Tryd.ntmps46
  go_wp2
  all_goals
    go_ret
    exact ⟨ret_bool (by grind [num32]), rfl⟩

set_option maxHeartbeats 1600000 in
theorem refOwner9_any (c : Cred) (w : World) : Calls Tryd.prog 47 #[.agg c.vals.toArray] w fun e w' => e = .returned (.bool c.ok) ∧ Below w.heap.size w w' := by
  have hr := range_new w c.vals 40
  have hc0 := hr 0 _ rfl
  have hc1 := hr 1 _ rfl
  have hc2 := hr 2 _ rfl
  have hc3 := hr 3 _ rfl
  have hB0 : Below w.heap.size w (w.alloc (.cells c.vals.toArray 40)) := (Below.refl _ _).alloc (Nat.le_refl _) _
  clear hr
  go_enter Tryd.func47, Tryd.ntmps47
  go_wp2_with (first | (go_at_call 46; refine (refNum9_any _ _ _).mono ?_; rintro e w' ⟨rfl, rfl⟩) | fail)
  all_goals
    clear hc0 hc1 hc2 hc3
    go_ret
    exact ⟨ret_bool (by grind [Cred.ok]), hB0⟩
/-- may a message be, as the document asks -/
def Message.fit (m : Message) : Bool :=
  num32 m.xid 0 && (decide (m.body.length ≤ 2048) && ((m.body.length % 4 == 0) &&
    (if m.answer then (m.proc == 0) && (decide (m.cred = cred0) && (decide (0 ≤ m.accept) && (decide (m.accept ≤ 4) && (((m.accept == 0) || (m.body.isEmpty && !m.again)) && decide (m.body.length ≤ 2024)))))
     else decide (0 ≤ m.proc) && (decide (m.proc ≤ 21) && (m.cred.ok && ((m.accept == 0) && (!m.again && decide (m.body.length ≤ 1992))))))))

set_option maxHeartbeats 6400000 in
theorem refCheck9_any (m : Message) (w : World) (hl : m.body.length ≤ 9223372036854775807) : Calls Tryd.prog 26 #[.agg m.vals.toArray] w fun e w' => e = .returned (.bool m.fit) ∧ Below w.heap.size w w' := by
  have hr := range_new w m.vals 42
  have hc0 := hr 0 _ rfl
  have hc1 := hr 1 _ rfl
  have hc2 := hr 2 _ rfl
  have hc3 := hr 3 _ rfl
  have hc8 := hr 8 _ rfl
  have hc9 := hr 9 _ rfl
  have hb0 := Blk.new w 42 m.vals
  have h4 : rowOf (w.alloc (.cells m.vals.toArray 42)) w.heap.size 4 4 = some m.cred.vals.toArray := hb0.row 4 4 (by simp [Message.len])
  have hB0 : Below w.heap.size w (w.alloc (.cells m.vals.toArray 42)) := (Below.refl _ _).alloc (Nat.le_refl _) _
  have hz : w.heap.size < (w.alloc (.cells m.vals.toArray 42)).heap.size := by simp
  have hsz := bs_size m.body
  clear hr hb0
  go_enter Tryd.func26, Tryd.ntmps26
  go_wp2_with (first
    | (go_at_call 46; refine (refNum9_any _ _ _).mono ?_; rintro e w' ⟨rfl, rfl⟩)
    | (go_at_call 47; refine (refOwner9_any _ _).mono ?_; rintro e w' ⟨rfl, hb⟩; have hs := Stb.of hb) | fail)
  all_goals
    go_ret
    clear hc0 hc1 hc2 hc3 hc8 hc9 h4 hz hsz
    go_light
    refine ⟨ret_bool ?_, by first | exact hB0 | exact below_then hB0 (Stb.below (by assumption))⟩
    grind [Message.fit]
end Go.Proofs.YtlblenojhfeboaaDoor

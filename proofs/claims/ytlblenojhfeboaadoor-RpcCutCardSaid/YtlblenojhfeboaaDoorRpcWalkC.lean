/-
  Layer 9, walks: a message is put, refused, answered; the law RpcAnswers. No condition.
-/
import Derived.Test.YtlblenojhfeboaaDoorRpcWalkB
namespace Go.Proofs.YtlblenojhfeboaaDoor
open Go.RowKit
attribute [local go_sem ↓] Go.wp_at_zero Go.wp_at_succ
attribute [local go_sem] rowAt_ptr rowOf_drew rowOf_drewN rowOf_alloc_past rowOf_new
attribute [local go_sem ↓] eqCred eqCred0 ldCred ldMessage

attribute [local go_sem] guardCred Message.at0 Message.lat0 Message.at1 Message.lat1 Message.at2 Message.lat2 Message.at3 Message.lat3 Message.at4 Message.lat4 Message.at5 Message.lat5 Message.at6 Message.lat6 Message.at7 Message.lat7 Message.at8 Message.lat8 Message.at9 Message.lat9 Message.sub0_10 Message.lsub0_10 Message.sub4_4 Message.lsub4_4 Message.len Cred.at0 Cred.lat0 Cred.at1 Cred.lat1 Cred.at2 Cred.lat2 Cred.at3 Cred.lat3 Cred.sub0_4 Cred.lsub0_4 Cred.len

def bad14 (b : Bool) : Int := if b then 14 else 0
def Message.putV (m : Message) : Value := if m.bad then .tuple #[.string (bs []), .int .i64 14] else .tuple #[.string (bs m.bytes), .int .i64 0]

set_option maxHeartbeats 1600000 in
theorem check9_any (m : Message) (w : World) (hl : m.body.length ≤ maxLen) : Calls Tryd.prog 27 #[.agg m.vals.toArray] w fun e w' => e = .returned (.int .i64 (bad14 m.bad)) ∧ Below w.heap.size w w' := by
  unfold maxLen at hl
  have hB0 : Below w.heap.size w (w.alloc (.cells m.vals.toArray 42)) := (Below.refl _ _).alloc (Nat.le_refl _) _
  have hz : w.heap.size < (w.alloc (.cells m.vals.toArray 42)).heap.size := by simp
  have hsz := bs_size m.body
  have hsz2 := bs_size m.bytes
  go_enter Tryd.func27, Tryd.ntmps27
  go_wp2_with fail
  refine (may9_any m _ (by omega)).mono ?_
  rintro e w1 ⟨rfl, hb1⟩
  have hs1 := Stb.of hb1
  have hB1 := below_then hB0 hb1
  clear hb1
  cases hm : m.may
  · have HS := Lib.hid (show m.bad = true by simp [Message.bad, hm])
    clear hm
    go_wp2
    go_ret
    exact ⟨ret_int (by rw [HS.out]; rfl), hB1⟩
  · have HM := Lib.hid hm
    clear hm
    by_cases h2 : 2048 < m.body.length
    · have HS := Lib.hid (show m.bad = true by simp [Message.bad, h2])
      go_wp2
      go_ret
      exact ⟨ret_int (by rw [HS.out]; rfl), hB1⟩
    · have HS := Lib.hid (show m.bad = decide (2048 < m.bytes.length) by simp [Message.bad, HM.out, h2])
      have hz1 : w.heap.size < w1.heap.size := Nat.lt_of_lt_of_le hz hs1.below.size
      have hbl : m.bytes.length ≤ 3000 := by
        have := nums4_len m.nums
        have hn : m.nums.length ≤ 14 := by unfold Message.nums; split <;> simp
        have hp := padn_lt m.body.length
        simp only [Message.bytes, List.length_append, filled_len]
        omega
      go_wp2_with fail
      refine (laid9_any m _ HM.out (by omega)).mono ?_
      rintro e w2 ⟨rfl, hb2⟩
      have hB2 := below_then hB1 hb2
      clear hb2
      go_wp2
      all_goals
        go_ret
        refine ⟨ret_int ?_, hB2⟩
        rw [HS.out]
        go_light
        grind [bad14]

set_option maxHeartbeats 1600000 in
theorem put9_any (m : Message) (w : World) (hl : m.body.length ≤ maxLen) : Calls Tryd.prog 25 #[.agg m.vals.toArray] w fun e w' => e = .returned m.putV ∧ Below w.heap.size w w' := by
  have hB0 : Below w.heap.size w (w.alloc (.cells m.vals.toArray 42)) := (Below.refl _ _).alloc (Nat.le_refl _) _
  have hz : w.heap.size < (w.alloc (.cells m.vals.toArray 42)).heap.size := by simp
  go_enter Tryd.func25, Tryd.ntmps25
  go_wp2_with fail
  refine (check9_any m _ hl).mono ?_
  rintro e w1 ⟨rfl, hb1⟩
  have hs1 := Stb.of hb1
  have hB1 := below_then hB0 hb1
  clear hb1
  cases hm : m.bad
  · simp only [bad14, Bool.false_eq_true, if_false]
    have hm' := hm
    simp only [Message.bad, Bool.or_eq_false_iff, Bool.not_eq_false', decide_eq_false_iff_not] at hm'
    have HM := Lib.hid hm'
    have HH := Lib.hid hm
    clear hm hm'
    have hz1 : w.heap.size < w1.heap.size := Nat.lt_of_lt_of_le hz hs1.below.size
    go_wp2_with fail
    refine (laid9_any m _ HM.out.1 (by have := HM.out.2.1; omega)).mono ?_
    rintro e w2 ⟨rfl, hb2⟩
    have hB2 := below_then hB1 hb2
    go_wp2
    go_ret2
    exact ⟨by simp [Message.putV, HH.out], hB2⟩
  · simp only [bad14, if_true]
    have HH := Lib.hid hm
    clear hm
    go_wp2
    go_ret2
    exact ⟨by simp [Message.putV, HH.out], hB1⟩

theorem infoMessage : (Tryd.prog.info? 42).map (fun i => (i.zero, i.size)) = some (some (.agg #[.int .i64 0, .bool false, .bool false, .int .i64 0, .int .i64 0, .int .i64 0, .int .i64 0, .int .i64 0, .int .i64 0, .string ⟨#[]⟩]), 10) := by kernel_rfl
def Message.refuse (m : Message) (a : Int) : Message := ⟨m.xid, true, false, 0, cred0, a, []⟩
def Message.reply (m : Message) (b : List UInt8) : Message := ⟨m.xid, true, false, 0, cred0, 0, b⟩

theorem refuse9_any (m : Message) (a : Int) (w : World) : Calls Tryd.prog 44 #[.agg m.vals.toArray, .int .i64 a] w fun e w' => e = .returned (.agg (m.refuse a).vals.toArray) ∧ Below w.heap.size w w' := by
  go_enter Tryd.func44, Tryd.ntmps44
  go_wp2
  refine ret_cells (w.heap.size + 1) 0 (m.refuse a).vals Tryd.results44 Tryd.underlying42 rfl (by kernel_rfl) rfl (range_at _ _ _ _ (by simp)) rfl ⟨rfl, ((Below.refl _ _).alloc (Nat.le_refl _) _).alloc (by simp) _⟩
theorem known9_any (w : World) : Calls Tryd.prog 24 #[] w fun e w' => e = .returned (.bool true) ∧ Below w.heap.size w w' := by
  have h1 : Message.putV ⟨7, false, false, 0, ⟨1, 1, 0, 0⟩, 0, []⟩ = .tuple #[.string ⟨#[0, 0, 0, 7, 0, 0, 0, 0, 0, 0, 0, 2, 0, 1, 134, 163, 0, 0, 0, 3, 0, 0, 0, 0, 0, 0, 0, 1, 0, 0, 0, 16, 0, 0, 0, 1, 0, 0, 0, 1, 0, 0, 0, 0, 0, 0, 0, 0, 0, 0, 0, 0, 0, 0, 0, 0]⟩, .int .i64 0] := by kernel_rfl
  have h2 : Message.putV ((Message.mk 7 false false 0 cred0 0 []).refuse 4) = .tuple #[.string ⟨#[0, 0, 0, 7, 0, 0, 0, 1, 0, 0, 0, 0, 0, 0, 0, 0, 0, 0, 0, 0, 0, 0, 0, 4]⟩, .int .i64 0] := by kernel_rfl
  go_enter Tryd.func24, Tryd.ntmps24
  go_wp2_with fail
  refine (put9_any ⟨7, false, false, 0, ⟨1, 1, 0, 0⟩, 0, []⟩ _ (by decide)).mono ?_
  rintro e w1 ⟨he, hb1⟩
  rw [h1] at he
  subst he
  go_wp2_with fail
  refine (refuse9_any ⟨7, false, false, 0, cred0, 0, []⟩ 4 _).mono ?_
  rintro e w2 ⟨rfl, hb2⟩
  go_wp2_with fail
  refine (put9_any ((Message.mk 7 false false 0 cred0 0 []).refuse 4) _ (by decide)).mono ?_
  rintro e w3 ⟨he, hb3⟩
  rw [h2] at he
  subst he
  go_wp2
  go_ret
  exact ⟨rfl, below_then (below_then hb1 hb2) hb3⟩

theorem guardMessage : Tryd.prog.eqGuardType Tryd.prog.depth 42 = false := by kernel_rfl
def leafsMsg : List Leaf := [.i .i64, .b, .b, .i .i64, .i .i64, .i .i64, .i .i64, .i .i64, .i .i64, .s]
theorem leafsMessage : leafs Tryd.prog 8 42 = some leafsMsg := by kernel_rfl
theorem fitsMessage (a : Message) : fits leafsMsg a.vals = true := by rfl
theorem eqRefuse (m : Message) (a : Int) (w : World) : (binOp .eql 42 (.agg (m.refuse a).vals.toArray) (.agg #[.int .i64 m.xid, .bool true, .bool false, .int .i64 0, .int .i64 0, .int .i64 0, .int .i64 0, .int .i64 0, .int .i64 a, .string ⟨#[]⟩])).run Tryd.prog w = .ok (.bool true) w :=
  eql_same leafsMessage (by kernel_rfl) w _ (m.refuse a).vals (fitsMessage _) rfl
theorem eqReply (m : Message) (b : List UInt8) (w : World) : (binOp .eql 42 (.agg (m.reply b).vals.toArray) (.agg #[.int .i64 m.xid, .bool true, .bool false, .int .i64 0, .int .i64 0, .int .i64 0, .int .i64 0, .int .i64 0, .int .i64 0, .string (bs b)])).run Tryd.prog w = .ok (.bool true) w :=
  eql_same leafsMessage (by kernel_rfl) w _ (m.reply b).vals (fitsMessage _) rfl
attribute [local go_sem ↓] eqRefuse eqReply

attribute [local go_sem] guardMessage

end Go.Proofs.YtlblenojhfeboaaDoor

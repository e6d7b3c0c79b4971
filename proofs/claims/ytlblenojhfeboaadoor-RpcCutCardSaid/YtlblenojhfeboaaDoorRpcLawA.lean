/-
  Layer 9, walks: the laws RpcGets, RpcPuts, RpcCut. Conditions: machine texts.
-/
import Derived.Test.YtlblenojhfeboaaDoorRpcGetPureB
import Derived.Test.YtlblenojhfeboaaDoorRpcWalkL
namespace Go.Proofs.YtlblenojhfeboaaDoor
open Go.RowKit
attribute [local go_sem ↓] Go.wp_at_zero Go.wp_at_succ
attribute [local go_sem] rowAt_ptr rowOf_drew rowOf_drewN rowOf_alloc_past rowOf_new
attribute [local go_sem] Message.at0 Message.lat0 Message.at1 Message.lat1 Message.at2 Message.lat2 Message.at3 Message.lat3 Message.at4 Message.lat4 Message.at5 Message.lat5 Message.at6 Message.lat6 Message.at7 Message.lat7 Message.at8 Message.lat8 Message.at9 Message.lat9 Message.sub0_10 Message.lsub0_10 Message.sub4_4 Message.lsub4_4 Message.len Cred.at0 Cred.lat0 Cred.at1 Cred.lat1 Cred.at2 Cred.lat2 Cred.at3 Cred.lat3 Cred.sub0_4 Cred.lsub0_4 Cred.len guardMessage

attribute [local go_sem ↓] ldMessage ldCred

theorem valsMessage {a b : Message} (h : a.vals = b.vals) : a = b := by
  obtain ⟨x, an, ag, p, ⟨c1, c2, c3, c4⟩, ac, bo⟩ := a
  obtain ⟨x', an', ag', p', ⟨c1', c2', c3', c4'⟩, ac', bo'⟩ := b
  simp [Message.vals, Cred.vals] at h
  simp_all
theorem eqlMessage (x y : Message) (w : World) : (binOp .eql 42 (.agg x.vals.toArray) (.agg y.vals.toArray)).run Tryd.prog w = .ok (.bool (decide (x = y))) w := by
  by_cases h : x = y
  · rw [eql_same leafsMessage (by kernel_rfl) w _ _ (fitsMessage x) (by rw [h]), decide_eq_true h]
  · rw [eql_other leafsMessage (by kernel_rfl) w _ _ (fitsMessage x) (fitsMessage y) (fun e => h (valsMessage e)), decide_eq_false h]
theorem neqMessage (x y : Message) (w : World) : (binOp .neq 42 (.agg x.vals.toArray) (.agg y.vals.toArray)).run Tryd.prog w = .ok (.bool (decide (x ≠ y))) w := by
  by_cases h : x = y
  · rw [neq_same leafsMessage (by kernel_rfl) w _ _ (fitsMessage x) (by rw [h]), decide_eq_false (by simpa using h)]
  · rw [neq_other leafsMessage (by kernel_rfl) w _ _ (fitsMessage x) (fitsMessage y) (fun e => h (valsMessage e)), decide_eq_true h]
attribute [local go_sem ↓] eqlMessage neqMessage

set_option maxRecDepth 20000 in
set_option maxHeartbeats 1600000 in
theorem rpcGets_any (s : List UInt8) (w : World) (hl : s.length ≤ maxLen) : Calls Tryd.prog 9 #[.string (bs s)] w fun e w' => e = .returned (.bool true) ∧ Below w.heap.size w w' := by
  unfold maxLen at hl
  have hz := bs_size s
  by_cases hlong : 3000 < s.length
  · go_enter Tryd.func9, Tryd.ntmps9
    go_wp2_with fail
    refine (known9_any _).mono ?_
    rintro e w2 ⟨rfl, hb2⟩
    go_wp2
    go_ret
    exact ⟨rfl, hb2⟩
  have K := fun W => get9_any s W
  have KF := fun W => refGet9_any s W
  rw [refG_get] at KF
  obtain ⟨⟨m, n⟩, hg⟩ : ∃ r, getM s = r := ⟨_, rfl⟩
  rw [hg] at K KF
  simp only [gotV] at K KF
  have K := Lib.hid K
  have KF := Lib.hid KF
  have HG := Lib.hid hg
  clear hg
  go_enter Tryd.func9, Tryd.ntmps9
  go_wp2_with fail
  refine (K.out _).mono ?_
  rintro e w1 ⟨rfl, hb1⟩
  obtain ⟨w2, hw2⟩ : ∃ V, V = w1.alloc (.cells m.vals.toArray 42) := ⟨_, rfl⟩
  have hb2 : Below w1.heap.size w1 w2 := by rw [hw2]; exact (Below.refl _ _).alloc (Nat.le_refl _) _
  have x2 : Blk w2 w1.heap.size 42 m.vals := by rw [hw2]; exact Blk.new _ _ _
  have hB2 := below_then hb1 hb2
  have HW2 := Lib.hid hw2
  clear hw2 hb2
  go_wp2_with (first | (refine wpList_store_new (by rfl) 42 _ _ (by rfl) m.vals msg0.vals w1 42 rfl (by rfl) (by rfl) (by rfl) (by kernel_rfl) (Message.one _) ?_; rw [← HW2.out]) | fail)
  refine (KF.out _).mono ?_
  rintro e w3 ⟨rfl, hb3⟩
  obtain ⟨w4, hw4⟩ : ∃ V, V = w3.alloc (.cells m.vals.toArray 42) := ⟨_, rfl⟩
  have hb4 : Below w3.heap.size w3 w4 := by rw [hw4]; exact (Below.refl _ _).alloc (Nat.le_refl _) _
  have x4 : Blk w4 w3.heap.size 42 m.vals := by rw [hw4]; exact Blk.new _ _ _
  have x2 := (x2.stays hb3).stays hb4
  have hB4 := below_then (below_then hB2 hb3) hb4
  have HW4 := Lib.hid hw4
  have r2 := x2.row 0 10 (by simp [Message.len])
  rw [show ((Message.vals m).drop 0).take 10 = Message.vals m from rfl] at r2
  have r4 := x4.row 0 10 (by simp [Message.len])
  rw [show ((Message.vals m).drop 0).take 10 = Message.vals m from rfl] at r4
  have c1 : w4.cell? ⟨w1.heap.size, 1, none⟩ = some (.bool m.answer) := x2.cell 1
  have c8 : w4.cell? ⟨w1.heap.size, 8, none⟩ = some (.int .i64 m.accept) := x2.cell 8
  clear hw4 hb4 hb3 hB2 x2 x4
  by_cases h0 : n = 0
  case neg =>
    go_wp2_with (first | (refine wpList_store_new (by rfl) 42 _ _ (by rfl) m.vals msg0.vals w3 42 rfl (by rfl) (by rfl) (by rfl) (by kernel_rfl) (Message.one _) ?_; rw [← HW4.out]) | fail)
    refine (known9_any _).mono ?_
    rintro e w7 ⟨rfl, hb7⟩
    go_wp2
    go_ret
    exact ⟨rfl, below_then hB4 hb7⟩
  subst h0
  cases ha : m.answer
  case true =>
    rw [ha] at c1
    obtain ⟨hraw, hmay, hs⟩ := get_raw (s := s) (m := m) HG.out (.inl ha)
    have hbl : m.body.length ≤ 9000 := by
      have := raw_len m
      rw [hraw] at this
      omega
    have KB := Lib.hid (fun W => refBytes9_any m W (may_in32 hmay) hbl)
    rw [hraw] at KB
    clear hraw hmay hbl
    go_wp2_with (first | (refine wpList_store_new (by rfl) 42 _ _ (by rfl) m.vals msg0.vals w3 42 rfl (by rfl) (by rfl) (by rfl) (by kernel_rfl) (Message.one _) ?_; rw [← HW4.out]) | fail)
    refine (KB.out _).mono ?_
    rintro e w5 ⟨rfl, hb5⟩
    have hB5 := below_then hB4 hb5
    clear hb5
    go_wp2_with fail
    refine (known9_any _).mono ?_
    rintro e w7 ⟨rfl, hb7⟩
    go_wp2
    go_ret
    exact ⟨rfl, below_then hB5 hb7⟩
  rw [ha] at c1
  by_cases hc : m.accept = 0
  case neg =>
    go_wp2_with (first | (refine wpList_store_new (by rfl) 42 _ _ (by rfl) m.vals msg0.vals w3 42 rfl (by rfl) (by rfl) (by rfl) (by kernel_rfl) (Message.one _) ?_; rw [← HW4.out]) | fail)
    refine (known9_any _).mono ?_
    rintro e w7 ⟨rfl, hb7⟩
    go_wp2
    go_ret
    exact ⟨rfl, below_then hB4 hb7⟩
  rw [hc] at c8
  obtain ⟨hraw, hmay, hs⟩ := get_raw (s := s) (m := m) HG.out (.inr hc)
  have hbl : m.body.length ≤ 9000 := by
    have := raw_len m
    rw [hraw] at this
    omega
  have KB := Lib.hid (fun W => refBytes9_any m W (may_in32 hmay) hbl)
  rw [hraw] at KB
  clear hraw hmay hbl
  go_wp2_with (first | (refine wpList_store_new (by rfl) 42 _ _ (by rfl) m.vals msg0.vals w3 42 rfl (by rfl) (by rfl) (by rfl) (by kernel_rfl) (Message.one _) ?_; rw [← HW4.out]) | fail)
  refine (KB.out _).mono ?_
  rintro e w5 ⟨rfl, hb5⟩
  have hB5 := below_then hB4 hb5
  clear hb5
  go_wp2_with fail
  refine (known9_any _).mono ?_
  rintro e w7 ⟨rfl, hb7⟩
  go_wp2
  go_ret
  exact ⟨rfl, below_then hB5 hb7⟩
theorem putV_bad {m : Message} (h : m.bad = true) : m.putV = .tuple #[.string (bs []), .int .i64 14] := by simp [Message.putV, h]
theorem putV_ok {m : Message} (h : m.bad = false) : m.putV = .tuple #[.string (bs m.raw), .int .i64 0] := by
  have hm : m.may = true := fit_may (by rw [fit_bad, h]; rfl)
  simp [Message.putV, h, raw_bytes (may_body hm)]
set_option maxRecDepth 20000 in
set_option maxHeartbeats 1600000 in
theorem rpcPuts_any (m : Message) (w : World) (hl : m.body.length ≤ maxLen) : Calls Tryd.prog 8 #[.agg m.vals.toArray] w fun e w' => e = .returned (.bool true) ∧ Below w.heap.size w w' := by
  have KP := Lib.hid (fun W => put9_any m W hl)
  have KC := Lib.hid (fun W => check9_any m W hl)
  unfold maxLen at hl
  have hz := bs_size m.body
  have hb0 := Blk.new w 42 m.vals
  have hB0 : Below w.heap.size w (w.alloc (.cells m.vals.toArray 42)) := (Below.refl _ _).alloc (Nat.le_refl _) _
  obtain ⟨b, hb⟩ : ∃ b, b = w.heap.size := ⟨_, rfl⟩
  obtain ⟨w0, hw0⟩ : ∃ V, V = w.alloc (.cells m.vals.toArray 42) := ⟨_, rfl⟩
  rw [← hw0, ← hb] at hb0
  rw [← hw0] at hB0
  have HW0 := Lib.hid hw0
  have HBB := Lib.hid hb
  have r0 := hb0.row 0 10 (by simp [Message.len])
  rw [show ((Message.vals m).drop 0).take 10 = Message.vals m from rfl] at r0
  have c9 : w0.cell? ⟨b, 9, none⟩ = some (.string (bs m.body)) := hb0.cell 9
  clear hw0 hb
  by_cases hlong : 3000 < m.body.length
  · go_enter Tryd.func8, Tryd.ntmps8
    go_upto_region 1 with fail
    rw [← HW0.out, ← HBB.out]
    go_wp2_with fail
    refine (known9_any _).mono ?_
    rintro e w7 ⟨rfl, hb7⟩
    go_wp2
    go_ret
    exact ⟨rfl, below_then hB0 hb7⟩
  have KF := Lib.hid (fun W => refCheck9_any m W (by omega))
  go_enter Tryd.func8, Tryd.ntmps8
  go_upto_region 1 with fail
  rw [← HW0.out, ← HBB.out]
  go_wp2_with fail
  cases hbad : m.bad
  case true =>
    rw [putV_bad hbad] at KP
    rw [hbad] at KC
    rw [show m.fit = false by rw [fit_bad, hbad]; rfl] at KF
    simp only [bad14, if_true] at KC
    refine (KP.out _).mono ?_
    rintro e w1 ⟨rfl, hbx⟩
    have hb0 := hb0.stays hbx
    have hB1 := below_then hB0 hbx
    have r0 := hb0.row 0 10 (by simp [Message.len])
    rw [show ((Message.vals m).drop 0).take 10 = Message.vals m from rfl] at r0
    clear hbx
    go_wp2_with fail
    refine (KF.out _).mono ?_
    rintro e w2 ⟨rfl, hbx⟩
    have hb0 := hb0.stays hbx
    have hB2 := below_then hB1 hbx
    have r0 := hb0.row 0 10 (by simp [Message.len])
    rw [show ((Message.vals m).drop 0).take 10 = Message.vals m from rfl] at r0
    clear hbx
    go_wp2_with fail
    refine (KC.out _).mono ?_
    rintro e w3 ⟨rfl, hbx⟩
    have hb0 := hb0.stays hbx
    have hB3 := below_then hB2 hbx
    have r0 := hb0.row 0 10 (by simp [Message.len])
    rw [show ((Message.vals m).drop 0).take 10 = Message.vals m from rfl] at r0
    clear hbx
    go_wp2_with fail
    refine (known9_any _).mono ?_
    rintro e w7 ⟨rfl, hb7⟩
    go_wp2
    go_ret
    exact ⟨rfl, below_then hB3 hb7⟩
  have hfit : m.fit = true := by rw [fit_bad, hbad]; rfl
  have hmay := fit_may hfit
  have KG := Lib.hid (fun W => get9_any m.raw W)
  rw [get_back hfit] at KG
  simp only [gotV] at KG
  have KB := Lib.hid (fun W => refBytes9_any m W (may_in32 hmay) (by omega))
  rw [putV_ok hbad] at KP
  rw [hbad] at KC
  rw [hfit] at KF
  simp only [bad14, Bool.false_eq_true, if_false] at KC
  clear hbad hfit hmay
  generalize m.raw = S at *
  refine (KP.out _).mono ?_
  rintro e w1 ⟨rfl, hbx⟩
  have hb0 := hb0.stays hbx
  have hB1 := below_then hB0 hbx
  have r0 := hb0.row 0 10 (by simp [Message.len])
  rw [show ((Message.vals m).drop 0).take 10 = Message.vals m from rfl] at r0
  clear hbx
  go_wp2_with fail
  refine (KF.out _).mono ?_
  rintro e w2 ⟨rfl, hbx⟩
  have hb0 := hb0.stays hbx
  have hB2 := below_then hB1 hbx
  have r0 := hb0.row 0 10 (by simp [Message.len])
  rw [show ((Message.vals m).drop 0).take 10 = Message.vals m from rfl] at r0
  clear hbx
  go_wp2_with fail
  refine (KG.out _).mono ?_
  rintro e w3 ⟨rfl, hbx⟩
  have hb0 := hb0.stays hbx
  have hB3 := below_then hB2 hbx
  have r0 := hb0.row 0 10 (by simp [Message.len])
  rw [show ((Message.vals m).drop 0).take 10 = Message.vals m from rfl] at r0
  clear hbx
  obtain ⟨w4, hw4⟩ : ∃ V, V = w3.alloc (.cells m.vals.toArray 42) := ⟨_, rfl⟩
  have hb4 : Below w3.heap.size w3 w4 := by rw [hw4]; exact (Below.refl _ _).alloc (Nat.le_refl _) _
  have x4 : Blk w4 w3.heap.size 42 m.vals := by rw [hw4]; exact Blk.new _ _ _
  have hb0 := hb0.stays hb4
  have hB4 := below_then hB3 hb4
  have r0 := hb0.row 0 10 (by simp [Message.len])
  rw [show ((Message.vals m).drop 0).take 10 = Message.vals m from rfl] at r0
  have HW4 := Lib.hid hw4
  clear hw4 hb4
  go_wp2_with (first | (refine wpList_store_new (by rfl) 42 _ _ (by rfl) m.vals msg0.vals w3 42 rfl (by rfl) (by rfl) (by rfl) (by kernel_rfl) (Message.one _) ?_; rw [← HW4.out]) | fail)
  refine (KB.out _).mono ?_
  rintro e w5 ⟨rfl, hbx⟩
  have hb0 := hb0.stays hbx
  have hB5 := below_then hB4 hbx
  have r0 := hb0.row 0 10 (by simp [Message.len])
  rw [show ((Message.vals m).drop 0).take 10 = Message.vals m from rfl] at r0
  have x4 := x4.stays hbx
  clear hbx
  go_wp2_with fail
  refine (KC.out _).mono ?_
  rintro e w6 ⟨rfl, hbx⟩
  have hb0 := hb0.stays hbx
  have hB6 := below_then hB5 hbx
  have r0 := hb0.row 0 10 (by simp [Message.len])
  rw [show ((Message.vals m).drop 0).take 10 = Message.vals m from rfl] at r0
  have x4 := x4.stays hbx
  clear hbx
  have r4 := x4.row 0 10 (by simp [Message.len])
  rw [show ((Message.vals m).drop 0).take 10 = Message.vals m from rfl] at r4
  go_wp2_with fail
  refine (known9_any _).mono ?_
  rintro e w7 ⟨rfl, hb7⟩
  go_wp2
  go_ret
  exact ⟨rfl, below_then hB6 hb7⟩
set_option maxRecDepth 20000 in
set_option maxHeartbeats 1600000 in
theorem rpcCut_any (m : Message) (n : Int) (w : World) (hl : m.body.length ≤ maxLen) : Calls Tryd.prog 10 #[.agg m.vals.toArray, .int .i64 n] w fun e w' => e = .returned (.bool true) ∧ Below w.heap.size w w' := by
  unfold maxLen at hl
  have hz := bs_size m.body
  have hb0 := Blk.new w 42 m.vals
  have hB0 : Below w.heap.size w (w.alloc (.cells m.vals.toArray 42)) := (Below.refl _ _).alloc (Nat.le_refl _) _
  obtain ⟨b, hb⟩ : ∃ b, b = w.heap.size := ⟨_, rfl⟩
  obtain ⟨w0, hw0⟩ : ∃ V, V = w.alloc (.cells m.vals.toArray 42) := ⟨_, rfl⟩
  rw [← hw0, ← hb] at hb0
  rw [← hw0] at hB0
  have HW0 := Lib.hid hw0
  have HBB := Lib.hid hb
  have r0 := hb0.row 0 10 (by simp [Message.len])
  rw [show ((Message.vals m).drop 0).take 10 = Message.vals m from rfl] at r0
  have c9 : w0.cell? ⟨b, 9, none⟩ = some (.string (bs m.body)) := hb0.cell 9
  clear hw0 hb
  by_cases hlong : 3000 < m.body.length
  · go_enter Tryd.func10, Tryd.ntmps10
    go_upto_region 1 with fail
    rw [← HW0.out, ← HBB.out]
    go_wp2_with fail
    refine (known9_any _).mono ?_
    rintro e w7 ⟨rfl, hb7⟩
    go_wp2
    go_ret
    exact ⟨rfl, below_then hB0 hb7⟩
  have KF := Lib.hid (fun W => refCheck9_any m W (by omega))
  go_enter Tryd.func10, Tryd.ntmps10
  go_upto_region 1 with fail
  rw [← HW0.out, ← HBB.out]
  go_wp2_with fail
  cases hfit : m.fit
  case false =>
    rw [hfit] at KF
    refine (KF.out _).mono ?_
    rintro e w1 ⟨rfl, hbx⟩
    have hb0 := hb0.stays hbx
    have hB1 := below_then hB0 hbx
    have r0 := hb0.row 0 10 (by simp [Message.len])
    rw [show ((Message.vals m).drop 0).take 10 = Message.vals m from rfl] at r0
    clear hbx
    go_wp2_with fail
    refine (known9_any _).mono ?_
    rintro e w7 ⟨rfl, hb7⟩
    go_wp2
    go_ret
    exact ⟨rfl, below_then hB1 hb7⟩
  have hmay := fit_may hfit
  have KB := Lib.hid (fun W => refBytes9_any m W (may_in32 hmay) (by omega))
  have HK := Lib.hid (show ∀ k, k < m.raw.length → getM (m.raw.take k) ≠ (m, 0) from fun k hk e => by
    have ha : m.answer = true ∨ m.accept = 0 := by
      unfold Message.may at hmay
      cases h : m.answer <;> simp [h] at hmay ⊢
      exact hmay.2.2.2.2.1
    have := (get_raw e ha).1
    have h2 := congrArg List.length this
    rw [List.length_take] at h2
    omega)
  have hrl : m.raw.length ≤ 9000 := by
    have := raw_len m
    rw [nums_len] at this
    split at this <;> omega
  rw [hfit] at KF
  clear hfit hmay
  generalize m.raw = S at *
  refine (KF.out _).mono ?_
  rintro e w1 ⟨rfl, hbx⟩
  have hb0 := hb0.stays hbx
  have hB1 := below_then hB0 hbx
  have r0 := hb0.row 0 10 (by simp [Message.len])
  rw [show ((Message.vals m).drop 0).take 10 = Message.vals m from rfl] at r0
  clear hbx
  go_wp2_with fail
  refine (KB.out _).mono ?_
  rintro e w2 ⟨rfl, hbx⟩
  have hb0 := hb0.stays hbx
  have hB2 := below_then hB1 hbx
  have r0 := hb0.row 0 10 (by simp [Message.len])
  rw [show ((Message.vals m).drop 0).take 10 = Message.vals m from rfl] at r0
  clear hbx
  have hzS := bs_size S
  by_cases hn0 : n < 0
  · go_wp2_with fail
    refine (known9_any _).mono ?_
    rintro e w7 ⟨rfl, hb7⟩
    go_wp2
    go_ret
    exact ⟨rfl, below_then hB2 hb7⟩
  by_cases hn1 : (S.length : Int) ≤ n
  · go_wp2_with fail
    refine (known9_any _).mono ?_
    rintro e w7 ⟨rfl, hb7⟩
    go_wp2
    go_ret
    exact ⟨rfl, below_then hB2 hb7⟩
  obtain ⟨k, rfl⟩ := Int.eq_ofNat_of_zero_le (show 0 ≤ n by omega)
  have hk : k < S.length := by omega
  have hks : ¬ (S.length : Int) < k := by omega
  have hcd : (bs S).extract 0 k = bs (S.take k) := bs_take _ _
  obtain ⟨⟨x, q⟩, hx⟩ : ∃ r, getM (S.take k) = r := ⟨_, rfl⟩
  have hne := HK.out k hk
  rw [hx] at hne
  have KG := Lib.hid (fun W => get9_any (S.take k) W)
  rw [hx] at KG
  simp only [gotV] at KG
  clear hx HK
  go_wp2_with fail
  refine (KG.out _).mono ?_
  rintro e w3 ⟨rfl, hbx⟩
  have hb0 := hb0.stays hbx
  have hB3 := below_then hB2 hbx
  have r0 := hb0.row 0 10 (by simp [Message.len])
  rw [show ((Message.vals m).drop 0).take 10 = Message.vals m from rfl] at r0
  clear hbx
  obtain ⟨w4, hw4⟩ : ∃ V, V = w3.alloc (.cells x.vals.toArray 42) := ⟨_, rfl⟩
  have hb4 : Below w3.heap.size w3 w4 := by rw [hw4]; exact (Below.refl _ _).alloc (Nat.le_refl _) _
  have x4 : Blk w4 w3.heap.size 42 x.vals := by rw [hw4]; exact Blk.new _ _ _
  have hb0 := hb0.stays hb4
  have hB4 := below_then hB3 hb4
  have r0 := hb0.row 0 10 (by simp [Message.len])
  rw [show ((Message.vals m).drop 0).take 10 = Message.vals m from rfl] at r0
  have r4 := x4.row 0 10 (by simp [Message.len])
  rw [show ((Message.vals x).drop 0).take 10 = Message.vals x from rfl] at r4
  have HW4 := Lib.hid hw4
  clear hw4 hb4
  have hq : ¬ q = 0 ∨ (q = 0 ∧ x ≠ m) := by
    by_cases h : q = 0
    · exact .inr ⟨h, fun e => hne (by rw [e, h])⟩
    · exact .inl h
  clear hne
  rcases hq with hq | ⟨rfl, hq⟩
  all_goals
    go_wp2_with (first | (refine wpList_store_new (by rfl) 42 _ _ (by rfl) x.vals msg0.vals w3 42 rfl (by rfl) (by rfl) (by rfl) (by kernel_rfl) (Message.one _) ?_; rw [← HW4.out]) | fail)
    refine (known9_any _).mono ?_
    rintro e w7 ⟨rfl, hb7⟩
    go_wp2
    go_ret
    exact ⟨rfl, below_then hB4 hb7⟩
end Go.Proofs.YtlblenojhfeboaaDoor

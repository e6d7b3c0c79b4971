/-
  Layer 9, walks: the document's Get (written by wip/tools/genrefget9.py). No condition.
-/
import Derived.Test.YtlblenojhfeboaaDoorRpcGetPureC
namespace Go.Proofs.YtlblenojhfeboaaDoor
open Go.RowKit
attribute [local go_sem ↓] Go.wp_at_zero Go.wp_at_succ
attribute [local go_sem] rowAt_ptr rowOf_drew rowOf_drewN rowOf_alloc_past rowOf_new
attribute [local go_sem] Message.at0 Message.lat0 Message.at1 Message.lat1 Message.at2 Message.lat2 Message.at3 Message.lat3 Message.at4 Message.lat4 Message.at5 Message.lat5 Message.at6 Message.lat6 Message.at7 Message.lat7 Message.at8 Message.lat8 Message.at9 Message.lat9 Message.sub0_10 Message.lsub0_10 Message.sub4_4 Message.lsub4_4 Message.len Cred.at0 Cred.lat0 Cred.at1 Cred.lat1 Cred.at2 Cred.lat2 Cred.at3 Cred.lat3 Cred.sub0_4 Cred.lsub0_4 Cred.len

attribute [local go_sem ↓] ldMessage ldCred

set_option maxRecDepth 20000 in
set_option maxHeartbeats 4000000 in
theorem refGet9_ans (s : List UInt8) (w : World) (hlen : ¬ 2048 < s.length) (hk : atV s 1 = 1) : Calls Tryd.prog 30 #[.string (bs s)] w fun e w' => e = .returned (gotV (refG s.length (atV s) (s.drop 24) (s.drop 56))) ∧ Below w.heap.size w w' := by
  have hz := bs_size s
  obtain ⟨f, hf⟩ : ∃ f, f = atV s := ⟨_, rfl⟩
  rw [← hf]
  have K : s.length ≤ 2048 → ∀ (i : Nat) (W : World), i ≤ 100 → Calls Tryd.prog 54 #[.string (bs s), .int .i64 i] W fun e w' => e = .returned (.int .i64 (f i)) ∧ Below W.heap.size W w' := fun hl i W hi => by rw [hf]; exact at9_any s i W hl hi
  have h24 : 0 ≤ f 5 → 24 ≤ s.length := fun h => by rw [hf] at h; unfold atV at h; split at h <;> omega
  have h56 : 0 ≤ f 13 → 56 ≤ s.length := fun h => by rw [hf] at h; unfold atV at h; split at h <;> omega
  have g1 : f 1 = 1 := by rw [hf]; exact hk
  clear hf hk
  obtain ⟨b1, b2, hB0, _⟩ := chain2_blks w msg0.vals msg0.vals 42 42
  obtain ⟨w0, hw0⟩ : ∃ V, V = (w.alloc (.cells #[.int .i64 0, .bool false, .bool false, .int .i64 0, .int .i64 0, .int .i64 0, .int .i64 0, .int .i64 0, .int .i64 0, .string ⟨#[]⟩] 42)).alloc (.cells #[.int .i64 0, .bool false, .bool false, .int .i64 0, .int .i64 0, .int .i64 0, .int .i64 0, .int .i64 0, .int .i64 0, .string ⟨#[]⟩] 42) := ⟨_, rfl⟩
  replace b1 : Blk w0 w.heap.size 42 msg0.vals := by rw [hw0]; exact b1
  replace b2 : Blk w0 (w.heap.size + 1) 42 msg0.vals := by rw [hw0]; exact b2
  replace hB0 : Below w.heap.size w w0 := by rw [hw0]; exact hB0
  have HB := Lib.hid hB0
  have HW := Lib.hid hw0
  clear hB0 hw0
  go_enter Tryd.func30, Tryd.ntmps30
  go_upto_region 2 with fail
  rw [← HW.out]
  have hlen' : ¬ (2048 : Int) < s.length := by omega
  have K := Lib.hid (K (by omega))
  go_wp2_with fail
  refine (K.out 1 _ (by omega)).mono ?_
  rintro e wn ⟨rfl, hb⟩
  replace b1 := b1.stays hb
  replace b2 := b2.stays hb
  skip
  skip
  replace HB := Lib.hid (below_then HB.out hb)
  clear hb
  go_wp2_with fail
  refine (K.out 0 _ (by omega)).mono ?_
  rintro e wn ⟨rfl, hb⟩
  replace b1 := b1.stays hb
  replace b2 := b2.stays hb
  skip
  skip
  replace HB := Lib.hid (below_then HB.out hb)
  clear hb
  go_wp2_with fail
  obtain ⟨mb, hmbd⟩ : ∃ b, b = wn.heap.size := ⟨_, rfl⟩
  obtain ⟨wm, hwm⟩ : ∃ V, V = wn.alloc (.cells #[.int .i64 (f 0), .bool true, .bool false, .int .i64 0, .int .i64 0, .int .i64 0, .int .i64 0, .int .i64 0, .int .i64 0, .string ⟨#[]⟩] 42) := ⟨_, rfl⟩
  rw [← hwm, ← hmbd]
  have b3 : Blk wm mb 42 (Message.vals ⟨f 0, true, false, 0, cred0, 0, []⟩) := by rw [hwm, hmbd]; exact Blk.new _ _ _
  have hbm : Below wn.heap.size wn wm := by rw [hwm]; exact (Below.refl _ _).alloc (Nat.le_refl _) _
  have hmb : w.heap.size ≤ mb := by rw [hmbd]; exact HB.out.size
  have l1 := b1.lt
  have l2 := b2.lt
  have n1 : w.heap.size ≠ mb := by omega
  have n2 : w.heap.size + 1 ≠ mb := by omega
  have b1 := b1.stays hbm
  have b2 := b2.stays hbm
  have HB := Lib.hid (below_then HB.out hbm)
  clear hwm hbm hmbd l1 l2
  refine (K.out 2 _ (by omega)).mono ?_
  rintro e wn ⟨rfl, hb⟩
  replace b1 := b1.stays hb
  replace b2 := b2.stays hb
  replace b3 := b3.stays hb
  skip
  replace HB := Lib.hid (below_then HB.out hb)
  clear hb
  by_cases e2 : f 2 = 0
  case neg =>
    have r4 := b2.row 0 10 (by simp [Message.len])
    rw [show ((Message.vals msg0).drop 0).take 10 = Message.vals msg0 from rfl] at r4
    go_wp2_with (first | (refine wpList_store_whole (by rfl) 42 _ _ (by rfl) w.heap.size msg0.vals _ b1 (by rfl) (by rfl) (by rfl) (by kernel_rfl) (Message.one _) ?_) | fail)
    refine ret_cells2 w.heap.size 0 msg0.vals (.int .i64 14) Tryd.results30 Tryd.underlying42 rfl (by kernel_rfl) rfl rfl (b1.whole (by rfl)).range rfl ?_
    exact ⟨by rw [show refG s.length f (s.drop 24) (s.drop 56) = (msg0, 14) by grind [refG]]; rfl, Below.setWhole HB.out (Nat.le_refl _) _⟩
  go_wp2_with fail
  refine (K.out 3 _ (by omega)).mono ?_
  rintro e wn ⟨rfl, hb⟩
  replace b1 := b1.stays hb
  replace b2 := b2.stays hb
  replace b3 := b3.stays hb
  skip
  replace HB := Lib.hid (below_then HB.out hb)
  clear hb
  by_cases e3 : f 3 < 0
  case pos =>
    have r4 := b2.row 0 10 (by simp [Message.len])
    rw [show ((Message.vals msg0).drop 0).take 10 = Message.vals msg0 from rfl] at r4
    go_wp2_with (first | (refine wpList_store_whole (by rfl) 42 _ _ (by rfl) w.heap.size msg0.vals _ b1 (by rfl) (by rfl) (by rfl) (by kernel_rfl) (Message.one _) ?_) | fail)
    refine ret_cells2 w.heap.size 0 msg0.vals (.int .i64 14) Tryd.results30 Tryd.underlying42 rfl (by kernel_rfl) rfl rfl (b1.whole (by rfl)).range rfl ?_
    exact ⟨by rw [show refG s.length f (s.drop 24) (s.drop 56) = (msg0, 14) by grind [refG]]; rfl, Below.setWhole HB.out (Nat.le_refl _) _⟩
  go_wp2_with fail
  refine (K.out 3 _ (by omega)).mono ?_
  rintro e wn ⟨rfl, hb⟩
  replace b1 := b1.stays hb
  replace b2 := b2.stays hb
  replace b3 := b3.stays hb
  skip
  replace HB := Lib.hid (below_then HB.out hb)
  clear hb
  by_cases e31 : 1 < f 3
  case pos =>
    have r4 := b2.row 0 10 (by simp [Message.len])
    rw [show ((Message.vals msg0).drop 0).take 10 = Message.vals msg0 from rfl] at r4
    go_wp2_with (first | (refine wpList_store_whole (by rfl) 42 _ _ (by rfl) w.heap.size msg0.vals _ b1 (by rfl) (by rfl) (by rfl) (by kernel_rfl) (Message.one _) ?_) | fail)
    refine ret_cells2 w.heap.size 0 msg0.vals (.int .i64 14) Tryd.results30 Tryd.underlying42 rfl (by kernel_rfl) rfl rfl (b1.whole (by rfl)).range rfl ?_
    exact ⟨by rw [show refG s.length f (s.drop 24) (s.drop 56) = (msg0, 14) by grind [refG]]; rfl, Below.setWhole HB.out (Nat.le_refl _) _⟩
  go_wp2_with fail
  refine (K.out 4 _ (by omega)).mono ?_
  rintro e wn ⟨rfl, hb⟩
  replace b1 := b1.stays hb
  replace b2 := b2.stays hb
  replace b3 := b3.stays hb
  skip
  replace HB := Lib.hid (below_then HB.out hb)
  clear hb
  by_cases e4 : f 4 = 0
  case neg =>
    have r4 := b2.row 0 10 (by simp [Message.len])
    rw [show ((Message.vals msg0).drop 0).take 10 = Message.vals msg0 from rfl] at r4
    go_wp2_with (first | (refine wpList_store_whole (by rfl) 42 _ _ (by rfl) w.heap.size msg0.vals _ b1 (by rfl) (by rfl) (by rfl) (by kernel_rfl) (Message.one _) ?_) | fail)
    refine ret_cells2 w.heap.size 0 msg0.vals (.int .i64 14) Tryd.results30 Tryd.underlying42 rfl (by kernel_rfl) rfl rfl (b1.whole (by rfl)).range rfl ?_
    exact ⟨by rw [show refG s.length f (s.drop 24) (s.drop 56) = (msg0, 14) by grind [refG]]; rfl, Below.setWhole HB.out (Nat.le_refl _) _⟩
  go_wp2_with fail
  refine (K.out 5 _ (by omega)).mono ?_
  rintro e wn ⟨rfl, hb⟩
  replace b1 := b1.stays hb
  replace b2 := b2.stays hb
  replace b3 := b3.stays hb
  skip
  replace HB := Lib.hid (below_then HB.out hb)
  clear hb
  by_cases e5 : f 5 < 0
  case pos =>
    have r4 := b2.row 0 10 (by simp [Message.len])
    rw [show ((Message.vals msg0).drop 0).take 10 = Message.vals msg0 from rfl] at r4
    go_wp2_with (first | (refine wpList_store_whole (by rfl) 42 _ _ (by rfl) w.heap.size msg0.vals _ b1 (by rfl) (by rfl) (by rfl) (by kernel_rfl) (Message.one _) ?_) | fail)
    refine ret_cells2 w.heap.size 0 msg0.vals (.int .i64 14) Tryd.results30 Tryd.underlying42 rfl (by kernel_rfl) rfl rfl (b1.whole (by rfl)).range rfl ?_
    exact ⟨by rw [show refG s.length f (s.drop 24) (s.drop 56) = (msg0, 14) by grind [refG]]; rfl, Below.setWhole HB.out (Nat.le_refl _) _⟩
  go_wp2_with fail
  refine (K.out 3 _ (by omega)).mono ?_
  rintro e wn ⟨rfl, hb⟩
  replace b1 := b1.stays hb
  replace b2 := b2.stays hb
  replace b3 := b3.stays hb
  skip
  replace HB := Lib.hid (below_then HB.out hb)
  clear hb
  have l24 := h24 (by omega)
  have l24' : ¬ (s.length : Int) < 24 := by omega
  have hcd : (bs s).extract 24 s.length = bs (s.drop 24) := bs_drop _ _
  have c3 : wn.cell? ⟨mb, 2, none⟩ = some (.bool false) := b3.cell 2
  have z3 := b3.frozen 2
  obtain ⟨wy, hwy⟩ : ∃ V, V = wn.setCell ⟨mb, 2, none⟩ (.bool (f 3 == 1)) := ⟨_, rfl⟩
  have b1y := b1.far (p := ⟨mb, 2, none⟩) n1 (.bool (f 3 == 1))
  have b2y := b2.far (p := ⟨mb, 2, none⟩) n2 (.bool (f 3 == 1))
  have b3y : Blk (wn.setCell ⟨mb, 2, none⟩ (.bool (f 3 == 1))) mb 42 (Message.vals ⟨f 0, true, f 3 == 1, 0, cred0, 0, []⟩) := b3.set_ 2 (.bool (f 3 == 1))
  have hBy := HB.out.setCell (p := ⟨mb, 2, none⟩) hmb (.bool (f 3 == 1))
  have HWY := Lib.hid hwy
  clear hwy b1 b2 b3
  go_wp2_with fail
  rw [← HWY.out] at b1y b2y b3y hBy ⊢
  have b1 := b1y
  have b2 := b2y
  have b3 := b3y
  have HB := Lib.hid hBy
  clear b1y b2y b3y hBy c3 z3
  refine (K.out 5 _ (by omega)).mono ?_
  rintro e wn ⟨rfl, hb⟩
  replace b1 := b1.stays hb
  replace b2 := b2.stays hb
  replace b3 := b3.stays hb
  skip
  replace HB := Lib.hid (below_then HB.out hb)
  clear hb
  obtain ⟨m, hm⟩ : ∃ m : Message, m = ⟨f 0, true, f 3 == 1, 0, cred0, f 5, s.drop 24⟩ := ⟨_, rfl⟩
  have c8 : wn.cell? ⟨mb, 8, none⟩ = some (.int .i64 0) := b3.cell 8
  have z8 := b3.frozen 8
  have c9 : wn.cell? ⟨mb, 9, none⟩ = some (.string (bs [])) := b3.cell 9
  have z9 := b3.frozen 9
  have b4 : Blk ((wn.setCell ⟨mb, 8, none⟩ (.int .i64 (f 5))).setCell ⟨mb, 9, none⟩ (.string (bs (s.drop 24)))) mb 42 m.vals := by rw [hm]; exact (b3.set_ 8 (.int .i64 (f 5))).set_ 9 (.string (bs (s.drop 24)))
  have b1 := (b1.far (p := ⟨mb, 8, none⟩) n1 (.int .i64 (f 5))).far (p := ⟨mb, 9, none⟩) n1 (.string (bs (s.drop 24)))
  have b2 := (b2.far (p := ⟨mb, 8, none⟩) n2 (.int .i64 (f 5))).far (p := ⟨mb, 9, none⟩) n2 (.string (bs (s.drop 24)))
  have hB4 := (HB.out.setCell (p := ⟨mb, 8, none⟩) hmb (.int .i64 (f 5))).setCell (p := ⟨mb, 9, none⟩) hmb (.string (bs (s.drop 24)))
  have r4 := b4.row 0 10 (by simp [Message.len])
  rw [show ((Message.vals m).drop 0).take 10 = Message.vals m from rfl] at r4
  have HM := Lib.hid hm
  clear hm
  go_wp2_with fail
  obtain ⟨wz, hwz⟩ : ∃ V, V = (wn.setCell ⟨mb, 8, none⟩ (.int .i64 (f 5))).setCell ⟨mb, 9, none⟩ (.string (bs (s.drop 24))) := ⟨_, rfl⟩
  rw [← hwz] at b1 b2 b4 hB4 ⊢
  clear hwz c8 z8 c9 z9 r4 b3
  refine (refCheck9_any m _ (by rw [HM.out]; simp; omega)).mono ?_
  rintro e wq ⟨rfl, hb⟩
  have b1 := b1.stays hb
  have b2 := b2.stays hb
  have b4 := b4.stays hb
  have HB := Lib.hid (below_then hB4 hb)
  clear hb hB4
  have HG := Lib.hid (show refG s.length f (s.drop 24) (s.drop 56) = if m.fit then (m, 0) else (msg0, 14) by rw [HM.out]; grind [refG])
  cases hfit : m.fit
  case false =>
    have r4 := b2.row 0 10 (by simp [Message.len])
    rw [show ((Message.vals msg0).drop 0).take 10 = Message.vals msg0 from rfl] at r4
    go_wp2_with (first | (refine wpList_store_whole (by rfl) 42 _ _ (by rfl) w.heap.size msg0.vals _ b1 (by rfl) (by rfl) (by rfl) (by kernel_rfl) (Message.one _) ?_) | fail)
    refine ret_cells2 w.heap.size 0 msg0.vals (.int .i64 14) Tryd.results30 Tryd.underlying42 rfl (by kernel_rfl) rfl rfl (b1.whole (by rfl)).range rfl ?_
    exact ⟨by rw [show refG s.length f (s.drop 24) (s.drop 56) = (msg0, 14) by rw [HG.out, hfit]; rfl]; rfl, Below.setWhole HB.out (Nat.le_refl _) _⟩
  have r4 := b4.row 0 10 (by simp [Message.len])
  rw [show ((Message.vals m).drop 0).take 10 = Message.vals m from rfl] at r4
  go_wp2_with (first | (refine wpList_store_whole (by rfl) 42 _ _ (by rfl) w.heap.size (Message.vals m) _ b1 (by rfl) (by rfl) (by rfl) (by kernel_rfl) (Message.one _) ?_) | fail)
  refine ret_cells2 w.heap.size 0 (Message.vals m) (.int .i64 0) Tryd.results30 Tryd.underlying42 rfl (by kernel_rfl) rfl rfl (b1.whole (by rfl)).range rfl ?_
  exact ⟨by rw [show refG s.length f (s.drop 24) (s.drop 56) = (m, 0) by rw [HG.out, hfit]; rfl]; rfl, Below.setWhole HB.out (Nat.le_refl _) _⟩
end Go.Proofs.YtlblenojhfeboaaDoor

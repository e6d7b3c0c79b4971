/-
  Layer 9, walks: the document's Get (written by wip/tools/genrefget9.py). No condition.
-/
import Derived.Test.YtfjflkmhhbhceaaGreatDoorK50
namespace Go.Proofs.YtfjflkmhhbhceaaGreatDoor
open Go.RowKit
attribute [local go_sem ↓] Go.wp_at_zero Go.wp_at_succ
attribute [local go_sem] rowAt_ptr rowOf_drew rowOf_drewN rowOf_alloc_past rowOf_new
attribute [local go_sem] Message.at0 Message.lat0 Message.at1 Message.lat1 Message.at2 Message.lat2 Message.at3 Message.lat3 Message.at4 Message.lat4 Message.at5 Message.lat5 Message.at6 Message.lat6 Message.at7 Message.lat7 Message.at8 Message.lat8 Message.at9 Message.lat9 Message.sub0_10 Message.lsub0_10 Message.sub4_4 Message.lsub4_4 Message.len Cred.at0 Cred.lat0 Cred.at1 Cred.lat1 Cred.at2 Cred.lat2 Cred.at3 Cred.lat3 Cred.sub0_4 Cred.lsub0_4 Cred.len

attribute [local go_sem ↓] ldMessage ldCred

set_option maxRecDepth 20000 in
set_option maxHeartbeats 4000000 in
theorem refGet9_call (s : List UInt8) (w : World) (hlen : ¬ 2048 < s.length) (hk : atV s 1 = 0) : Calls Tryz.prog 25 #[.string (bs s)] w fun e w' => e = .returned (gotV9 (refG s.length (atV s) (s.drop 24) (s.drop 56))) ∧ Below w.heap.size w w' := by
  have hz := bs_size s
  obtain ⟨f, hf⟩ : ∃ f, f = atV s := ⟨_, rfl⟩
  rw [← hf]
  have K : s.length ≤ 2048 → ∀ (i : Nat) (W : World), i ≤ 100 → Calls Tryz.prog 51 #[.string (bs s), .int .i64 i] W fun e w' => e = .returned (.int .i64 (f i)) ∧ Below W.heap.size W w' := fun hl i W hi => by rw [hf]; exact at9_any s i W hl hi
  have h24 : 0 ≤ f 5 → 24 ≤ s.length := fun h => by rw [hf] at h; unfold atV at h; split at h <;> omega
  have h56 : 0 ≤ f 13 → 56 ≤ s.length := fun h => by rw [hf] at h; unfold atV at h; split at h <;> omega
  have g0 : f 1 = 0 := by rw [hf]; exact hk
  have g1 : ¬ f 1 = 1 := by omega
  clear hf hk
  obtain ⟨b1, b2, hB0, _⟩ := chain2_blks w msg0.vals msg0.vals 81 81
  obtain ⟨w0, hw0⟩ : ∃ V, V = (w.alloc (.cells #[.int .i64 0, .bool false, .bool false, .int .i64 0, .int .i64 0, .int .i64 0, .int .i64 0, .int .i64 0, .int .i64 0, .string ⟨#[]⟩] 81)).alloc (.cells #[.int .i64 0, .bool false, .bool false, .int .i64 0, .int .i64 0, .int .i64 0, .int .i64 0, .int .i64 0, .int .i64 0, .string ⟨#[]⟩] 81) := ⟨_, rfl⟩
  replace b1 : Blk w0 w.heap.size 81 msg0.vals := by rw [hw0]; exact b1
  replace b2 : Blk w0 (w.heap.size + 1) 81 msg0.vals := by rw [hw0]; exact b2
  replace hB0 : Below w.heap.size w w0 := by rw [hw0]; exact hB0
  have HB := Lib.hid hB0
  have HW := Lib.hid hw0
  clear hB0 hw0
  go_enter Tryz.func25, Tryz.ntmps25
  go_upto_region 2 with fail
  rw [← HW.out]
  have hlen' : ¬ (2048 : Int) < s.length := by omega
  have K := Lib.hid (K (by omega))
  go_wp2_with fail
  refine (K.out 1 _ (by omega)).mono ?_
  rintro e wn ⟨rfl, hb⟩
  replace b1 := b1.stays hb
  replace b2 := b2.stays hb
  skip
  skip
  replace HB := Lib.hid (below_then HB.out hb)
  clear hb
  go_wp2_with fail
  refine (K.out 0 _ (by omega)).mono ?_
  rintro e wn ⟨rfl, hb⟩
  replace b1 := b1.stays hb
  replace b2 := b2.stays hb
  skip
  skip
  replace HB := Lib.hid (below_then HB.out hb)
  clear hb
  go_wp2_with fail
  obtain ⟨mb, hmbd⟩ : ∃ b, b = wn.heap.size := ⟨_, rfl⟩
  obtain ⟨wm, hwm⟩ : ∃ V, V = wn.alloc (.cells #[.int .i64 (f 0), .bool false, .bool false, .int .i64 0, .int .i64 0, .int .i64 0, .int .i64 0, .int .i64 0, .int .i64 0, .string ⟨#[]⟩] 81) := ⟨_, rfl⟩
  rw [← hwm, ← hmbd]
  have b3 : Blk wm mb 81 (Message.vals ⟨f 0, false, false, 0, cred0, 0, []⟩) := by rw [hwm, hmbd]; exact Blk.new _ _ _
  have hbm : Below wn.heap.size wn wm := by rw [hwm]; exact (Below.refl _ _).alloc (Nat.le_refl _) _
  have hmb : w.heap.size ≤ mb := by rw [hmbd]; exact HB.out.size
  have l1 := b1.lt
  have l2 := b2.lt
  have n1 : w.heap.size ≠ mb := by omega
  have n2 : w.heap.size + 1 ≠ mb := by omega
  have b1 := b1.stays hbm
  have b2 := b2.stays hbm
  have HB := Lib.hid (below_then HB.out hbm)
  clear hwm hbm hmbd l1 l2
  refine (K.out 2 _ (by omega)).mono ?_
  rintro e wn ⟨rfl, hb⟩
  replace b1 := b1.stays hb
  replace b2 := b2.stays hb
  replace b3 := b3.stays hb
  skip
  replace HB := Lib.hid (below_then HB.out hb)
  clear hb
  by_cases e2 : f 2 = 2
  case neg =>
    have r4 := b2.row 0 10 (by simp [Message.len])
    rw [show ((Message.vals msg0).drop 0).take 10 = Message.vals msg0 from rfl] at r4
    go_wp2_with (first | (refine wpList_store_whole (by rfl) 81 _ _ (by rfl) w.heap.size msg0.vals _ b1 (by rfl) (by rfl) (by rfl) (by kernel_rfl) (Message.one _) ?_) | fail)
    refine ret_cells2 w.heap.size 0 msg0.vals (.int .i64 14) Tryz.results25 Tryz.underlying81 rfl (by kernel_rfl) rfl rfl (b1.whole (by rfl)).range rfl ?_
    exact ⟨by rw [show refG s.length f (s.drop 24) (s.drop 56) = (msg0, 14) by grind [refG]]; rfl, Below.setWhole HB.out (Nat.le_refl _) _⟩
  go_wp2_with fail
  refine (K.out 3 _ (by omega)).mono ?_
  rintro e wn ⟨rfl, hb⟩
  replace b1 := b1.stays hb
  replace b2 := b2.stays hb
  replace b3 := b3.stays hb
  skip
  replace HB := Lib.hid (below_then HB.out hb)
  clear hb
  by_cases e3 : f 3 < 0
  case pos =>
    have r4 := b2.row 0 10 (by simp [Message.len])
    rw [show ((Message.vals msg0).drop 0).take 10 = Message.vals msg0 from rfl] at r4
    go_wp2_with (first | (refine wpList_store_whole (by rfl) 81 _ _ (by rfl) w.heap.size msg0.vals _ b1 (by rfl) (by rfl) (by rfl) (by kernel_rfl) (Message.one _) ?_) | fail)
    refine ret_cells2 w.heap.size 0 msg0.vals (.int .i64 14) Tryz.results25 Tryz.underlying81 rfl (by kernel_rfl) rfl rfl (b1.whole (by rfl)).range rfl ?_
    exact ⟨by rw [show refG s.length f (s.drop 24) (s.drop 56) = (msg0, 14) by grind [refG]]; rfl, Below.setWhole HB.out (Nat.le_refl _) _⟩
  go_wp2_with fail
  refine (K.out 3 _ (by omega)).mono ?_
  rintro e wn ⟨rfl, hb⟩
  replace b1 := b1.stays hb
  replace b2 := b2.stays hb
  replace b3 := b3.stays hb
  skip
  replace HB := Lib.hid (below_then HB.out hb)
  clear hb
  by_cases e33 : f 3 = 100003
  case neg =>
    have c3 : wn.cell? ⟨mb, 8, none⟩ = some (.int .i64 0) := b3.cell 8
    have z3 := b3.frozen 8
    have b4 : Blk (wn.setCell ⟨mb, 8, none⟩ (.int .i64 1)) _ _ (Message.vals ⟨f 0, false, false, 0, cred0, 1, []⟩) := b3.set_ 8 (.int .i64 1)
    have b1 := b1.far (p := ⟨mb, 8, none⟩) n1 (.int .i64 1)
    have hB4 := HB.out.setCell (p := ⟨mb, 8, none⟩) hmb (.int .i64 1)
    have r4 := b4.row 0 10 (by simp [Message.len])
    rw [show ((Message.vals ⟨f 0, false, false, 0, cred0, 1, []⟩).drop 0).take 10 = Message.vals ⟨f 0, false, false, 0, cred0, 1, []⟩ from rfl] at r4
    go_wp2_with (first | (refine wpList_store_whole (by rfl) 81 _ _ (by rfl) w.heap.size (Message.vals ⟨f 0, false, false, 0, cred0, 1, []⟩) _ b1 (by rfl) (by rfl) (by rfl) (by kernel_rfl) (Message.one _) ?_) | fail)
    refine ret_cells2 w.heap.size 0 (Message.vals ⟨f 0, false, false, 0, cred0, 1, []⟩) (.int .i64 0) Tryz.results25 Tryz.underlying81 rfl (by kernel_rfl) rfl rfl (b1.whole (by rfl)).range rfl ?_
    exact ⟨by rw [show refG s.length f (s.drop 24) (s.drop 56) = (⟨f 0, false, false, 0, cred0, 1, []⟩, 0) by grind [refG]]; rfl, Below.setWhole hB4 (Nat.le_refl _) _⟩
  go_wp2_with fail
  refine (K.out 4 _ (by omega)).mono ?_
  rintro e wn ⟨rfl, hb⟩
  replace b1 := b1.stays hb
  replace b2 := b2.stays hb
  replace b3 := b3.stays hb
  skip
  replace HB := Lib.hid (below_then HB.out hb)
  clear hb
  by_cases e4 : f 4 < 0
  case pos =>
    have r4 := b2.row 0 10 (by simp [Message.len])
    rw [show ((Message.vals msg0).drop 0).take 10 = Message.vals msg0 from rfl] at r4
    go_wp2_with (first | (refine wpList_store_whole (by rfl) 81 _ _ (by rfl) w.heap.size msg0.vals _ b1 (by rfl) (by rfl) (by rfl) (by kernel_rfl) (Message.one _) ?_) | fail)
    refine ret_cells2 w.heap.size 0 msg0.vals (.int .i64 14) Tryz.results25 Tryz.underlying81 rfl (by kernel_rfl) rfl rfl (b1.whole (by rfl)).range rfl ?_
    exact ⟨by rw [show refG s.length f (s.drop 24) (s.drop 56) = (msg0, 14) by grind [refG]]; rfl, Below.setWhole HB.out (Nat.le_refl _) _⟩
  go_wp2_with fail
  refine (K.out 4 _ (by omega)).mono ?_
  rintro e wn ⟨rfl, hb⟩
  replace b1 := b1.stays hb
  replace b2 := b2.stays hb
  replace b3 := b3.stays hb
  skip
  replace HB := Lib.hid (below_then HB.out hb)
  clear hb
  by_cases e43 : f 4 = 3
  case neg =>
    have c3 : wn.cell? ⟨mb, 8, none⟩ = some (.int .i64 0) := b3.cell 8
    have z3 := b3.frozen 8
    have b4 : Blk (wn.setCell ⟨mb, 8, none⟩ (.int .i64 2)) _ _ (Message.vals ⟨f 0, false, false, 0, cred0, 2, []⟩) := b3.set_ 8 (.int .i64 2)
    have b1 := b1.far (p := ⟨mb, 8, none⟩) n1 (.int .i64 2)
    have hB4 := HB.out.setCell (p := ⟨mb, 8, none⟩) hmb (.int .i64 2)
    have r4 := b4.row 0 10 (by simp [Message.len])
    rw [show ((Message.vals ⟨f 0, false, false, 0, cred0, 2, []⟩).drop 0).take 10 = Message.vals ⟨f 0, false, false, 0, cred0, 2, []⟩ from rfl] at r4
    go_wp2_with (first | (refine wpList_store_whole (by rfl) 81 _ _ (by rfl) w.heap.size (Message.vals ⟨f 0, false, false, 0, cred0, 2, []⟩) _ b1 (by rfl) (by rfl) (by rfl) (by kernel_rfl) (Message.one _) ?_) | fail)
    refine ret_cells2 w.heap.size 0 (Message.vals ⟨f 0, false, false, 0, cred0, 2, []⟩) (.int .i64 0) Tryz.results25 Tryz.underlying81 rfl (by kernel_rfl) rfl rfl (b1.whole (by rfl)).range rfl ?_
    exact ⟨by rw [show refG s.length f (s.drop 24) (s.drop 56) = (⟨f 0, false, false, 0, cred0, 2, []⟩, 0) by grind [refG]]; rfl, Below.setWhole hB4 (Nat.le_refl _) _⟩
  go_wp2_with fail
  refine (K.out 13 _ (by omega)).mono ?_
  rintro e wn ⟨rfl, hb⟩
  replace b1 := b1.stays hb
  replace b2 := b2.stays hb
  replace b3 := b3.stays hb
  skip
  replace HB := Lib.hid (below_then HB.out hb)
  clear hb
  by_cases e13 : f 13 < 0
  case pos =>
    have r4 := b2.row 0 10 (by simp [Message.len])
    rw [show ((Message.vals msg0).drop 0).take 10 = Message.vals msg0 from rfl] at r4
    go_wp2_with (first | (refine wpList_store_whole (by rfl) 81 _ _ (by rfl) w.heap.size msg0.vals _ b1 (by rfl) (by rfl) (by rfl) (by kernel_rfl) (Message.one _) ?_) | fail)
    refine ret_cells2 w.heap.size 0 msg0.vals (.int .i64 14) Tryz.results25 Tryz.underlying81 rfl (by kernel_rfl) rfl rfl (b1.whole (by rfl)).range rfl ?_
    exact ⟨by rw [show refG s.length f (s.drop 24) (s.drop 56) = (msg0, 14) by grind [refG]]; rfl, Below.setWhole HB.out (Nat.le_refl _) _⟩
  go_wp2_with fail
  refine (K.out 5 _ (by omega)).mono ?_
  rintro e wn ⟨rfl, hb⟩
  replace b1 := b1.stays hb
  replace b2 := b2.stays hb
  replace b3 := b3.stays hb
  skip
  replace HB := Lib.hid (below_then HB.out hb)
  clear hb
  by_cases e5 : 21 < f 5
  case pos =>
    have c3 : wn.cell? ⟨mb, 8, none⟩ = some (.int .i64 0) := b3.cell 8
    have z3 := b3.frozen 8
    have b4 : Blk (wn.setCell ⟨mb, 8, none⟩ (.int .i64 3)) _ _ (Message.vals ⟨f 0, false, false, 0, cred0, 3, []⟩) := b3.set_ 8 (.int .i64 3)
    have b1 := b1.far (p := ⟨mb, 8, none⟩) n1 (.int .i64 3)
    have hB4 := HB.out.setCell (p := ⟨mb, 8, none⟩) hmb (.int .i64 3)
    have r4 := b4.row 0 10 (by simp [Message.len])
    rw [show ((Message.vals ⟨f 0, false, false, 0, cred0, 3, []⟩).drop 0).take 10 = Message.vals ⟨f 0, false, false, 0, cred0, 3, []⟩ from rfl] at r4
    go_wp2_with (first | (refine wpList_store_whole (by rfl) 81 _ _ (by rfl) w.heap.size (Message.vals ⟨f 0, false, false, 0, cred0, 3, []⟩) _ b1 (by rfl) (by rfl) (by rfl) (by kernel_rfl) (Message.one _) ?_) | fail)
    refine ret_cells2 w.heap.size 0 (Message.vals ⟨f 0, false, false, 0, cred0, 3, []⟩) (.int .i64 0) Tryz.results25 Tryz.underlying81 rfl (by kernel_rfl) rfl rfl (b1.whole (by rfl)).range rfl ?_
    exact ⟨by rw [show refG s.length f (s.drop 24) (s.drop 56) = (⟨f 0, false, false, 0, cred0, 3, []⟩, 0) by grind [refG]]; rfl, Below.setWhole hB4 (Nat.le_refl _) _⟩
  go_wp2_with fail
  refine (K.out 8 _ (by omega)).mono ?_
  rintro e wn ⟨rfl, hb⟩
  replace b1 := b1.stays hb
  replace b2 := b2.stays hb
  replace b3 := b3.stays hb
  skip
  replace HB := Lib.hid (below_then HB.out hb)
  clear hb
  go_wp2_with fail
  refine (K.out 9 _ (by omega)).mono ?_
  rintro e wn ⟨rfl, hb⟩
  replace b1 := b1.stays hb
  replace b2 := b2.stays hb
  replace b3 := b3.stays hb
  skip
  replace HB := Lib.hid (below_then HB.out hb)
  clear hb
  go_wp2_with fail
  refine (K.out 10 _ (by omega)).mono ?_
  rintro e wn ⟨rfl, hb⟩
  replace b1 := b1.stays hb
  replace b2 := b2.stays hb
  replace b3 := b3.stays hb
  skip
  replace HB := Lib.hid (below_then HB.out hb)
  clear hb
  go_wp2_with fail
  refine (K.out 11 _ (by omega)).mono ?_
  rintro e wn ⟨rfl, hb⟩
  replace b1 := b1.stays hb
  replace b2 := b2.stays hb
  replace b3 := b3.stays hb
  skip
  replace HB := Lib.hid (below_then HB.out hb)
  clear hb
  go_wp2_with fail
  obtain ⟨cb, hcbd⟩ : ∃ b, b = wn.heap.size := ⟨_, rfl⟩
  obtain ⟨wm, hwm⟩ : ∃ V, V = wn.alloc (.cells #[.int .i64 (f 8), .int .i64 (f 9), .int .i64 (f 10), .int .i64 (f 11)] 63) := ⟨_, rfl⟩
  rw [← hwm, ← hcbd]
  have b5 : Blk wm cb 63 (Cred.vals ⟨f 8, f 9, f 10, f 11⟩) := by rw [hwm, hcbd]; exact Blk.new _ _ _
  have hbm : Below wn.heap.size wn wm := by rw [hwm]; exact (Below.refl _ _).alloc (Nat.le_refl _) _
  have b1 := b1.stays hbm
  have b2 := b2.stays hbm
  have b3 := b3.stays hbm
  have HB := Lib.hid (below_then HB.out hbm)
  clear hwm hbm hcbd
  refine (K.out 6 _ (by omega)).mono ?_
  rintro e wn ⟨rfl, hb⟩
  replace b1 := b1.stays hb
  replace b2 := b2.stays hb
  replace b3 := b3.stays hb
  replace b5 := b5.stays hb
  replace HB := Lib.hid (below_then HB.out hb)
  clear hb
  by_cases e6 : f 6 = 1
  case neg =>
    have c3 : wn.cell? ⟨mb, 8, none⟩ = some (.int .i64 0) := b3.cell 8
    have z3 := b3.frozen 8
    have b4 : Blk (wn.setCell ⟨mb, 8, none⟩ (.int .i64 4)) _ _ (Message.vals ⟨f 0, false, false, 0, cred0, 4, []⟩) := b3.set_ 8 (.int .i64 4)
    have b1 := b1.far (p := ⟨mb, 8, none⟩) n1 (.int .i64 4)
    have hB4 := HB.out.setCell (p := ⟨mb, 8, none⟩) hmb (.int .i64 4)
    have r4 := b4.row 0 10 (by simp [Message.len])
    rw [show ((Message.vals ⟨f 0, false, false, 0, cred0, 4, []⟩).drop 0).take 10 = Message.vals ⟨f 0, false, false, 0, cred0, 4, []⟩ from rfl] at r4
    go_wp2_with (first | (refine wpList_store_whole (by rfl) 81 _ _ (by rfl) w.heap.size (Message.vals ⟨f 0, false, false, 0, cred0, 4, []⟩) _ b1 (by rfl) (by rfl) (by rfl) (by kernel_rfl) (Message.one _) ?_) | fail)
    refine ret_cells2 w.heap.size 0 (Message.vals ⟨f 0, false, false, 0, cred0, 4, []⟩) (.int .i64 0) Tryz.results25 Tryz.underlying81 rfl (by kernel_rfl) rfl rfl (b1.whole (by rfl)).range rfl ?_
    exact ⟨by rw [show refG s.length f (s.drop 24) (s.drop 56) = (⟨f 0, false, false, 0, cred0, 4, []⟩, 0) by grind [refG]]; rfl, Below.setWhole hB4 (Nat.le_refl _) _⟩
  go_wp2_with fail
  refine (K.out 7 _ (by omega)).mono ?_
  rintro e wn ⟨rfl, hb⟩
  replace b1 := b1.stays hb
  replace b2 := b2.stays hb
  replace b3 := b3.stays hb
  replace b5 := b5.stays hb
  replace HB := Lib.hid (below_then HB.out hb)
  clear hb
  by_cases e7 : f 7 = 16
  case neg =>
    have c3 : wn.cell? ⟨mb, 8, none⟩ = some (.int .i64 0) := b3.cell 8
    have z3 := b3.frozen 8
    have b4 : Blk (wn.setCell ⟨mb, 8, none⟩ (.int .i64 4)) _ _ (Message.vals ⟨f 0, false, false, 0, cred0, 4, []⟩) := b3.set_ 8 (.int .i64 4)
    have b1 := b1.far (p := ⟨mb, 8, none⟩) n1 (.int .i64 4)
    have hB4 := HB.out.setCell (p := ⟨mb, 8, none⟩) hmb (.int .i64 4)
    have r4 := b4.row 0 10 (by simp [Message.len])
    rw [show ((Message.vals ⟨f 0, false, false, 0, cred0, 4, []⟩).drop 0).take 10 = Message.vals ⟨f 0, false, false, 0, cred0, 4, []⟩ from rfl] at r4
    go_wp2_with (first | (refine wpList_store_whole (by rfl) 81 _ _ (by rfl) w.heap.size (Message.vals ⟨f 0, false, false, 0, cred0, 4, []⟩) _ b1 (by rfl) (by rfl) (by rfl) (by kernel_rfl) (Message.one _) ?_) | fail)
    refine ret_cells2 w.heap.size 0 (Message.vals ⟨f 0, false, false, 0, cred0, 4, []⟩) (.int .i64 0) Tryz.results25 Tryz.underlying81 rfl (by kernel_rfl) rfl rfl (b1.whole (by rfl)).range rfl ?_
    exact ⟨by rw [show refG s.length f (s.drop 24) (s.drop 56) = (⟨f 0, false, false, 0, cred0, 4, []⟩, 0) by grind [refG]]; rfl, Below.setWhole hB4 (Nat.le_refl _) _⟩
  go_wp2_with fail
  refine (K.out 12 _ (by omega)).mono ?_
  rintro e wn ⟨rfl, hb⟩
  replace b1 := b1.stays hb
  replace b2 := b2.stays hb
  replace b3 := b3.stays hb
  replace b5 := b5.stays hb
  replace HB := Lib.hid (below_then HB.out hb)
  clear hb
  by_cases e12 : f 12 = 0
  case neg =>
    have c3 : wn.cell? ⟨mb, 8, none⟩ = some (.int .i64 0) := b3.cell 8
    have z3 := b3.frozen 8
    have b4 : Blk (wn.setCell ⟨mb, 8, none⟩ (.int .i64 4)) _ _ (Message.vals ⟨f 0, false, false, 0, cred0, 4, []⟩) := b3.set_ 8 (.int .i64 4)
    have b1 := b1.far (p := ⟨mb, 8, none⟩) n1 (.int .i64 4)
    have hB4 := HB.out.setCell (p := ⟨mb, 8, none⟩) hmb (.int .i64 4)
    have r4 := b4.row 0 10 (by simp [Message.len])
    rw [show ((Message.vals ⟨f 0, false, false, 0, cred0, 4, []⟩).drop 0).take 10 = Message.vals ⟨f 0, false, false, 0, cred0, 4, []⟩ from rfl] at r4
    go_wp2_with (first | (refine wpList_store_whole (by rfl) 81 _ _ (by rfl) w.heap.size (Message.vals ⟨f 0, false, false, 0, cred0, 4, []⟩) _ b1 (by rfl) (by rfl) (by rfl) (by kernel_rfl) (Message.one _) ?_) | fail)
    refine ret_cells2 w.heap.size 0 (Message.vals ⟨f 0, false, false, 0, cred0, 4, []⟩) (.int .i64 0) Tryz.results25 Tryz.underlying81 rfl (by kernel_rfl) rfl rfl (b1.whole (by rfl)).range rfl ?_
    exact ⟨by rw [show refG s.length f (s.drop 24) (s.drop 56) = (⟨f 0, false, false, 0, cred0, 4, []⟩, 0) by grind [refG]]; rfl, Below.setWhole hB4 (Nat.le_refl _) _⟩
  go_wp2_with fail
  refine (K.out 13 _ (by omega)).mono ?_
  rintro e wn ⟨rfl, hb⟩
  replace b1 := b1.stays hb
  replace b2 := b2.stays hb
  replace b3 := b3.stays hb
  replace b5 := b5.stays hb
  replace HB := Lib.hid (below_then HB.out hb)
  clear hb
  by_cases e130 : f 13 = 0
  case neg =>
    have c3 : wn.cell? ⟨mb, 8, none⟩ = some (.int .i64 0) := b3.cell 8
    have z3 := b3.frozen 8
    have b4 : Blk (wn.setCell ⟨mb, 8, none⟩ (.int .i64 4)) _ _ (Message.vals ⟨f 0, false, false, 0, cred0, 4, []⟩) := b3.set_ 8 (.int .i64 4)
    have b1 := b1.far (p := ⟨mb, 8, none⟩) n1 (.int .i64 4)
    have hB4 := HB.out.setCell (p := ⟨mb, 8, none⟩) hmb (.int .i64 4)
    have r4 := b4.row 0 10 (by simp [Message.len])
    rw [show ((Message.vals ⟨f 0, false, false, 0, cred0, 4, []⟩).drop 0).take 10 = Message.vals ⟨f 0, false, false, 0, cred0, 4, []⟩ from rfl] at r4
    go_wp2_with (first | (refine wpList_store_whole (by rfl) 81 _ _ (by rfl) w.heap.size (Message.vals ⟨f 0, false, false, 0, cred0, 4, []⟩) _ b1 (by rfl) (by rfl) (by rfl) (by kernel_rfl) (Message.one _) ?_) | fail)
    refine ret_cells2 w.heap.size 0 (Message.vals ⟨f 0, false, false, 0, cred0, 4, []⟩) (.int .i64 0) Tryz.results25 Tryz.underlying81 rfl (by kernel_rfl) rfl rfl (b1.whole (by rfl)).range rfl ?_
    exact ⟨by rw [show refG s.length f (s.drop 24) (s.drop 56) = (⟨f 0, false, false, 0, cred0, 4, []⟩, 0) by grind [refG]]; rfl, Below.setWhole hB4 (Nat.le_refl _) _⟩
  have r5 := b5.row 0 4 (by simp [Cred.len])
  rw [show ((Cred.vals ⟨f 8, f 9, f 10, f 11⟩).drop 0).take 4 = Cred.vals ⟨f 8, f 9, f 10, f 11⟩ from rfl] at r5
  go_wp2_with fail
  refine (refOwner9_any ⟨f 8, f 9, f 10, f 11⟩ _).mono ?_
  rintro e wq ⟨rfl, hb⟩
  have b1 := b1.stays hb
  have b2 := b2.stays hb
  have b3 := b3.stays hb
  have b5 := b5.stays hb
  have HB := Lib.hid (below_then HB.out hb)
  clear hb r5
  cases hok : Cred.ok ⟨f 8, f 9, f 10, f 11⟩
  case false =>
    have c3 : wq.cell? ⟨mb, 8, none⟩ = some (.int .i64 0) := b3.cell 8
    have z3 := b3.frozen 8
    have b4 : Blk (wq.setCell ⟨mb, 8, none⟩ (.int .i64 4)) _ _ (Message.vals ⟨f 0, false, false, 0, cred0, 4, []⟩) := b3.set_ 8 (.int .i64 4)
    have b1 := b1.far (p := ⟨mb, 8, none⟩) n1 (.int .i64 4)
    have hB4 := HB.out.setCell (p := ⟨mb, 8, none⟩) hmb (.int .i64 4)
    have r4 := b4.row 0 10 (by simp [Message.len])
    rw [show ((Message.vals ⟨f 0, false, false, 0, cred0, 4, []⟩).drop 0).take 10 = Message.vals ⟨f 0, false, false, 0, cred0, 4, []⟩ from rfl] at r4
    go_wp2_with (first | (refine wpList_store_whole (by rfl) 81 _ _ (by rfl) w.heap.size (Message.vals ⟨f 0, false, false, 0, cred0, 4, []⟩) _ b1 (by rfl) (by rfl) (by rfl) (by kernel_rfl) (Message.one _) ?_) | fail)
    refine ret_cells2 w.heap.size 0 (Message.vals ⟨f 0, false, false, 0, cred0, 4, []⟩) (.int .i64 0) Tryz.results25 Tryz.underlying81 rfl (by kernel_rfl) rfl rfl (b1.whole (by rfl)).range rfl ?_
    exact ⟨by rw [show refG s.length f (s.drop 24) (s.drop 56) = (⟨f 0, false, false, 0, cred0, 4, []⟩, 0) by grind [refG]]; rfl, Below.setWhole hB4 (Nat.le_refl _) _⟩
  by_cases hm4 : s.length % 4 = 0
  case neg =>
    have hm1 : ¬ (s.length : Int) % 4 = 0 := by omega
    have hm2 : ¬ (s.length : Int).tmod 4 = 0 := by rw [Int.tmod_eq_emod_of_nonneg (by omega)]; exact hm1
    have c3 : wq.cell? ⟨mb, 8, none⟩ = some (.int .i64 0) := b3.cell 8
    have z3 := b3.frozen 8
    have b4 : Blk (wq.setCell ⟨mb, 8, none⟩ (.int .i64 4)) _ _ (Message.vals ⟨f 0, false, false, 0, cred0, 4, []⟩) := b3.set_ 8 (.int .i64 4)
    have b1 := b1.far (p := ⟨mb, 8, none⟩) n1 (.int .i64 4)
    have hB4 := HB.out.setCell (p := ⟨mb, 8, none⟩) hmb (.int .i64 4)
    have r4 := b4.row 0 10 (by simp [Message.len])
    rw [show ((Message.vals ⟨f 0, false, false, 0, cred0, 4, []⟩).drop 0).take 10 = Message.vals ⟨f 0, false, false, 0, cred0, 4, []⟩ from rfl] at r4
    go_wp2_with (first | (refine wpList_store_whole (by rfl) 81 _ _ (by rfl) w.heap.size (Message.vals ⟨f 0, false, false, 0, cred0, 4, []⟩) _ b1 (by rfl) (by rfl) (by rfl) (by kernel_rfl) (Message.one _) ?_) | fail)
    refine ret_cells2 w.heap.size 0 (Message.vals ⟨f 0, false, false, 0, cred0, 4, []⟩) (.int .i64 0) Tryz.results25 Tryz.underlying81 rfl (by kernel_rfl) rfl rfl (b1.whole (by rfl)).range rfl ?_
    exact ⟨by rw [show refG s.length f (s.drop 24) (s.drop 56) = (⟨f 0, false, false, 0, cred0, 4, []⟩, 0) by grind [refG]]; rfl, Below.setWhole hB4 (Nat.le_refl _) _⟩
  have hm1 : (s.length : Int) % 4 = 0 := by omega
  have hm2 : (s.length : Int).tmod 4 = 0 := by rw [Int.tmod_eq_emod_of_nonneg (by omega)]; exact hm1
  go_wp2_with fail
  refine (K.out 5 _ (by omega)).mono ?_
  rintro e wn ⟨rfl, hb⟩
  replace b1 := b1.stays hb
  replace b2 := b2.stays hb
  replace b3 := b3.stays hb
  replace b5 := b5.stays hb
  replace HB := Lib.hid (below_then HB.out hb)
  clear hb
  have l56 := h56 (by omega)
  have l56' : ¬ (s.length : Int) < 56 := by omega
  have hcd : (bs s).extract 56 s.length = bs (s.drop 56) := bs_drop _ _
  have c3 : wn.cell? ⟨mb, 3, none⟩ = some (.int .i64 0) := b3.cell 3
  have c4 : wn.cell? ⟨mb, 4, none⟩ = some (.int .i64 0) := b3.cell 4
  have c5 : wn.cell? ⟨mb, 5, none⟩ = some (.int .i64 0) := b3.cell 5
  have c6 : wn.cell? ⟨mb, 6, none⟩ = some (.int .i64 0) := b3.cell 6
  have c7 : wn.cell? ⟨mb, 7, none⟩ = some (.int .i64 0) := b3.cell 7
  have c9 : wn.cell? ⟨mb, 9, none⟩ = some (.string (bs [])) := b3.cell 9
  have z3 := b3.frozen 3
  have z4 := b3.frozen 4
  have z5 := b3.frozen 5
  have z6 := b3.frozen 6
  have z7 := b3.frozen 7
  have z9 := b3.frozen 9
  have nc := b3.ne_ b5 (by decide)
  have nc' : ¬ cb = mb := fun e => nc e.symm
  have r5 : rowOf (wn.setCell ⟨mb, 3, none⟩ (.int .i64 (f 5))) cb 0 4 = some #[.int .i64 (f 8), .int .i64 (f 9), .int .i64 (f 10), .int .i64 (f 11)] := by rw [rowOf_setCell_far _ _ _ _ _ nc']; exact b5.row 0 4 (by simp [Cred.len])
  go_upto_region 39 with fail
  have b4y := ((((((b3.set_ 3 (.int .i64 (f 5))).set_ 4 (.int .i64 (f 8))).set_ 5 (.int .i64 (f 9))).set_ 6 (.int .i64 (f 10))).set_ 7 (.int .i64 (f 11))).set_ 9 (.string (bs (s.drop 56))))
  have b4 : Blk ((((((wn.setCell ⟨mb, 3, none⟩ (.int .i64 (f 5))).setCell ⟨mb, 4, none⟩ (.int .i64 (f 8))).setCell ⟨mb, 5, none⟩ (.int .i64 (f 9))).setCell ⟨mb, 6, none⟩ (.int .i64 (f 10))).setCell ⟨mb, 7, none⟩ (.int .i64 (f 11))).setCell ⟨mb, 9, none⟩ (.string (bs (s.drop 56)))) mb 81 (Message.vals ⟨f 0, false, false, f 5, ⟨f 8, f 9, f 10, f 11⟩, 0, s.drop 56⟩) := b4y
  have b1 := ((((((b1.far (p := ⟨mb, 3, none⟩) n1 (.int .i64 (f 5))).far (p := ⟨mb, 4, none⟩) n1 (.int .i64 (f 8))).far (p := ⟨mb, 5, none⟩) n1 (.int .i64 (f 9))).far (p := ⟨mb, 6, none⟩) n1 (.int .i64 (f 10))).far (p := ⟨mb, 7, none⟩) n1 (.int .i64 (f 11))).far (p := ⟨mb, 9, none⟩) n1 (.string (bs (s.drop 56))))
  have hB4 := ((((((HB.out.setCell (p := ⟨mb, 3, none⟩) hmb (.int .i64 (f 5))).setCell (p := ⟨mb, 4, none⟩) hmb (.int .i64 (f 8))).setCell (p := ⟨mb, 5, none⟩) hmb (.int .i64 (f 9))).setCell (p := ⟨mb, 6, none⟩) hmb (.int .i64 (f 10))).setCell (p := ⟨mb, 7, none⟩) hmb (.int .i64 (f 11))).setCell (p := ⟨mb, 9, none⟩) hmb (.string (bs (s.drop 56))))
  obtain ⟨wz, hwz⟩ : ∃ V, V = ((((((wn.setCell ⟨mb, 3, none⟩ (.int .i64 (f 5))).setCell ⟨mb, 4, none⟩ (.int .i64 (f 8))).setCell ⟨mb, 5, none⟩ (.int .i64 (f 9))).setCell ⟨mb, 6, none⟩ (.int .i64 (f 10))).setCell ⟨mb, 7, none⟩ (.int .i64 (f 11))).setCell ⟨mb, 9, none⟩ (.string (bs (s.drop 56)))) := ⟨_, rfl⟩
  rw [← hwz] at b1 b4 hB4 ⊢
  clear b4y b3 hwz r5 c3 c4 c5 c6 c7 c9 z3 z4 z5 z6 z7 z9
  have r4 := b4.row 0 10 (by simp [Message.len])
  rw [show ((Message.vals ⟨f 0, false, false, f 5, ⟨f 8, f 9, f 10, f 11⟩, 0, s.drop 56⟩).drop 0).take 10 = Message.vals ⟨f 0, false, false, f 5, ⟨f 8, f 9, f 10, f 11⟩, 0, s.drop 56⟩ from rfl] at r4
  go_wp2_with (first | (refine wpList_store_whole (by rfl) 81 _ _ (by rfl) w.heap.size (Message.vals ⟨f 0, false, false, f 5, ⟨f 8, f 9, f 10, f 11⟩, 0, s.drop 56⟩) _ b1 (by rfl) (by rfl) (by rfl) (by kernel_rfl) (Message.one _) ?_) | fail)
  refine ret_cells2 w.heap.size 0 (Message.vals ⟨f 0, false, false, f 5, ⟨f 8, f 9, f 10, f 11⟩, 0, s.drop 56⟩) (.int .i64 0) Tryz.results25 Tryz.underlying81 rfl (by kernel_rfl) rfl rfl (b1.whole (by rfl)).range rfl ?_
  exact ⟨by rw [show refG s.length f (s.drop 24) (s.drop 56) = (⟨f 0, false, false, f 5, ⟨f 8, f 9, f 10, f 11⟩, 0, s.drop 56⟩, 0) by grind [refG]]; rfl, Below.setWhole hB4 (Nat.le_refl _) _⟩
end Go.Proofs.YtfjflkmhhbhceaaGreatDoor

/-
  Layer 9, walks: the document's Get (written by wip/tools/genrefget9.py). No condition.
-/
namespace Go.Proofs.YtfjflkmhhbhceaaGreatDoor
open Go.RowKit
attribute [local go_sem ↓] Go.wp_at_zero Go.wp_at_succ
attribute [local go_sem] rowAt_ptr rowOf_drew rowOf_drewN rowOf_alloc_past rowOf_new
attribute [local go_sem] Message.at0 Message.lat0 Message.at1 Message.lat1 Message.at2 Message.lat2 Message.at3 Message.lat3 Message.at4 Message.lat4 Message.at5 Message.lat5 Message.at6 Message.lat6 Message.at7 Message.lat7 Message.at8 Message.lat8 Message.at9 Message.lat9 Message.sub0_10 Message.lsub0_10 Message.sub4_4 Message.lsub4_4 Message.len Cred.at0 Cred.lat0 Cred.at1 Cred.lat1 Cred.at2 Cred.lat2 Cred.at3 Cred.lat3 Cred.sub0_4 Cred.lsub0_4 Cred.len

attribute [local go_sem ↓] ldMessage ldCred

set_option maxRecDepth 20000 in
set_option maxHeartbeats 4000000 in
theorem refGet9_any (s : List UInt8) (w : World) : Calls Tryz.prog 25 #[.string (bs s)] w fun e w' => e = .returned (gotV9 (refG s.length (atV s) (s.drop 24) (s.drop 56))) ∧ Below w.heap.size w w' := by
  have hz := bs_size s
  by_cases hlen0 : 2048 < s.length
  case neg =>
    by_cases h1 : atV s 1 = 1
    · exact refGet9_ans s w hlen0 h1
    by_cases h0 : atV s 1 = 0
    · exact refGet9_call s w hlen0 h0
    have HG := Lib.hid (show refG s.length (atV s) (s.drop 24) (s.drop 56) = (msg0, 14) by simp [refG, hlen0, h1, h0])
    obtain ⟨f, hf⟩ : ∃ f, f = atV s := ⟨_, rfl⟩
    rw [← hf]
    have K : s.length ≤ 2048 → ∀ (i : Nat) (W : World), i ≤ 100 → Calls Tryz.prog 51 #[.string (bs s), .int .i64 i] W fun e w' => e = .returned (.int .i64 (f i)) ∧ Below W.heap.size W w' := fun hl i W hi => by rw [hf]; exact at9_any s i W hl hi
    have h24 : 0 ≤ f 5 → 24 ≤ s.length := fun h => by rw [hf] at h; unfold atV at h; split at h <;> omega
    have h56 : 0 ≤ f 13 → 56 ≤ s.length := fun h => by rw [hf] at h; unfold atV at h; split at h <;> omega
    have n11 : ¬ f 1 = 1 := by rw [hf]; exact h1
    have n10 : ¬ f 1 = 0 := by rw [hf]; exact h0
    have m11 : (f 1 != 1) = true := by simpa using n11
    have m10 : (f 1 != 0) = true := by simpa using n10
    rw [← hf] at HG
    clear hf h0 h1
    obtain ⟨b1, b2, hB0, _⟩ := chain2_blks w msg0.vals msg0.vals 81 81
    obtain ⟨w0, hw0⟩ : ∃ V, V = (w.alloc (.cells #[.int .i64 0, .bool false, .bool false, .int .i64 0, .int .i64 0, .int .i64 0, .int .i64 0, .int .i64 0, .int .i64 0, .string ⟨#[]⟩] 81)).alloc (.cells #[.int .i64 0, .bool false, .bool false, .int .i64 0, .int .i64 0, .int .i64 0, .int .i64 0, .int .i64 0, .int .i64 0, .string ⟨#[]⟩] 81) := ⟨_, rfl⟩
    replace b1 : Blk w0 w.heap.size 81 msg0.vals := by rw [hw0]; exact b1
    replace b2 : Blk w0 (w.heap.size + 1) 81 msg0.vals := by rw [hw0]; exact b2
    replace hB0 : Below w.heap.size w w0 := by rw [hw0]; exact hB0
    have HB := Lib.hid hB0
    have HW := Lib.hid hw0
    clear hB0 hw0
    go_enter Tryz.func25, Tryz.ntmps25
    go_upto_region 2 with fail
    rw [← HW.out]
    have hlen' : ¬ (2048 : Int) < s.length := by omega
    have K := Lib.hid (K (by omega))
    go_wp2_with fail
    refine (K.out 1 _ (by omega)).mono ?_
    rintro e wn ⟨rfl, hb⟩
    replace b1 := b1.stays hb
    replace b2 := b2.stays hb
    skip
    skip
    replace HB := Lib.hid (below_then HB.out hb)
    clear hb
    have r4 := b2.row 0 10 (by simp [Message.len])
    rw [show ((Message.vals msg0).drop 0).take 10 = Message.vals msg0 from rfl] at r4
    go_wp2_with (first | (refine wpList_store_whole (by rfl) 81 _ _ (by rfl) w.heap.size msg0.vals _ b1 (by rfl) (by rfl) (by rfl) (by kernel_rfl) (Message.one _) ?_) | fail)
    refine ret_cells2 w.heap.size 0 msg0.vals (.int .i64 14) Tryz.results25 Tryz.underlying81 rfl (by kernel_rfl) rfl rfl (b1.whole (by rfl)).range rfl ?_
    exact ⟨by rw [show refG s.length f (s.drop 24) (s.drop 56) = (msg0, 14) by rw [HG.out]]; rfl, Below.setWhole HB.out (Nat.le_refl _) _⟩
  obtain ⟨f, hf⟩ : ∃ f, f = atV s := ⟨_, rfl⟩
  rw [← hf]
  have K : s.length ≤ 2048 → ∀ (i : Nat) (W : World), i ≤ 100 → Calls Tryz.prog 51 #[.string (bs s), .int .i64 i] W fun e w' => e = .returned (.int .i64 (f i)) ∧ Below W.heap.size W w' := fun hl i W hi => by rw [hf]; exact at9_any s i W hl hi
  have h24 : 0 ≤ f 5 → 24 ≤ s.length := fun h => by rw [hf] at h; unfold atV at h; split at h <;> omega
  have h56 : 0 ≤ f 13 → 56 ≤ s.length := fun h => by rw [hf] at h; unfold atV at h; split at h <;> omega
  clear hf
  obtain ⟨b1, b2, hB0, _⟩ := chain2_blks w msg0.vals msg0.vals 81 81
  obtain ⟨w0, hw0⟩ : ∃ V, V = (w.alloc (.cells #[.int .i64 0, .bool false, .bool false, .int .i64 0, .int .i64 0, .int .i64 0, .int .i64 0, .int .i64 0, .int .i64 0, .string ⟨#[]⟩] 81)).alloc (.cells #[.int .i64 0, .bool false, .bool false, .int .i64 0, .int .i64 0, .int .i64 0, .int .i64 0, .int .i64 0, .int .i64 0, .string ⟨#[]⟩] 81) := ⟨_, rfl⟩
  replace b1 : Blk w0 w.heap.size 81 msg0.vals := by rw [hw0]; exact b1
  replace b2 : Blk w0 (w.heap.size + 1) 81 msg0.vals := by rw [hw0]; exact b2
  replace hB0 : Below w.heap.size w w0 := by rw [hw0]; exact hB0
  have HB := Lib.hid hB0
  have HW := Lib.hid hw0
  clear hB0 hw0
  go_enter Tryz.func25, Tryz.ntmps25
  go_upto_region 2 with fail
  rw [← HW.out]
  have hlen := hlen0
  have hlen' : (2048 : Int) < s.length := by omega
  have r4 := b2.row 0 10 (by simp [Message.len])
  rw [show ((Message.vals msg0).drop 0).take 10 = Message.vals msg0 from rfl] at r4
  go_wp2_with (first | (refine wpList_store_whole (by rfl) 81 _ _ (by rfl) w.heap.size msg0.vals _ b1 (by rfl) (by rfl) (by rfl) (by kernel_rfl) (Message.one _) ?_) | fail)
  refine ret_cells2 w.heap.size 0 msg0.vals (.int .i64 4) Tryz.results25 Tryz.underlying81 rfl (by kernel_rfl) rfl rfl (b1.whole (by rfl)).range rfl ?_
  exact ⟨by rw [show refG s.length f (s.drop 24) (s.drop 56) = (msg0, 4) by grind [refG]]; rfl, Below.setWhole HB.out (Nat.le_refl _) _⟩
end Go.Proofs.YtfjflkmhhbhceaaGreatDoor

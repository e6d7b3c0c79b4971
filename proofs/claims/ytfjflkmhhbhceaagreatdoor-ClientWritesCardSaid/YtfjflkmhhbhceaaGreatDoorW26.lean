/-
  Layer 9, walks: the document's Get (written by wip/tools/genrefget9.py). No condition.
-/
import Derived.Test.YtfjflkmhhbhceaaGreatDoorW25
namespace Go.Proofs.YtfjflkmhhbhceaaGreatDoor
open Go.RowKit
attribute [local go_sem ↓] Go.wp_at_zero Go.wp_at_succ
attribute [local go_sem] rowAt_ptr rowOf_drew rowOf_drewN rowOf_alloc_past rowOf_new
attribute [local go_sem] Message.at0 Message.lat0 Message.at1 Message.lat1 Message.at2 Message.lat2 Message.at3 Message.lat3 Message.at4 Message.lat4 Message.at5 Message.lat5 Message.at6 Message.lat6 Message.at7 Message.lat7 Message.at8 Message.lat8 Message.at9 Message.lat9 Message.sub0_10 Message.lsub0_10 Message.sub4_4 Message.lsub4_4 Message.len Cred.at0 Cred.lat0 Cred.at1 Cred.lat1 Cred.at2 Cred.lat2 Cred.at3 Cred.lat3 Cred.sub0_4 Cred.lsub0_4 Cred.len

attribute [local go_sem ↓] ldMessage ldCred

set_option maxRecDepth 20000 in
set_option maxHeartbeats 4000000 in
theorem refGet9_call (s : List UInt8) (w : World) (hlen : ¬ 2048 < s.length) (hk : atV s 1 = 0) : Calls Tryz.prog 25 #[.string (bs s)] w fun e w' => e = .returned (gotV9 (refG s.length (atV s) (s.drop 24) (s.drop 56))) ∧ Below w.heap.size w w' := by
  have hz := bs_size s
  obtain ⟨f, hf⟩ : ∃ f, f = atV s := ⟨_, rfl⟩
  rw [← hf]
  have K : s.length ≤ 2048 → ∀ (i : Nat) (W : World), i ≤ 100 → Calls Tryz.prog 51 #[.string (bs s), .int .i64 i] W fun e w' => e = .returned (.int .i64 (f i)) ∧ Below W.heap.size W w' := fun hl i W hi => by rw [hf]; exact at9_any s i W hl hi
  have h24 : 0 ≤ f 5 → 24 ≤ s.length := fun h => by rw [hf] at h; unfold atV at h; split at h <;> omega
  have h56 : 0 ≤ f 13 → 56 ≤ s.length := fun h => by rw [hf] at h; unfold atV at h; split at h <;> omega
  have g0 : f 1 = 0 := by rw [hf]; exact hk
  have g1 : ¬ f 1 = 1 := by omega
  clear hf hk
  obtain ⟨b1, b2, hB0, _⟩ := chain2_blks w msg0.vals msg0.vals 81 81
  obtain ⟨w0, hw0⟩ : ∃ V, V = (w.alloc (.cells #[.int .i64 0, .bool false, .bool false, .int .i64 0, .int .i64 0, .int .i64 0, .int .i64 0, .int .i64 0, .int .i64 0, .string ⟨#[]⟩] 81)).alloc (.cells #[.int .i64 0, .bool false, .bool false, .int .i64 0, .int .i64 0, .int .i64 0, .int .i64 0, .int .i64 0, .int .i64 0, .string ⟨#[]⟩] 81) := ⟨_, rfl⟩
  replace b1 : Blk w0 w.heap.size 81 msg0.vals := by rw [hw0]; exact b1
  replace b2 : Blk w0 (w.heap.size + 1) 81 msg0.vals := by rw [hw0]; exact b2
  replace hB0 : Below w.heap.size w w0 := by rw [hw0]; exact hB0
  have HB := Lib.hid hB0
  have HW := Lib.hid hw0
  clear hB0 hw0
  go_enter Tryz.func25, Tryz.ntmps25
  go_upto_region 2 with fail
  rw [← HW.out]
  have hlen' : ¬ (2048 : Int) < s.length := by omega
  have K := Lib.hid (K (by omega))
  go_wp2_with fail
  refine (K.out 1 _ (by omega)).mono ?_
  rintro e wn ⟨rfl, hb⟩
  replace b1 := b1.stays hb
  replace b2 := b2.stays hb
  skip
  skip
  replace HB := Lib.hid (below_then HB.out hb)
  clear hb
  go_wp2_with fail
  refine (K.out 0 _ (by omega)).mono ?_
  rintro e wn ⟨rfl, hb⟩
  replace b1 := b1.stays hb
  replace b2 := b2.stays hb
  skip
  skip
  replace HB := Lib.hid (below_then HB.out hb)
  clear hb
  go_wp2_with fail
  obtain ⟨mb, hmbd⟩ : ∃ b, b = wn.heap.size := ⟨_, rfl⟩
  obtain ⟨wm, hwm⟩ : ∃ V, V = wn.alloc (.cells #[.int .i64 (f 0), .bool false, .bool false, .int .i64 0, .int .i64 0, .int .i64 0, .int .i64 0, .int .i64 0, .int .i64 0, .string ⟨#[]⟩] 81) := ⟨_, rfl⟩
  rw [← hwm, ← hmbd]
  have b3 : Blk wm mb 81 (Message.vals ⟨f 0, false, false, 0, cred0, 0, []⟩) := by rw [hwm, hmbd]; exact Blk.new _ _ _
  have hbm : Below wn.heap.size wn wm := by rw [hwm]; exact (Below.refl _ _).alloc (Nat.le_refl _) _
  have hmb : w.heap.size ≤ mb := by rw [hmbd]; exact HB.out.size
  have l1 := b1.lt
  have l2 := b2.lt
  have n1 : w.heap.size ≠ mb := by omega
  have n2 : w.heap.size + 1 ≠ mb := by omega
  have b1 := b1.stays hbm
  have b2 := b2.stays hbm
  have HB := Lib.hid (below_then HB.out hbm)
  clear hwm hbm hmbd l1 l2
  refine (K.out 2 _ (by omega)).mono ?_
  rintro e wn ⟨rfl, hb⟩
  replace b1 := b1.stays hb
  replace b2 := b2.stays hb
  replace b3 := b3.stays hb
  skip
  replace HB := Lib.hid (below_then HB.out hb)
  clear hb
  by_cases e2 : f 2 = 2
  case neg =>
    have r4 := b2.row 0 10 (by simp [Message.len])
    rw [show ((Message.vals msg0).drop 0).take 10 = Message.vals msg0 from rfl] at r4
    go_wp2_with (first | (refine wpList_store_whole (by rfl) 81 _ _ (by rfl) w.heap.size msg0.vals _ b1 (by rfl) (by rfl) (by rfl) (by kernel_rfl) (Message.one _) ?_) | fail)
    refine ret_cells2 w.heap.size 0 msg0.vals (.int .i64 14) Tryz.results25 Tryz.underlying81 rfl (by kernel_rfl) rfl rfl (b1.whole (by rfl)).range rfl ?_
    exact ⟨by rw [show refG s.length f (s.drop 24) (s.drop 56) = (msg0, 14) by grind [refG]]; rfl, Below.setWhole HB.out (Nat.le_refl _) _⟩
  go_wp2_with fail
  refine (K.out 3 _ (by omega)).mono ?_
  rintro e wn ⟨rfl, hb⟩
  replace b1 := b1.stays hb
  replace b2 := b2.stays hb
  replace b3 := b3.stays hb
  skip
  replace HB := Lib.hid (below_then HB.out hb)
  clear hb
  by_cases e3 : f 3 < 0
  case pos =>
    have r4 := b2.row 0 10 (by simp [Message.len])
    rw [show ((Message.vals msg0).drop 0).take 10 = Message.vals msg0 from rfl] at r4
    go_wp2_with (first | (refine wpList_store_whole (by rfl) 81 _ _ (by rfl) w.heap.size msg0.vals _ b1 (by rfl) (by rfl) (by rfl) (by kernel_rfl) (Message.one _) ?_) | fail)
    refine ret_cells2 w.heap.size 0 msg0.vals (.int .i64 14) Tryz.results25 Tryz.underlying81 rfl (by kernel_rfl) rfl rfl (b1.whole (by rfl)).range rfl ?_
    exact ⟨by rw [show refG s.length f (s.drop 24) (s.drop 56) = (msg0, 14) by grind [refG]]; rfl, Below.setWhole HB.out (Nat.le_refl _) _⟩
  go_wp2_with fail
  refine (K.out 3 _ (by omega)).mono ?_
  rintro e wn ⟨rfl, hb⟩
  replace b1 := b1.stays hb
  replace b2 := b2.stays hb
  replace b3 := b3.stays hb
  skip
  replace HB := Lib.hid (below_then HB.out hb)
  clear hb
  by_cases e33 : f 3 = 100003
  case neg =>
    have c3 : wn.cell? ⟨mb, 8, none⟩ = some (.int .i64 0) := b3.cell 8
    have z3 := b3.frozen 8
    have b4 : Blk (wn.setCell ⟨mb, 8, none⟩ (.int .i64 1)) _ _ (Message.vals ⟨f 0, false, false, 0, cred0, 1, []⟩) := b3.set_ 8 (.int .i64 1)
    have b1 := b1.far (p := ⟨mb, 8, none⟩) n1 (.int .i64 1)
    have hB4 := HB.out.setCell (p := ⟨mb, 8, none⟩) hmb (.int .i64 1)
    have r4 := b4.row 0 10 (by simp [Message.len])
    rw [show ((Message.vals ⟨f 0, false, false, 0, cred0, 1, []⟩).drop 0).take 10 = Message.vals ⟨f 0, false, false, 0, cred0, 1, []⟩ from rfl] at r4
    go_wp2_with (first | (refine wpList_store_whole (by rfl) 81 _ _ (by rfl) w.heap.size (Message.vals ⟨f 0, false, false, 0, cred0, 1, []⟩) _ b1 (by rfl) (by rfl) (by rfl) (by kernel_rfl) (Message.one _) ?_) | fail)
    refine ret_cells2 w.heap.size 0 (Message.vals ⟨f 0, false, false, 0, cred0, 1, []⟩) (.int .i64 0) Tryz.results25 Tryz.underlying81 rfl (by kernel_rfl) rfl rfl (b1.whole (by rfl)).range rfl ?_
    exact ⟨by rw [show refG s.length f (s.drop 24) (s.drop 56) = (⟨f 0, false, false, 0, cred0, 1, []⟩, 0) by grind [refG]]; rfl, Below.setWhole hB4 (Nat.le_refl _) _⟩
  go_wp2_with fail
  refine (K.out 4 _ (by omega)).mono ?_
  rintro e wn ⟨rfl, hb⟩
  replace b1 := b1.stays hb
  replace b2 := b2.stays hb
  replace b3 := b3.stays hb
  skip
  replace HB := Lib.hid (below_then HB.out hb)
  clear hb
  by_cases e4 : f 4 < 0
  case pos =>
    have r4 := b2.row 0 10 (by simp [Message.len])
    rw [show ((Message.vals msg0).drop 0).take 10 = Message.vals msg0 from rfl] at r4
    go_wp2_with (first | (refine wpList_store_whole (by rfl) 81 _ _ (by rfl) w.heap.size msg0.vals _ b1 (by rfl) (by rfl) (by rfl) (by kernel_rfl) (Message.one _) ?_) | fail)
    refine ret_cells2 w.heap.size 0 msg0.vals (.int .i64 14) Tryz.results25 Tryz.underlying81 rfl (by kernel_rfl) rfl rfl (b1.whole (by rfl)).range rfl ?_
    exact ⟨by rw [show refG s.length f (s.drop 24) (s.drop 56) = (msg0, 14) by grind [refG]]; rfl, Below.setWhole HB.out (Nat.le_refl _) _⟩
  go_wp2_with fail
  refine (K.out 4 _ (by omega)).mono ?_
  rintro e wn ⟨rfl, hb⟩
  replace b1 := b1.stays hb
  replace b2 := b2.stays hb
  replace b3 := b3.stays hb
  skip
  replace HB := Lib.hid (below_then HB.out hb)
  clear hb
  by_cases e43 : f 4 = 3
  case neg =>
    have c3 : wn.cell? ⟨mb, 8, none⟩ = some (.int .i64 0) := b3.cell 8
    have z3 := b3.frozen 8
    have b4 : Blk (wn.setCell ⟨mb, 8, none⟩ (.int .i64 2)) _ _ (Message.vals ⟨f 0, false, false, 0, cred0, 2, []⟩) := b3.set_ 8 (.int .i64 2)
    have b1 := b1.far (p := ⟨mb, 8, none⟩) n1 (.int .i64 2)
    have hB4 := HB.out.setCell (p := ⟨mb, 8, none⟩) hmb (.int .i64 2)
    have r4 := b4.row 0 10 (by simp [Message.len])
    rw [show ((Message.vals ⟨f 0, false, false, 0, cred0, 2, []⟩).drop 0).take 10 = Message.vals ⟨f 0, false, false, 0, cred0, 2, []⟩ from rfl] at r4
    go_wp2_with (first | (refine wpList_store_whole (by rfl) 81 _ _ (by rfl) w.heap.size (Message.vals ⟨f 0, false, false, 0, cred0, 2, []⟩) _ b1 (by rfl) (by rfl) (by rfl) (by kernel_rfl) (Message.one _) ?_) | fail)
    refine ret_cells2 w.heap.size 0 (Message.vals ⟨f 0, false, false, 0, cred0, 2, []⟩) (.int .i64 0) Tryz.results25 Tryz.underlying81 rfl (by kernel_rfl) rfl rfl (b1.whole (by rfl)).range rfl ?_
    exact ⟨by rw [show refG s.length f (s.drop 24) (s.drop 56) = (⟨f 0, false, false, 0, cred0, 2, []⟩, 0) by grind [refG]]; rfl, Below.setWhole hB4 (Nat.le_refl _) _⟩
  go_wp2_with fail
  refine (K.out 13 _ (by omega)).mono ?_
  rintro e wn ⟨rfl, hb⟩
  replace b1 := b1.stays hb
  replace b2 := b2.stays hb
  replace b3 := b3.stays hb
  skip
  replace HB := Lib.hid (below_then HB.out hb)
  clear hb
  by_cases e13 : f 13 < 0
  case pos =>
    have r4 := b2.row 0 10 (by simp [Message.len])
    rw [show ((Message.vals msg0).drop 0).take 10 = Message.vals msg0 from rfl] at r4
    go_wp2_with (first | (refine wpList_store_whole (by rfl) 81 _ _ (by rfl) w.heap.size msg0.vals _ b1 (by rfl) (by rfl) (by rfl) (by kernel_rfl) (Message.one _) ?_) | fail)
    refine ret_cells2 w.heap.size 0 msg0.vals (.int .i64 14) Tryz.results25 Tryz.underlying81 rfl (by kernel_rfl) rfl rfl (b1.whole (by rfl)).range rfl ?_
    exact ⟨by rw [show refG s.length f (s.drop 24) (s.drop 56) = (msg0, 14) by grind [refG]]; rfl, Below.setWhole HB.out (Nat.le_refl _) _⟩
  go_wp2_with fail
  refine (K.out 5 _ (by omega)).mono ?_
  rintro e wn ⟨rfl, hb⟩
  replace b1 := b1.stays hb
  replace b2 := b2.stays hb
  replace b3 := b3.stays hb
  skip
  replace HB := Lib.hid (below_then HB.out hb)
  clear hb
  by_cases e5 : 21 < f 5
  case pos =>
    have c3 : wn.cell? ⟨mb, 8, none⟩ = some (.int .i64 0) := b3.cell 8
    have z3 := b3.frozen 8
    have b4 : Blk (wn.setCell ⟨mb, 8, none⟩ (.int .i64 3)) _ _ (Message.vals ⟨f 0, false, false, 0, cred0, 3, []⟩) := b3.set_ 8 (.int .i64 3)
    have b1 := b1.far (p := ⟨mb, 8, none⟩) n1 (.int .i64 3)
    have hB4 := HB.out.setCell (p := ⟨mb, 8, none⟩) hmb (.int .i64 3)
    have r4 := b4.row 0 10 (by simp [Message.len])
    rw [show ((Message.vals ⟨f 0, false, false, 0, cred0, 3, []⟩).drop 0).take 10 = Message.vals ⟨f 0, false, false, 0, cred0, 3, []⟩ from rfl] at r4
    go_wp2_with (first | (refine wpList_store_whole (by rfl) 81 _ _ (by rfl) w.heap.size (Message.vals ⟨f 0, false, false, 0, cred0, 3, []⟩) _ b1 (by rfl) (by rfl) (by rfl) (by kernel_rfl) (Message.one _) ?_) | fail)
    refine ret_cells2 w.heap.size 0 (Message.vals ⟨f 0, false, false, 0, cred0, 3, []⟩) (.int .i64 0) Tryz.results25 Tryz.underlying81 rfl (by kernel_rfl) rfl rfl (b1.whole (by rfl)).range rfl ?_
    exact ⟨by rw [show refG s.length f (s.drop 24) (s.drop 56) = (⟨f 0, false, false, 0, cred0, 3, []⟩, 0) by grind [refG]]; rfl, Below.setWhole hB4 (Nat.le_refl _) _⟩
  go_wp2_with fail
  refine (K.out 8 _ (by omega)).mono ?_
  rintro e wn ⟨rfl, hb⟩
  replace b1 := b1.stays hb
  replace b2 := b2.stays hb
  replace b3 := b3.stays hb
  skip
  replace HB := Lib.hid (below_then HB.out hb)
  clear hb
  go_wp2_with fail
  refine (K.out 9 _ (by omega)).mono ?_
  rintro e wn ⟨rfl, hb⟩
  replace b1 := b1.stays hb
  replace b2 := b2.stays hb
  replace b3 := b3.stays hb
  skip
  replace HB := Lib.hid (below_then HB.out hb)
  clear hb
  go_wp2_with fail
  refine (K.out 10 _ (by omega)).mono ?_
  rintro e wn ⟨rfl, hb⟩
  replace b1 := b1.stays hb
  replace b2 := b2.stays hb
  replace b3 := b3.stays hb
  skip
  replace HB := Lib.hid (below_then HB.out hb)
  clear hb
  go_wp2_with fail
  refine (K.out 11 _ (by omega)).mono ?_
  rintro e wn ⟨rfl, hb⟩
  replace b1 := b1.stays hb
  replace b2 := b2.stays hb
  replace b3 := b3.stays hb
  skip
  replace HB := Lib.hid (below_then HB.out hb)
  clear hb
  go_wp2_with fail
  obtain ⟨cb, hcbd⟩ : ∃ b, b = wn.heap.size := ⟨_, rfl⟩
  obtain ⟨wm, hwm⟩ : ∃ V, V = wn.alloc (.cells #[.int .i64 (f 8), .int .i64 (f 9), .int .i64 (f 10), .int .i64 (f 11)] 63) := ⟨_, rfl⟩
  rw [← hwm, ← hcbd]
  have b5 : Blk wm cb 63 (Cred.vals ⟨f 8, f 9, f 10, f 11⟩) := by rw [hwm, hcbd]; exact Blk.new _ _ _
  have hbm : Below wn.heap.size wn wm := by rw [hwm]; exact (Below.refl _ _).alloc (Nat.le_refl _) _
  have b1 := b1.stays hbm
  have b2 := b2.stays hbm
  have b3 := b3.stays hbm
  have HB := Lib.hid (below_then HB.out hbm)
  clear hwm hbm hcbd
  refine (K.out 6 _ (by omega)).mono ?_
  rintro e wn ⟨rfl, hb⟩
  replace b1 := b1.stays hb
  replace b2 := b2.stays hb
  replace b3 := b3.stays hb
  replace b5 := b5.stays hb
  replace HB := Lib.hid (below_then HB.out hb)
  clear hb
  by_cases e6 : f 6 = 1
  case neg =>
    have c3 : wn.cell? ⟨mb, 8, none⟩ = some (.int .i64 0) := b3.cell 8
    have z3 := b3.frozen 8
    have b4 : Blk (wn.setCell ⟨mb, 8, none⟩ (.int .i64 4)) _ _ (Message.vals ⟨f 0, false, false, 0, cred0, 4, []⟩) := b3.set_ 8 (.int .i64 4)
    have b1 := b1.far (p := ⟨mb, 8, none⟩) n1 (.int .i64 4)
    have hB4 := HB.out.setCell (p := ⟨mb, 8, none⟩) hmb (.int .i64 4)
    have r4 := b4.row 0 10 (by simp [Message.len])
    rw [show ((Message.vals ⟨f 0, false, false, 0, cred0, 4, []⟩).drop 0).take 10 = Message.vals ⟨f 0, false, false, 0, cred0, 4, []⟩ from rfl] at r4
    go_wp2_with (first | (refine wpList_store_whole (by rfl) 81 _ _ (by rfl) w.heap.size (Message.vals ⟨f 0, false, false, 0, cred0, 4, []⟩) _ b1 (by rfl) (by rfl) (by rfl) (by kernel_rfl) (Message.one _) ?_) | fail)
    refine ret_cells2 w.heap.size 0 (Message.vals ⟨f 0, false, false, 0, cred0, 4, []⟩) (.int .i64 0) Tryz.results25 Tryz.underlying81 rfl (by kernel_rfl) rfl rfl (b1.whole (by rfl)).range rfl ?_
    exact ⟨by rw [show refG s.length f (s.drop 24) (s.drop 56) = (⟨f 0, false, false, 0, cred0, 4, []⟩, 0) by grind [refG]]; rfl, Below.setWhole hB4 (Nat.le_refl _) _⟩
  go_wp2_with fail
  refine (K.out 7 _ (by omega)).mono ?_
  rintro e wn ⟨rfl, hb⟩
  replace b1 := b1.stays hb
  replace b2 := b2.stays hb
  replace b3 := b3.stays hb
  replace b5 := b5.stays hb
  replace HB := Lib.hid (below_then HB.out hb)
  clear hb
  by_cases e7 : f 7 = 16
  case neg =>
    have c3 : wn.cell? ⟨mb, 8, none⟩ = some (.int .i64 0) := b3.cell 8
    have z3 := b3.frozen 8
    have b4 : Blk (wn.setCell ⟨mb, 8, none⟩ (.int .i64 4)) _ _ (Message.vals ⟨f 0, false, false, 0, cred0, 4, []⟩) := b3.set_ 8 (.int .i64 4)
    have b1 := b1.far (p := ⟨mb, 8, none⟩) n1 (.int .i64 4)
    have hB4 := HB.out.setCell (p := ⟨mb, 8, none⟩) hmb (.int .i64 4)
    have r4 := b4.row 0 10 (by simp [Message.len])
    rw [show ((Message.vals ⟨f 0, false, false, 0, cred0, 4, []⟩).drop 0).take 10 = Message.vals ⟨f 0, false, false, 0, cred0, 4, []⟩ from rfl] at r4
    go_wp2_with (first | (refine wpList_store_whole (by rfl) 81 _ _ (by rfl) w.heap.size (Message.vals ⟨f 0, false, false, 0, cred0, 4, []⟩) _ b1 (by rfl) (by rfl) (by rfl) (by kernel_rfl) (Message.one _) ?_) | fail)
    refine ret_cells2 w.heap.size 0 (Message.vals ⟨f 0, false, false, 0, cred0, 4, []⟩) (.int .i64 0) Tryz.results25 Tryz.underlying81 rfl (by kernel_rfl) rfl rfl (b1.whole (by rfl)).range rfl ?_
    exact ⟨by rw [show refG s.length f (s.drop 24) (s.drop 56) = (⟨f 0, false, false, 0, cred0, 4, []⟩, 0) by grind [refG]]; rfl, Below.setWhole hB4 (Nat.le_refl _) _⟩
  go_wp2_with fail
  refine (K.out 12 _ (by omega)).mono ?_
  rintro e wn ⟨rfl, hb⟩
  replace b1 := b1.stays hb
  replace b2 := b2.stays hb
  replace b3 := b3.stays hb
  replace b5 := b5.stays hb
  replace HB := Lib.hid (below_then HB.out hb)
  clear hb
  by_cases e12 : f 12 = 0
  case neg =>
    have c3 : wn.cell? ⟨mb, 8, none⟩ = some (.int .i64 0) := b3.cell 8
    have z3 := b3.frozen 8
    have b4 : Blk (wn.setCell ⟨mb, 8, none⟩ (.int .i64 4)) _ _ (Message.vals ⟨f 0, false, false, 0, cred0, 4, []⟩) := b3.set_ 8 (.int .i64 4)
    have b1 := b1.far (p := ⟨mb, 8, none⟩) n1 (.int .i64 4)
    have hB4 := HB.out.setCell (p := ⟨mb, 8, none⟩) hmb (.int .i64 4)
    have r4 := b4.row 0 10 (by simp [Message.len])
    rw [show ((Message.vals ⟨f 0, false, false, 0, cred0, 4, []⟩).drop 0).take 10 = Message.vals ⟨f 0, false, false, 0, cred0, 4, []⟩ from rfl] at r4
    go_wp2_with (first | (refine wpList_store_whole (by rfl) 81 _ _ (by rfl) w.heap.size (Message.vals ⟨f 0, false, false, 0, cred0, 4, []⟩) _ b1 (by rfl) (by rfl) (by rfl) (by kernel_rfl) (Message.one _) ?_) | fail)
    refine ret_cells2 w.heap.size 0 (Message.vals ⟨f 0, false, false, 0, cred0, 4, []⟩) (.int .i64 0) Tryz.results25 Tryz.underlying81 rfl (by kernel_rfl) rfl rfl (b1.whole (by rfl)).range rfl ?_
    exact ⟨by rw [show refG s.length f (s.drop 24) (s.drop 56) = (⟨f 0, false, false, 0, cred0, 4, []⟩, 0) by grind [refG]]; rfl, Below.setWhole hB4 (Nat.le_refl _) _⟩
  go_wp2_with fail
  refine (K.out 13 _ (by omega)).mono ?_
  rintro e wn ⟨rfl, hb⟩
  replace b1 := b1.stays hb
  replace b2 := b2.stays hb
  replace b3 := b3.stays hb
  replace b5 := b5.stays hb
  replace HB := Lib.hid (below_then HB.out hb)
  clear hb
  by_cases e130 : f 13 = 0
  case neg =>
    have c3 : wn.cell? ⟨mb, 8, none⟩ = some (.int .i64 0) := b3.cell 8
    have z3 := b3.frozen 8
    have b4 : Blk (wn.setCell ⟨mb, 8, none⟩ (.int .i64 4)) _ _ (Message.vals ⟨f 0, false, false, 0, cred0, 4, []⟩) := b3.set_ 8 (.int .i64 4)
    have b1 := b1.far (p := ⟨mb, 8, none⟩) n1 (.int .i64 4)
    have hB4 := HB.out.setCell (p := ⟨mb, 8, none⟩) hmb (.int .i64 4)
    have r4 := b4.row 0 10 (by simp [Message.len])
    rw [show ((Message.vals ⟨f 0, false, false, 0, cred0, 4, []⟩).drop 0).take 10 = Message.vals ⟨f 0, false, false, 0, cred0, 4, []⟩ from rfl] at r4
    go_wp2_with (first | (refine wpList_store_whole (by rfl) 81 _ _ (by rfl) w.heap.size (Message.vals ⟨f 0, false, false, 0, cred0, 4, []⟩) _ b1 (by rfl) (by rfl) (by rfl) (by kernel_rfl) (Message.one _) ?_) | fail)
    refine ret_cells2 w.heap.size 0 (Message.vals ⟨f 0, false, false, 0, cred0, 4, []⟩) (.int .i64 0) Tryz.results25 Tryz.underlying81 rfl (by kernel_rfl) rfl rfl (b1.whole (by rfl)).range rfl ?_
    exact ⟨by rw [show refG s.length f (s.drop 24) (s.drop 56) = (⟨f 0, false, false, 0, cred0, 4, []⟩, 0) by grind [refG]]; rfl, Below.setWhole hB4 (Nat.le_refl _) _⟩
  have r5 := b5.row 0 4 (by simp [Cred.len])
  rw [show ((Cred.vals ⟨f 8, f 9, f 10, f 11⟩).drop 0).take 4 = Cred.vals ⟨f 8, f 9, f 10, f 11⟩ from rfl] at r5
  go_wp2_with fail
  refine (refOwner9_any ⟨f 8, f 9, f 10, f 11⟩ _).mono ?_
  rintro e wq ⟨rfl, hb⟩
  have b1 := b1.stays hb
  have b2 := b2.stays hb
  have b3 := b3.stays hb
  have b5 := b5.stays hb
  have HB := Lib.hid (below_then HB.out hb)
  clear hb r5
  cases hok : Cred.ok ⟨f 8, f 9, f 10, f 11⟩
  case false =>
    have c3 : wq.cell? ⟨mb, 8, none⟩ = some (.int .i64 0) := b3.cell 8
    have z3 := b3.frozen 8
    have b4 : Blk (wq.setCell ⟨mb, 8, none⟩ (.int .i64 4)) _ _ (Message.vals ⟨f 0, false, false, 0, cred0, 4, []⟩) := b3.set_ 8 (.int .i64 4)
    have b1 := b1.far (p := ⟨mb, 8, none⟩) n1 (.int .i64 4)
    have hB4 := HB.out.setCell (p := ⟨mb, 8, none⟩) hmb (.int .i64 4)
    have r4 := b4.row 0 10 (by simp [Message.len])
    rw [show ((Message.vals ⟨f 0, false, false, 0, cred0, 4, []⟩).drop 0).take 10 = Message.vals ⟨f 0, false, false, 0, cred0, 4, []⟩ from rfl] at r4
    go_wp2_with (first | (refine wpList_store_whole (by rfl) 81 _ _ (by rfl) w.heap.size (Message.vals ⟨f 0, false, false, 0, cred0, 4, []⟩) _ b1 (by rfl) (by rfl) (by rfl) (by kernel_rfl) (Message.one _) ?_) | fail)
    refine ret_cells2 w.heap.size 0 (Message.vals ⟨f 0, false, false, 0, cred0, 4, []⟩) (.int .i64 0) Tryz.results25 Tryz.underlying81 rfl (by kernel_rfl) rfl rfl (b1.whole (by rfl)).range rfl ?_
    exact ⟨by rw [show refG s.length f (s.drop 24) (s.drop 56) = (⟨f 0, false, false, 0, cred0, 4, []⟩, 0) by grind [refG]]; rfl, Below.setWhole hB4 (Nat.le_refl _) _⟩
  by_cases hm4 : s.length % 4 = 0
  case neg =>
    have hm1 : ¬ (s.length : Int) % 4 = 0 := by omega
    have hm2 : ¬ (s.length : Int).tmod 4 = 0 := by rw [Int.tmod_eq_emod_of_nonneg (by omega)]; exact hm1
    have c3 : wq.cell? ⟨mb, 8, none⟩ = some (.int .i64 0) := b3.cell 8
    have z3 := b3.frozen 8
    have b4 : Blk (wq.setCell ⟨mb, 8, none⟩ (.int .i64 4)) _ _ (Message.vals ⟨f 0, false, false, 0, cred0, 4, []⟩) := b3.set_ 8 (.int .i64 4)
    have b1 := b1.far (p := ⟨mb, 8, none⟩) n1 (.int .i64 4)
    have hB4 := HB.out.setCell (p := ⟨mb, 8, none⟩) hmb (.int .i64 4)
    have r4 := b4.row 0 10 (by simp [Message.len])
    rw [show ((Message.vals ⟨f 0, false, false, 0, cred0, 4, []⟩).drop 0).take 10 = Message.vals ⟨f 0, false, false, 0, cred0, 4, []⟩ from rfl] at r4
    go_wp2_with (first | (refine wpList_store_whole (by rfl) 81 _ _ (by rfl) w.heap.size (Message.vals ⟨f 0, false, false, 0, cred0, 4, []⟩) _ b1 (by rfl) (by rfl) (by rfl) (by kernel_rfl) (Message.one _) ?_) | fail)
    refine ret_cells2 w.heap.size 0 (Message.vals ⟨f 0, false, false, 0, cred0, 4, []⟩) (.int .i64 0) Tryz.results25 Tryz.underlying81 rfl (by kernel_rfl) rfl rfl (b1.whole (by rfl)).range rfl ?_
    exact ⟨by rw [show refG s.length f (s.drop 24) (s.drop 56) = (⟨f 0, false, false, 0, cred0, 4, []⟩, 0) by grind [refG]]; rfl, Below.setWhole hB4 (Nat.le_refl _) _⟩
  have hm1 : (s.length : Int) % 4 = 0 := by omega
  have hm2 : (s.length : Int).tmod 4 = 0 := by rw [Int.tmod_eq_emod_of_nonneg (by omega)]; exact hm1
  go_wp2_with fail
  refine (K.out 5 _ (by omega)).mono ?_
  rintro e wn ⟨rfl, hb⟩
  replace b1 := b1.stays hb
  replace b2 := b2.stays hb
  replace b3 := b3.stays hb
  replace b5 := b5.stays hb
  replace HB := Lib.hid (below_then HB.out hb)
  clear hb
  have l56 := h56 (by omega)
  have l56' : ¬ (s.length : Int) < 56 := by omega
  have hcd : (bs s).extract 56 s.length = bs (s.drop 56) := bs_drop _ _
  have c3 : wn.cell? ⟨mb, 3, none⟩ = some (.int .i64 0) := b3.cell 3
  have c4 : wn.cell? ⟨mb, 4, none⟩ = some (.int .i64 0) := b3.cell 4
  have c5 : wn.cell? ⟨mb, 5, none⟩ = some (.int .i64 0) := b3.cell 5
  have c6 : wn.cell? ⟨mb, 6, none⟩ = some (.int .i64 0) := b3.cell 6
  have c7 : wn.cell? ⟨mb, 7, none⟩ = some (.int .i64 0) := b3.cell 7
  have c9 : wn.cell? ⟨mb, 9, none⟩ = some (.string (bs [])) := b3.cell 9
  have z3 := b3.frozen 3
  have z4 := b3.frozen 4
  have z5 := b3.frozen 5
  have z6 := b3.frozen 6
  have z7 := b3.frozen 7
  have z9 := b3.frozen 9
  have nc := b3.ne_ b5 (by decide)
  have nc' : ¬ cb = mb := fun e => nc e.symm
  have r5 : rowOf (wn.setCell ⟨mb, 3, none⟩ (.int .i64 (f 5))) cb 0 4 = some #[.int .i64 (f 8), .int .i64 (f 9), .int .i64 (f 10), .int .i64 (f 11)] := by rw [rowOf_setCell_far _ _ _ _ _ nc']; exact b5.row 0 4 (by simp [Cred.len])
  go_upto_region 39 with fail
  have b4y := ((((((b3.set_ 3 (.int .i64 (f 5))).set_ 4 (.int .i64 (f 8))).set_ 5 (.int .i64 (f 9))).set_ 6 (.int .i64 (f 10))).set_ 7 (.int .i64 (f 11))).set_ 9 (.string (bs (s.drop 56))))
  have b4 : Blk ((((((wn.setCell ⟨mb, 3, none⟩ (.int .i64 (f 5))).setCell ⟨mb, 4, none⟩ (.int .i64 (f 8))).setCell ⟨mb, 5, none⟩ (.int .i64 (f 9))).setCell ⟨mb, 6, none⟩ (.int .i64 (f 10))).setCell ⟨mb, 7, none⟩ (.int .i64 (f 11))).setCell ⟨mb, 9, none⟩ (.string (bs (s.drop 56)))) mb 81 (Message.vals ⟨f 0, false, false, f 5, ⟨f 8, f 9, f 10, f 11⟩, 0, s.drop 56⟩) := b4y
  have b1 := ((((((b1.far (p := ⟨mb, 3, none⟩) n1 (.int .i64 (f 5))).far (p := ⟨mb, 4, none⟩) n1 (.int .i64 (f 8))).far (p := ⟨mb, 5, none⟩) n1 (.int .i64 (f 9))).far (p := ⟨mb, 6, none⟩) n1 (.int .i64 (f 10))).far (p := ⟨mb, 7, none⟩) n1 (.int .i64 (f 11))).far (p := ⟨mb, 9, none⟩) n1 (.string (bs (s.drop 56))))
  have hB4 := ((((((HB.out.setCell (p := ⟨mb, 3, none⟩) hmb (.int .i64 (f 5))).setCell (p := ⟨mb, 4, none⟩) hmb (.int .i64 (f 8))).setCell (p := ⟨mb, 5, none⟩) hmb (.int .i64 (f 9))).setCell (p := ⟨mb, 6, none⟩) hmb (.int .i64 (f 10))).setCell (p := ⟨mb, 7, none⟩) hmb (.int .i64 (f 11))).setCell (p := ⟨mb, 9, none⟩) hmb (.string (bs (s.drop 56))))
  obtain ⟨wz, hwz⟩ : ∃ V, V = ((((((wn.setCell ⟨mb, 3, none⟩ (.int .i64 (f 5))).setCell ⟨mb, 4, none⟩ (.int .i64 (f 8))).setCell ⟨mb, 5, none⟩ (.int .i64 (f 9))).setCell ⟨mb, 6, none⟩ (.int .i64 (f 10))).setCell ⟨mb, 7, none⟩ (.int .i64 (f 11))).setCell ⟨mb, 9, none⟩ (.string (bs (s.drop 56)))) := ⟨_, rfl⟩
  rw [← hwz] at b1 b4 hB4 ⊢
  clear b4y b3 hwz r5 c3 c4 c5 c6 c7 c9 z3 z4 z5 z6 z7 z9
  have r4 := b4.row 0 10 (by simp [Message.len])
  rw [show ((Message.vals ⟨f 0, false, false, f 5, ⟨f 8, f 9, f 10, f 11⟩, 0, s.drop 56⟩).drop 0).take 10 = Message.vals ⟨f 0, false, false, f 5, ⟨f 8, f 9, f 10, f 11⟩, 0, s.drop 56⟩ from rfl] at r4
  go_wp2_with (first | (refine wpList_store_whole (by rfl) 81 _ _ (by rfl) w.heap.size (Message.vals ⟨f 0, false, false, f 5, ⟨f 8, f 9, f 10, f 11⟩, 0, s.drop 56⟩) _ b1 (by rfl) (by rfl) (by rfl) (by kernel_rfl) (Message.one _) ?_) | fail)
  refine ret_cells2 w.heap.size 0 (Message.vals ⟨f 0, false, false, f 5, ⟨f 8, f 9, f 10, f 11⟩, 0, s.drop 56⟩) (.int .i64 0) Tryz.results25 Tryz.underlying81 rfl (by kernel_rfl) rfl rfl (b1.whole (by rfl)).range rfl ?_
  exact ⟨by rw [show refG s.length f (s.drop 24) (s.drop 56) = (⟨f 0, false, false, f 5, ⟨f 8, f 9, f 10, f 11⟩, 0, s.drop 56⟩, 0) by grind [refG]]; rfl, Below.setWhole hB4 (Nat.le_refl _) _⟩
end Go.Proofs.YtfjflkmhhbhceaaGreatDoor

/-
  Layer 9, walks: the document's Get (written by wip/tools/genrefget9.py). No condition.
-/
namespace Go.Proofs.YtfjflkmhhbhceaaGreatDoor
open Go.RowKit
attribute [local go_sem ↓] Go.wp_at_zero Go.wp_at_succ
attribute [local go_sem] rowAt_ptr rowOf_drew rowOf_drewN rowOf_alloc_past rowOf_new
attribute [local go_sem] Message.at0 Message.lat0 Message.at1 Message.lat1 Message.at2 Message.lat2 Message.at3 Message.lat3 Message.at4 Message.lat4 Message.at5 Message.lat5 Message.at6 Message.lat6 Message.at7 Message.lat7 Message.at8 Message.lat8 Message.at9 Message.lat9 Message.sub0_10 Message.lsub0_10 Message.sub4_4 Message.lsub4_4 Message.len Cred.at0 Cred.lat0 Cred.at1 Cred.lat1 Cred.at2 Cred.lat2 Cred.at3 Cred.lat3 Cred.sub0_4 Cred.lsub0_4 Cred.len

attribute [local go_sem ↓] ldMessage ldCred

set_option maxRecDepth 20000 in
set_option maxHeartbeats 4000000 in
theorem refGet9_any (s : List UInt8) (w : World) : Calls Tryz.prog 25 #[.string (bs s)] w fun e w' => e = .returned (gotV9 (refG s.length (atV s) (s.drop 24) (s.drop 56))) ∧ Below w.heap.size w w' := by
  have hz := bs_size s
  by_cases hlen0 : 2048 < s.length
  case neg =>
    by_cases h1 : atV s 1 = 1
    · exact refGet9_ans s w hlen0 h1
    by_cases h0 : atV s 1 = 0
    · exact refGet9_call s w hlen0 h0
    have HG := Lib.hid (show refG s.length (atV s) (s.drop 24) (s.drop 56) = (msg0, 14) by simp [refG, hlen0, h1, h0])
    obtain ⟨f, hf⟩ : ∃ f, f = atV s := ⟨_, rfl⟩
    rw [← hf]
    have K : s.length ≤ 2048 → ∀ (i : Nat) (W : World), i ≤ 100 → Calls Tryz.prog 51 #[.string (bs s), .int .i64 i] W fun e w' => e = .returned (.int .i64 (f i)) ∧ Below W.heap.size W w' := fun hl i W hi => by rw [hf]; exact at9_any s i W hl hi
    have h24 : 0 ≤ f 5 → 24 ≤ s.length := fun h => by rw [hf] at h; unfold atV at h; split at h <;> omega
    have h56 : 0 ≤ f 13 → 56 ≤ s.length := fun h => by rw [hf] at h; unfold atV at h; split at h <;> omega
    have n11 : ¬ f 1 = 1 := by rw [hf]; exact h1
    have n10 : ¬ f 1 = 0 := by rw [hf]; exact h0
    have m11 : (f 1 != 1) = true := by simpa using n11
    have m10 : (f 1 != 0) = true := by simpa using n10
    rw [← hf] at HG
    clear hf h0 h1
    obtain ⟨b1, b2, hB0, _⟩ := chain2_blks w msg0.vals msg0.vals 81 81
    obtain ⟨w0, hw0⟩ : ∃ V, V = (w.alloc (.cells #[.int .i64 0, .bool false, .bool false, .int .i64 0, .int .i64 0, .int .i64 0, .int .i64 0, .int .i64 0, .int .i64 0, .string ⟨#[]⟩] 81)).alloc (.cells #[.int .i64 0, .bool false, .bool false, .int .i64 0, .int .i64 0, .int .i64 0, .int .i64 0, .int .i64 0, .int .i64 0, .string ⟨#[]⟩] 81) := ⟨_, rfl⟩
    replace b1 : Blk w0 w.heap.size 81 msg0.vals := by rw [hw0]; exact b1
    replace b2 : Blk w0 (w.heap.size + 1) 81 msg0.vals := by rw [hw0]; exact b2
    replace hB0 : Below w.heap.size w w0 := by rw [hw0]; exact hB0
    have HB := Lib.hid hB0
    have HW := Lib.hid hw0
    clear hB0 hw0
    go_enter Tryz.func25, Tryz.ntmps25
    go_upto_region 2 with fail
    rw [← HW.out]
    have hlen' : ¬ (2048 : Int) < s.length := by omega
    have K := Lib.hid (K (by omega))
    go_wp2_with fail
    refine (K.out 1 _ (by omega)).mono ?_
    rintro e wn ⟨rfl, hb⟩
    replace b1 := b1.stays hb
    replace b2 := b2.stays hb
    skip
    skip
    replace HB := Lib.hid (below_then HB.out hb)
    clear hb
    have r4 := b2.row 0 10 (by simp [Message.len])
    rw [show ((Message.vals msg0).drop 0).take 10 = Message.vals msg0 from rfl] at r4
    go_wp2_with (first | (refine wpList_store_whole (by rfl) 81 _ _ (by rfl) w.heap.size msg0.vals _ b1 (by rfl) (by rfl) (by rfl) (by kernel_rfl) (Message.one _) ?_) | fail)
    refine ret_cells2 w.heap.size 0 msg0.vals (.int .i64 14) Tryz.results25 Tryz.underlying81 rfl (by kernel_rfl) rfl rfl (b1.whole (by rfl)).range rfl ?_
    exact ⟨by rw [show refG s.length f (s.drop 24) (s.drop 56) = (msg0, 14) by rw [HG.out]]; rfl, Below.setWhole HB.out (Nat.le_refl _) _⟩
  obtain ⟨f, hf⟩ : ∃ f, f = atV s := ⟨_, rfl⟩
  rw [← hf]
  have K : s.length ≤ 2048 → ∀ (i : Nat) (W : World), i ≤ 100 → Calls Tryz.prog 51 #[.string (bs s), .int .i64 i] W fun e w' => e = .returned (.int .i64 (f i)) ∧ Below W.heap.size W w' := fun hl i W hi => by rw [hf]; exact at9_any s i W hl hi
  have h24 : 0 ≤ f 5 → 24 ≤ s.length := fun h => by rw [hf] at h; unfold atV at h; split at h <;> omega
  have h56 : 0 ≤ f 13 → 56 ≤ s.length := fun h => by rw [hf] at h; unfold atV at h; split at h <;> omega
  clear hf
  obtain ⟨b1, b2, hB0, _⟩ := chain2_blks w msg0.vals msg0.vals 81 81
  obtain ⟨w0, hw0⟩ : ∃ V, V = (w.alloc (.cells #[.int .i64 0, .bool false, .bool false, .int .i64 0, .int .i64 0, .int .i64 0, .int .i64 0, .int .i64 0, .int .i64 0, .string ⟨#[]⟩] 81)).alloc (.cells #[.int .i64 0, .bool false, .bool false, .int .i64 0, .int .i64 0, .int .i64 0, .int .i64 0, .int .i64 0, .int .i64 0, .string ⟨#[]⟩] 81) := ⟨_, rfl⟩
  replace b1 : Blk w0 w.heap.size 81 msg0.vals := by rw [hw0]; exact b1
  replace b2 : Blk w0 (w.heap.size + 1) 81 msg0.vals := by rw [hw0]; exact b2
  replace hB0 : Below w.heap.size w w0 := by rw [hw0]; exact hB0
  have HB := Lib.hid hB0
  have HW := Lib.hid hw0
  clear hB0 hw0
  go_enter Tryz.func25, Tryz.ntmps25
  go_upto_region 2 with fail
  rw [← HW.out]
  have hlen := hlen0
  have hlen' : (2048 : Int) < s.length := by omega
  have r4 := b2.row 0 10 (by simp [Message.len])
  rw [show ((Message.vals msg0).drop 0).take 10 = Message.vals msg0 from rfl] at r4
  go_wp2_with (first | (refine wpList_store_whole (by rfl) 81 _ _ (by rfl) w.heap.size msg0.vals _ b1 (by rfl) (by rfl) (by rfl) (by kernel_rfl) (Message.one _) ?_) | fail)
  refine ret_cells2 w.heap.size 0 msg0.vals (.int .i64 4) Tryz.results25 Tryz.underlying81 rfl (by kernel_rfl) rfl rfl (b1.whole (by rfl)).range rfl ?_
  exact ⟨by rw [show refG s.length f (s.drop 24) (s.drop 56) = (msg0, 4) by grind [refG]]; rfl, Below.setWhole HB.out (Nat.le_refl _) _⟩
end Go.Proofs.YtfjflkmhhbhceaaGreatDoor


/-
  Layer 9 in plain words: the program and the document read the same; what is laid comes back. No condition.
-/
namespace Go.Proofs.YtfjflkmhhbhceaaGreatDoor

theorem filled_whole {l : List UInt8} (h : l.length % 4 = 0) : filled l = l := by
  have hp : padn l.length = 0 := by unfold padn; omega
  simp [filled, hp]
theorem raw_bytes {m : Message} (h : m.body.length % 4 = 0) : m.raw = m.bytes := by rw [Message.raw, Message.bytes, filled_whole h]
theorem raw_len (m : Message) : m.raw.length = 4 * m.nums.length + m.body.length := by rw [Message.raw, List.length_append, nums4_len]
theorem nums_len (m : Message) : m.nums.length = if m.answer then 6 else 14 := by unfold Message.nums; split <;> rfl
theorem fit_bad (m : Message) : m.fit = !m.bad := by
  by_cases hb : m.body.length % 4 = 0
  · have h1 : m.bytes.length = (if m.answer then 24 else 56) + m.body.length := by
      rw [← raw_bytes hb, raw_len, nums_len]; split <;> rfl
    unfold Message.bad
    rw [h1]
    obtain ⟨xid, answer, again, proc, cred, accept, body⟩ := m
    simp only at hb
    rw [Bool.eq_iff_iff]
    cases answer
    · simp [Message.fit, Message.may, thereP, hb]
      grind
    · simp [Message.fit, Message.may, hb]
      grind
  · have hb' : (m.body.length % 4 == 0) = false := by simpa using hb
    simp [Message.fit, Message.bad, Message.may, hb']
theorem fit_may {m : Message} (h : m.fit = true) : m.may = true := by
  rw [fit_bad] at h
  unfold Message.bad at h
  grind
/-- the document's Get is the program's -/
theorem refG_get (s : List UInt8) : refG s.length (atV s) (s.drop 24) (s.drop 56) = getM9 s := by
  by_cases h0 : 2048 < s.length
  · simp [refG, getM9, h0]
  obtain ⟨v, hv⟩ : ∃ v : Nat → Nat, ∀ i, wd (s.drop (4 * i)) = v i := ⟨_, fun _ => rfl⟩
  have hv0 : wd s = v 0 := hv 0
  have hv1 : wd (s.drop 4) = v 1 := hv 1
  have hd : (s.drop 8).length = s.length - 8 := by simp
  have hg : (fun k => wd ((s.drop 8).drop (4 * k))) = fun k => v (k + 2) := funext fun k => by rw [← hv, List.drop_drop]; congr 2; omega
  have hr1 : (s.drop 8).drop 48 = s.drop 56 := by rw [List.drop_drop]
  have hr2 : (s.drop 8).drop 16 = s.drop 24 := by rw [List.drop_drop]
  have hf : ∀ i, atV s i = if s.length < 4 * i + 4 then -1 else (v i : Int) := fun i => by rw [← hv]; rfl
  generalize hat : atV s = f at hf ⊢
  have f0 := hf 0
  have f1 := hf 1
  have f2 := hf 2
  have f3 := hf 3
  have f4 := hf 4
  have f5 := hf 5
  have f6 := hf 6
  have f7 := hf 7
  have f8 := hf 8
  have f9 := hf 9
  have f10 := hf 10
  have f11 := hf 11
  have f12 := hf 12
  have f13 := hf 13
  clear hf
  simp only [Nat.reduceMul, Nat.reduceAdd] at f0 f1 f2 f3 f4 f5 f6 f7 f8 f9 f10 f11 f12 f13
  unfold getM9
  rw [hv0, hv1, hd, hg, hr1, hr2, if_neg h0]
  have hlen24 : 24 ≤ s.length → (s.drop 24).length = s.length - 24 := fun _ => by simp
  generalize s.drop 56 = r56 at *
  generalize s.drop 24 = r24 at *
  generalize s.length = n at *
  clear hv0 hv1 hd hg hr1 hr2 hv hat
  by_cases h8 : n < 8
  · have : f 1 = -1 := by rw [f1, if_pos h8]
    simp [refG, h0, h8, this]
  rw [if_neg h8]
  rw [if_neg (by omega)] at f0 f1
  by_cases k0 : v 1 = 0
  · rw [if_pos k0]
    have e1 : f 1 = 0 := by omega
    have hR : refG n f r24 r56 = if f 2 ≠ 2 ∨ f 3 < 0 then (msg0, 14) else if f 3 ≠ 100003 then (⟨f 0, false, false, 0, cred0, 1, []⟩, 0) else if f 4 < 0 then (msg0, 14)
        else if f 4 ≠ 3 then (⟨f 0, false, false, 0, cred0, 2, []⟩, 0) else if f 13 < 0 then (msg0, 14) else if 21 < f 5 then (⟨f 0, false, false, 0, cred0, 3, []⟩, 0)
        else if f 6 ≠ 1 ∨ f 7 ≠ 16 ∨ f 12 ≠ 0 ∨ f 13 ≠ 0 ∨ Cred.ok ⟨f 8, f 9, f 10, f 11⟩ = false ∨ n % 4 ≠ 0 then (⟨f 0, false, false, 0, cred0, 4, []⟩, 0)
        else (⟨f 0, false, false, f 5, ⟨f 8, f 9, f 10, f 11⟩, 0, r56⟩, 0) := by
      simp [refG, h0, e1]
    rw [hR, f0]
    clear hR
    unfold calledG
    simp only [Nat.reduceAdd, Nat.zero_add]
    by_cases h12 : n < 12
    · rw [if_pos h12] at f2
      rw [if_pos (by omega), if_pos (by omega)]
      rfl
    rw [if_neg h12] at f2
    rw [if_neg (show ¬ n - 8 < 4 by omega)]
    by_cases k2 : v 2 = 2
    case neg => rw [if_pos (by omega), if_pos k2]; rfl
    rw [if_neg (show ¬ v 2 ≠ 2 by omega)]
    by_cases h16 : n < 16
    · rw [if_pos h16] at f3
      rw [if_pos (by omega), if_pos (by omega)]
      rfl
    rw [if_neg h16] at f3
    rw [if_neg (by omega), if_neg (show ¬ n - 8 < 8 by omega)]
    by_cases k3 : v 3 = 100003
    case neg => rw [if_pos (by omega), if_pos k3]; rfl
    rw [if_neg (by omega), if_neg (show ¬ v 3 ≠ 100003 by omega)]
    by_cases h20 : n < 20
    · rw [if_pos h20] at f4
      rw [if_pos (by omega), if_pos (by omega)]
      rfl
    rw [if_neg h20] at f4
    rw [if_neg (by omega), if_neg (show ¬ n - 8 < 12 by omega)]
    by_cases k4 : v 4 = 3
    case neg => rw [if_pos (by omega), if_pos k4]; rfl
    rw [if_neg (by omega), if_neg (show ¬ v 4 ≠ 3 by omega)]
    by_cases h56 : n < 56
    · rw [if_pos h56] at f13
      rw [if_pos (by omega), if_pos (by omega)]
      rfl
    rw [if_neg h56] at f13
    rw [if_neg (by omega)] at f5 f6 f7 f8 f9 f10 f11 f12
    rw [if_neg (by omega), if_neg (show ¬ n - 8 < 48 by omega)]
    have hth : thereP (v 5 : Int) = !decide (21 < (v 5 : Int)) := by rw [Bool.eq_iff_iff]; simp [thereP]
    rw [hth, f5, f6, f7, f8, f9, f10, f11, f12, f13]
    by_cases k5 : 21 < (v 5 : Int)
    · simp [k5, gotM9]
    have hm : (n - 8) % 4 = n % 4 := by omega
    simp only [k5, hm, decide_false, Bool.not_false, if_false]
    grind [gotM9]
  rw [if_neg k0]
  by_cases k1 : v 1 = 1
  · rw [if_pos k1]
    have e1 : f 1 = 1 := by omega
    have hR : refG n f r24 r56 = if f 2 ≠ 0 ∨ f 3 < 0 ∨ 1 < f 3 ∨ f 4 ≠ 0 ∨ f 5 < 0 then (msg0, 14)
        else if Message.fit ⟨f 0, true, f 3 == 1, 0, cred0, f 5, r24⟩ then (⟨f 0, true, f 3 == 1, 0, cred0, f 5, r24⟩, 0) else (msg0, 14) := by
      simp [refG, h0, e1]
    rw [hR, f0]
    clear hR
    unfold answeredG
    by_cases h24 : n < 24
    · rw [if_pos h24] at f5
      rw [if_pos (by omega), if_pos (by omega)]
      rfl
    rw [if_neg h24] at f5
    rw [if_neg (by omega)] at f2 f3 f4
    rw [if_neg (show ¬ n - 8 < 16 by omega), f2, f3, f4, f5]
    have hl := hlen24 (by omega)
    have hbe : ((v 3 : Int) == 1) = (v 3 == 1) := by rw [Bool.eq_iff_iff]; simp; omega
    have hm : (n - 8) % 4 = r24.length % 4 := by omega
    have hfm : n % 4 = 0 → Message.fit ⟨v 0, true, v 3 == 1, 0, cred0, v 5, r24⟩ = Message.may ⟨v 0, true, v 3 == 1, 0, cred0, v 5, r24⟩ := fun h => by
      have hrl : r24.length % 4 = 0 := by omega
      simp [Message.fit, Message.may, hrl]
      grind
    have hf4 : ¬ n % 4 = 0 → Message.fit ⟨v 0, true, v 3 == 1, 0, cred0, v 5, r24⟩ = false := fun h => by
      have hrl : (r24.length % 4 == 0) = false := by simp; omega
      simp [Message.fit, hrl]
    rw [hbe]
    have e0 : (0 + 2) = 2 := rfl
    have e1 : (1 + 2) = 3 := rfl
    have e2 : (2 + 2) = 4 := rfl
    have e3 : (3 + 2) = 5 := rfl
    simp only [e0, e1, e2, e3]
    grind [gotM9]
  rw [if_neg k1]
  have e0 : ¬ f 1 = 0 := by omega
  have e1 : ¬ f 1 = 1 := by omega
  simp [refG, h0, e0, e1]
theorem wd_num (n : Nat) (r : List UInt8) (h : n < 4294967296) : wd (num n 4 ++ r) = n := by
  unfold wd
  rw [List.take_append_of_le_length (by rw [num_len]; omega), List.take_of_length_le (by rw [num_len]; omega), beVal_num n 4 h]
theorem nums4_cons (a : Int) (l : List Int) : nums4 (a :: l) = num a.toNat 4 ++ nums4 l := by simp [nums4]
theorem wd_nums : ∀ (l : List Int) (r : List UInt8) (i : Nat) (hi : i < l.length), in32 l = true → wd ((nums4 l ++ r).drop (4 * i)) = (l[i]).toNat
  | [], _, _, hi, _ => by simp at hi
  | a :: l, r, 0, _, h => by
    have h0 := in32_get h (k := 0) (by simp)
    simp only [List.getElem_cons_zero] at h0
    rw [nums4_cons, List.append_assoc, Nat.mul_zero, List.drop_zero, List.getElem_cons_zero]
    exact wd_num _ _ (by omega)
  | a :: l, r, i + 1, hi, h => by
    have hl : in32 l = true := by simp [in32] at h ⊢; exact h.2
    have hd : (nums4 (a :: l) ++ r).drop (4 * (i + 1)) = (nums4 l ++ r).drop (4 * i) := by
      rw [nums4_cons, List.append_assoc, show 4 * (i + 1) = 4 + 4 * i by omega, ← List.drop_drop, List.drop_left' (by rw [num_len])]
    rw [hd, List.getElem_cons_succ]
    exact wd_nums l r i (by simpa using hi) hl
theorem nums4_drop (l : List Int) (r : List UInt8) {k : Nat} (hk : k = 4 * l.length) : (nums4 l ++ r).drop k = r := List.drop_left' (by rw [nums4_len, hk])
theorem get_back {m : Message} (h : m.fit = true) : getM9 m.raw = (m, 0) := by
  have hm := fit_may h
  have hmay := hm
  have h32 := may_in32 hm
  have hb := may_body hm
  have hn := raw_len m
  have hw := fun i hi => wd_nums m.nums m.body i hi h32
  have hdr := fun k hk => nums4_drop m.nums m.body (k := k) hk
  rw [nums_len] at hn
  change m.raw.length = _ at hn
  change ∀ i hi, wd (m.raw.drop (4 * i)) = _ at hw
  change ∀ k hk, m.raw.drop k = m.body at hdr
  generalize m.raw = s at *
  obtain ⟨xid, answer, again, proc, cred, accept, body⟩ := m
  have hd8 : (s.drop 8).length = s.length - 8 := by simp
  cases answer
  · simp only [Message.nums, Bool.false_eq_true, if_false, List.length_cons, List.length_nil] at hw hdr hn hb
    simp [Message.may, num32, Cred.ok, thereP] at hm
    simp [Message.fit] at h
    have w0 : wd s = xid.toNat := hw 0 (by omega)
    have w1 : wd (s.drop 4) = 0 := hw 1 (by omega)
    have w : ∀ i (hi : i + 2 < 14), wd ((s.drop 8).drop (4 * i)) = (([xid, 0, 2, 100003, 3, proc, 1, 16, cred.client, cred.seq, cred.uid, cred.gid, 0, 0] : List Int)[i + 2]).toNat := fun i hi => by
      rw [List.drop_drop, show 8 + 4 * i = 4 * (i + 2) by omega]; exact hw (i + 2) hi
    have x0 := w 0 (by omega)
    have x1 := w 1 (by omega)
    have x2 := w 2 (by omega)
    have x3 := w 3 (by omega)
    have x4 := w 4 (by omega)
    have x5 := w 5 (by omega)
    have x6 := w 6 (by omega)
    have x7 := w 7 (by omega)
    have x8 := w 8 (by omega)
    have x9 := w 9 (by omega)
    have x10 := w 10 (by omega)
    have x11 := w 11 (by omega)
    have d48 : (s.drop 8).drop 48 = body := by rw [List.drop_drop]; exact hdr 56 (by omega)
    simp at x0 x1 x2 x3 x4 x5 x6 x7 x8 x9 x10 x11
    have hn' : s.length = 56 + body.length := by simpa using hn
    obtain ⟨cl, sq, ui, gi⟩ := cred
    simp only at hm h x6 x7 x8 x9
    have t0 : ((xid.toNat : Nat) : Int) = xid := by omega
    have t3 : ((proc.toNat : Nat) : Int) = proc := by omega
    have t6 : ((cl.toNat : Nat) : Int) = cl := by omega
    have t7 : ((sq.toNat : Nat) : Int) = sq := by omega
    have t8 : ((ui.toNat : Nat) : Int) = ui := by omega
    have t9 : ((gi.toNat : Nat) : Int) = gi := by omega
    have hth : thereP proc = true := by simp [thereP]; omega
    have hok : Cred.ok ⟨cl, sq, ui, gi⟩ = true := by simp [Cred.ok, num32]; omega
    have a1 : ¬ s.length - 8 < 4 := by omega
    have a2 : ¬ s.length - 8 < 8 := by omega
    have a3 : ¬ s.length - 8 < 12 := by omega
    have a4 : ¬ s.length - 8 < 48 := by omega
    have a5 : (s.length - 8) % 4 = 0 := by omega
    rw [getM9, if_neg (by omega), if_neg (by omega), w1, if_pos rfl, w0, hd8, d48]
    simp only [List.drop_drop] at *
    simp [calledG, x0, x1, x2, x3, x4, x5, x6, x7, x8, x9, x10, x11, t0, t3, t6, t7, t8, t9, hth, hok, a1, a2, a3, a4, a5, gotM9]
    grind
  · simp only [Message.nums, if_true, List.length_cons, List.length_nil] at hw hdr hn hb
    simp [Message.may, num32, cred0] at hm
    simp [Message.fit] at h
    have w0 : wd s = xid.toNat := hw 0 (by omega)
    have w1 : wd (s.drop 4) = 1 := hw 1 (by omega)
    have w : ∀ i (hi : i + 2 < 6), wd ((s.drop 8).drop (4 * i)) = (([xid, 1, 0, if again = true then 1 else 0, 0, accept] : List Int)[i + 2]).toNat := fun i hi => by
      rw [List.drop_drop, show 8 + 4 * i = 4 * (i + 2) by omega]; exact hw (i + 2) hi
    have x0 := w 0 (by omega)
    have x1 := w 1 (by omega)
    have x2 := w 2 (by omega)
    have x3 := w 3 (by omega)
    have d48 : (s.drop 8).drop 16 = body := by rw [List.drop_drop]; exact hdr 24 (by omega)
    simp at x0 x1 x2 x3
    have hn' : s.length = 24 + body.length := by simpa using hn
    have t0 : ((xid.toNat : Nat) : Int) = xid := by omega
    have t3 : ((accept.toNat : Nat) : Int) = accept := by omega
    have a1 : ¬ s.length - 8 < 16 := by omega
    have a5 : (s.length - 8) % 4 = 0 := by omega
    rw [getM9, if_neg (by omega), if_neg (by omega), w1, if_neg (by omega), if_pos rfl, w0, hd8, d48]
    simp only [List.drop_drop] at *
    obtain ⟨_, _, rfl, hc, _⟩ := hm
    have hc : cred = cred0 := of_decide_eq_true hc
    subst hc
    cases again <;> simp [answeredG, x0, x1, x2, x3, t0, t3, a1, a5, gotM9, hmay]
end Go.Proofs.YtfjflkmhhbhceaaGreatDoor

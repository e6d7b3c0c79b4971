/-
  Layer 9, walks: the document's Get (written by wip/tools/genrefget9.py). No condition.
-/
import Derived.Test.YtlblenojhfeboaaDoorRpcWalkJ
import Derived.Test.YtlblenojhfeboaaDoorRpcWalkK
namespace Go.Proofs.YtlblenojhfeboaaDoor
open Go.RowKit
attribute [local go_sem ↓] Go.wp_at_zero Go.wp_at_succ
attribute [local go_sem] rowAt_ptr rowOf_drew rowOf_drewN rowOf_alloc_past rowOf_new
attribute [local go_sem] Message.at0 Message.lat0 Message.at1 Message.lat1 Message.at2 Message.lat2 Message.at3 Message.lat3 Message.at4 Message.lat4 Message.at5 Message.lat5 Message.at6 Message.lat6 Message.at7 Message.lat7 Message.at8 Message.lat8 Message.at9 Message.lat9 Message.sub0_10 Message.lsub0_10 Message.sub4_4 Message.lsub4_4 Message.len Cred.at0 Cred.lat0 Cred.at1 Cred.lat1 Cred.at2 Cred.lat2 Cred.at3 Cred.lat3 Cred.sub0_4 Cred.lsub0_4 Cred.len

attribute [local go_sem ↓] ldMessage ldCred

set_option maxRecDepth 20000 in
set_option maxHeartbeats 4000000 in
theorem refGet9_any (s : List UInt8) (w : World) : Calls Tryd.prog 30 #[.string (bs s)] w fun e w' => e = .returned (gotV (refG s.length (atV s) (s.drop 24) (s.drop 56))) ∧ Below w.heap.size w w' := by
  have hz := bs_size s
  by_cases hlen0 : 2048 < s.length
  case neg =>
    by_cases h1 : atV s 1 = 1
    · exact refGet9_ans s w hlen0 h1
    by_cases h0 : atV s 1 = 0
    · exact refGet9_call s w hlen0 h0
    have HG := Lib.hid (show refG s.length (atV s) (s.drop 24) (s.drop 56) = (msg0, 14) by simp [refG, hlen0, h1, h0])
    obtain ⟨f, hf⟩ : ∃ f, f = atV s := ⟨_, rfl⟩
    rw [← hf]
    have K : s.length ≤ 2048 → ∀ (i : Nat) (W : World), i ≤ 100 → Calls Tryd.prog 54 #[.string (bs s), .int .i64 i] W fun e w' => e = .returned (.int .i64 (f i)) ∧ Below W.heap.size W w' := fun hl i W hi => by rw [hf]; exact at9_any s i W hl hi
    have h24 : 0 ≤ f 5 → 24 ≤ s.length := fun h => by rw [hf] at h; unfold atV at h; split at h <;> omega
    have h56 : 0 ≤ f 13 → 56 ≤ s.length := fun h => by rw [hf] at h; unfold atV at h; split at h <;> omega
    have n11 : ¬ f 1 = 1 := by rw [hf]; exact h1
    have n10 : ¬ f 1 = 0 := by rw [hf]; exact h0
    have m11 : (f 1 != 1) = true := by simpa using n11
    have m10 : (f 1 != 0) = true := by simpa using n10
    rw [← hf] at HG
    clear hf h0 h1
    obtain ⟨b1, b2, hB0, _⟩ := chain2_blks w msg0.vals msg0.vals 42 42
    obtain ⟨w0, hw0⟩ : ∃ V, V = (w.alloc (.cells #[.int .i64 0, .bool false, .bool false, .int .i64 0, .int .i64 0, .int .i64 0, .int .i64 0, .int .i64 0, .int .i64 0, .string ⟨#[]⟩] 42)).alloc (.cells #[.int .i64 0, .bool false, .bool false, .int .i64 0, .int .i64 0, .int .i64 0, .int .i64 0, .int .i64 0, .int .i64 0, .string ⟨#[]⟩] 42) := ⟨_, rfl⟩
    replace b1 : Blk w0 w.heap.size 42 msg0.vals := by rw [hw0]; exact b1
    replace b2 : Blk w0 (w.heap.size + 1) 42 msg0.vals := by rw [hw0]; exact b2
    replace hB0 : Below w.heap.size w w0 := by rw [hw0]; exact hB0
    have HB := Lib.hid hB0
    have HW := Lib.hid hw0
    clear hB0 hw0
    go_enter Tryd.func30, Tryd.ntmps30
    go_upto_region 2 with fail
    rw [← HW.out]
    have hlen' : ¬ (2048 : Int) < s.length := by omega
    have K := Lib.hid (K (by omega))
    go_wp2_with fail
    refine (K.out 1 _ (by omega)).mono ?_
    rintro e wn ⟨rfl, hb⟩
    replace b1 := b1.stays hb
    replace b2 := b2.stays hb
    skip
    skip
    replace HB := Lib.hid (below_then HB.out hb)
    clear hb
    have r4 := b2.row 0 10 (by simp [Message.len])
    rw [show ((Message.vals msg0).drop 0).take 10 = Message.vals msg0 from rfl] at r4
    go_wp2_with (first | (refine wpList_store_whole (by rfl) 42 _ _ (by rfl) w.heap.size msg0.vals _ b1 (by rfl) (by rfl) (by rfl) (by kernel_rfl) (Message.one _) ?_) | fail)
    refine ret_cells2 w.heap.size 0 msg0.vals (.int .i64 14) Tryd.results30 Tryd.underlying42 rfl (by kernel_rfl) rfl rfl (b1.whole (by rfl)).range rfl ?_
    exact ⟨by rw [show refG s.length f (s.drop 24) (s.drop 56) = (msg0, 14) by rw [HG.out]]; rfl, Below.setWhole HB.out (Nat.le_refl _) _⟩
  obtain ⟨f, hf⟩ : ∃ f, f = atV s := ⟨_, rfl⟩
  rw [← hf]
  have K : s.length ≤ 2048 → ∀ (i : Nat) (W : World), i ≤ 100 → Calls Tryd.prog 54 #[.string (bs s), .int .i64 i] W fun e w' => e = .returned (.int .i64 (f i)) ∧ Below W.heap.size W w' := fun hl i W hi => by rw [hf]; exact at9_any s i W hl hi
  have h24 : 0 ≤ f 5 → 24 ≤ s.length := fun h => by rw [hf] at h; unfold atV at h; split at h <;> omega
  have h56 : 0 ≤ f 13 → 56 ≤ s.length := fun h => by rw [hf] at h; unfold atV at h; split at h <;> omega
  clear hf
  obtain ⟨b1, b2, hB0, _⟩ := chain2_blks w msg0.vals msg0.vals 42 42
  obtain ⟨w0, hw0⟩ : ∃ V, V = (w.alloc (.cells #[.int .i64 0, .bool false, .bool false, .int .i64 0, .int .i64 0, .int .i64 0, .int .i64 0, .int .i64 0, .int .i64 0, .string ⟨#[]⟩] 42)).alloc (.cells #[.int .i64 0, .bool false, .bool false, .int .i64 0, .int .i64 0, .int .i64 0, .int .i64 0, .int .i64 0, .int .i64 0, .string ⟨#[]⟩] 42) := ⟨_, rfl⟩
  replace b1 : Blk w0 w.heap.size 42 msg0.vals := by rw [hw0]; exact b1
  replace b2 : Blk w0 (w.heap.size + 1) 42 msg0.vals := by rw [hw0]; exact b2
  replace hB0 : Below w.heap.size w w0 := by rw [hw0]; exact hB0
  have HB := Lib.hid hB0
  have HW := Lib.hid hw0
  clear hB0 hw0
  go_enter Tryd.func30, Tryd.ntmps30
  go_upto_region 2 with fail
  rw [← HW.out]
  have hlen := hlen0
  have hlen' : (2048 : Int) < s.length := by omega
  have r4 := b2.row 0 10 (by simp [Message.len])
  rw [show ((Message.vals msg0).drop 0).take 10 = Message.vals msg0 from rfl] at r4
  go_wp2_with (first | (refine wpList_store_whole (by rfl) 42 _ _ (by rfl) w.heap.size msg0.vals _ b1 (by rfl) (by rfl) (by rfl) (by kernel_rfl) (Message.one _) ?_) | fail)
  refine ret_cells2 w.heap.size 0 msg0.vals (.int .i64 4) Tryd.results30 Tryd.underlying42 rfl (by kernel_rfl) rfl rfl (b1.whole (by rfl)).range rfl ?_
  exact ⟨by rw [show refG s.length f (s.drop 24) (s.drop 56) = (msg0, 4) by grind [refG]]; rfl, Below.setWhole HB.out (Nat.le_refl _) _⟩
end Go.Proofs.YtlblenojhfeboaaDoor

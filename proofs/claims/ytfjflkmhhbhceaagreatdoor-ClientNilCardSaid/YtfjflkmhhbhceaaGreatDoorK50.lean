/-
  Layer 9, walks: the document's nums, at, Bytes. Condition: numbers of 32 bits; texts of at most 2048 bytes.
-/
import Derived.Test.YtfjflkmhhbhceaaGreatDoorK36
namespace Go.Proofs.YtfjflkmhhbhceaaGreatDoor
open Go.RowKit
attribute [local go_sem ↓] Go.wp_at_zero Go.wp_at_succ
attribute [local go_sem] rowAt_ptr rowOf_drew rowOf_drewN rowOf_alloc_past rowOf_new
attribute [local go_sem] Message.at0 Message.lat0 Message.at1 Message.lat1 Message.at2 Message.lat2 Message.at3 Message.lat3 Message.at4 Message.lat4 Message.at5 Message.lat5 Message.at6 Message.lat6 Message.at7 Message.lat7 Message.at8 Message.lat8 Message.at9 Message.lat9 Message.sub0_10 Message.lsub0_10 Message.sub4_4 Message.lsub4_4 Message.len Cred.at0 Cred.lat0 Cred.at1 Cred.lat1 Cred.at2 Cred.lat2 Cred.at3 Cred.lat3 Cred.sub0_4 Cred.lsub0_4 Cred.len

attribute [local go_sem ↓] ldMessage ldCred

set_option maxHeartbeats 800000 in
theorem nums9_any (l : List Int) (b c : Nat) (w : World) (hI : Blk w b 3 (intsV l)) (h32 : in32 l = true) (hl : l.length ≤ 100) :
    Calls Tryz.prog 73 #[.slice (some ⟨b, 0, none⟩) l.length c] w fun e w' => e = .returned (.string (bs (nums4 l))) ∧ Below w.heap.size w w' := by
  have H32 := Lib.hid h32
  have hb := hI.lt
  clear h32
  go_enter Tryz.func73, Tryz.ntmps73
  go_wp2
  go_loopw [3, 4] (fun sv i wr => ∃ k : Nat, k ≤ l.length ∧ i = .int .i64 k ∧ sv = .string (bs (nums4 (l.take k))) ∧ Below w.heap.size w wr) (fun _ i _ => l.length - (intOf i).toNat)
  case atStart => exact ⟨0, by omega, rfl, rfl, Below.refl _ _⟩
  case round =>
    obtain ⟨k, hk, rfl, rfl, hB⟩ := hrel
    have hI2 := hI.below hB hb
    have HB := Lib.hid hB
    clear hB
    by_cases hlt : k < l.length
    · have hc := intsV_get hI2 hlt
      have h32 := in32_get H32.out hlt
      have HS := Lib.hid (nums4_succ hlt)
      have hnl := nums4_len (l.take k)
      have htl : (l.take k).length ≤ k := List.length_take_le _ _
      obtain ⟨n, hn⟩ := Int.eq_ofNat_of_zero_le h32.1
      rw [hn] at hc h32
      have HNN := Lib.hid hn
      clear hn hI2
      have hz1 := bs_size (nums4 (l.take k))
      have hz2 := bs_size (num n 4)
      have hln := num_len n 4
      have hq : ¬ 9223372036854775807 < (nums4 (l.take k)).length + 4 := by omega
      generalize nums4 (l.take k) = A at *
      go_wp2_with fail
      refine (refNum_any n 4 _ (by omega) (by decide)).mono ?_
      rintro e w4 ⟨rfl, hb4⟩
      have HB4 := Lib.hid (below_then HB.out hb4)
      clear hb4 hc
      go_wp2
      go_roundw
      case rel => exact ⟨k + 1, by omega, by go_num, by rw [HS.out, HNN.out, bs_append]; rfl, HB4.out⟩
      case measure => simp [intOf]; omega
    · obtain rfl : k = l.length := by omega
      go_wp2
      go_ret
      exact ⟨by rw [List.take_length]; rfl, HB.out⟩
/-- the number at place i; below 0: it is missing -/
def atV (s : List UInt8) (i : Nat) : Int := if s.length < 4 * i + 4 then -1 else wd (s.drop (4 * i))
theorem at9_any (s : List UInt8) (i : Nat) (w : World) (hl : s.length ≤ 2048) (hi : i ≤ 100) : Calls Tryz.prog 51 #[.string (bs s), .int .i64 i] w fun e w' => e = .returned (.int .i64 (atV s i)) ∧ Below w.heap.size w w' := by
  have hz := bs_size s
  by_cases h : s.length < 4 * i + 4
  · have HV := Lib.hid (show atV s i = -1 by simp [atV, h])
    have h' : (s.length : Int) < 4 * (i : Int) + 4 := by omega
    have hm : IntKind.i64.wrap (4 * (i : Int)) = 4 * i := IntWalk.i64_in _ (by omega)
    have ha : IntKind.i64.wrap (4 * (i : Int) + 4) = 4 * i + 4 := IntWalk.i64_in _ (by omega)
    clear h
    go_enter Tryz.func51, Tryz.ntmps51
    go_wp2
    go_ret
    exact ⟨by rw [HV.out]; rfl, Below.refl _ _⟩
  · have HV := Lib.hid (show atV s i = wd (s.drop (4 * i)) by simp [atV, h])
    have h' : ¬ (s.length : Int) < 4 * (i : Int) + 4 := by omega
    have hm : IntKind.i64.wrap (4 * (i : Int)) = 4 * i := IntWalk.i64_in _ (by omega)
    have ha : IntKind.i64.wrap (4 * (i : Int) + 4) = 4 * i + 4 := IntWalk.i64_in _ (by omega)
    have hq : RdF (w.alloc (.cells #[.string (bs s), .int .i64 ((4 * i : Nat) : Int), .int .i64 0] 131)) w.heap.size ⟨s.drop (4 * i), 0⟩ :=
      ⟨s, 4 * i, Blk.new _ _ _, by omega, by omega, fun _ => rfl, fun h => absurd rfl h⟩
    have K := refU4_any w.heap.size _ _ hq
    rw [rU32_yes (by simp; omega), show ((4 * i : Nat) : Int) = 4 * (i : Int) by omega] at K
    have K := Lib.hid K
    clear h hq
    go_enter Tryz.func51, Tryz.ntmps51
    go_wp2_with fail
    refine K.out.mono ?_
    rintro e w1 ⟨rfl, hQ⟩
    have HQ := Lib.hid hQ
    clear hQ
    go_wp2
    go_ret
    refine ⟨by rw [HV.out]; rfl, ?_⟩
    exact Below.trans ((Below.refl _ _).alloc (Nat.le_refl _) _) (ReadsF.below HQ.out (Nat.le_refl _) (by simp))
/-- a message's bytes as the document lays them -/
def Message.raw (m : Message) : List UInt8 := nums4 m.nums ++ m.body
set_option maxRecDepth 20000 in
set_option maxHeartbeats 1600000 in
theorem refBytes9_any (m : Message) (w : World) (h32 : in32 m.nums = true) (hl : m.body.length ≤ 9000) : Calls Tryz.prog 32 #[.agg m.vals.toArray] w fun e w' => e = .returned (.string (bs m.raw)) ∧ Below w.heap.size w w' := by
  have hr := range_new w m.vals 81
  have hc0 := hr 0 _ rfl
  have hc1 := hr 1 _ rfl
  have hc2 := hr 2 _ rfl
  have hc3 := hr 3 _ rfl
  have hc4 := hr 4 _ rfl
  have hc5 := hr 5 _ rfl
  have hc6 := hr 6 _ rfl
  have hc7 := hr 7 _ rfl
  have hc8 := hr 8 _ rfl
  have hc9 := hr 9 _ rfl
  have hB0 : Below w.heap.size w (w.alloc (.cells m.vals.toArray 81)) := (Below.refl _ _).alloc (Nat.le_refl _) _
  have hz : w.heap.size < (w.alloc (.cells m.vals.toArray 81)).heap.size := by simp
  obtain ⟨w0, hw0⟩ : ∃ V, V = w.alloc (.cells m.vals.toArray 81) := ⟨_, rfl⟩
  simp only [Nat.zero_add] at hc0 hc1 hc2 hc3 hc4 hc5 hc6 hc7 hc8 hc9
  have HB0 := Lib.hid hB0
  rw [← hw0] at hc0 hc1 hc2 hc3 hc4 hc5 hc6 hc7 hc8 hc9 HB0 hz
  have HW := Lib.hid hw0
  have hsz := bs_size m.body
  have hnl := nums4_len m.nums
  have hq1 : ¬ 9223372036854775807 < 24 + m.body.length := by omega
  have hq2 : ¬ 9223372036854775807 < 56 + m.body.length := by omega
  clear hr hB0 hw0
  cases ha : m.answer
  · have hn : m.nums = [m.xid, 0, 2, 100003, 3, m.proc, 1, 16, m.cred.client, m.cred.seq, m.cred.uid, m.cred.gid, 0, 0] := by simp [Message.nums, ha]
    have hR : m.raw = nums4 [m.xid, 0, 2, 100003, 3, m.proc, 1, 16, m.cred.client, m.cred.seq, m.cred.uid, m.cred.gid, 0, 0] ++ m.body := by rw [Message.raw, hn]
    rw [hn] at h32 hnl
    have K := Lib.hid (fun b c W h => nums9_any [m.xid, 0, 2, 100003, 3, m.proc, 1, 16, m.cred.client, m.cred.seq, m.cred.uid, m.cred.gid, 0, 0] b c W h h32 (by simp))
    have HR := Lib.hid hR
    clear h32 hR hn
    generalize hN : nums4 [m.xid, 0, 2, 100003, 3, m.proc, 1, 16, m.cred.client, m.cred.seq, m.cred.uid, m.cred.gid, 0, 0] = N at *
    have hN2 := bs_size N
    clear hN
    go_enter Tryz.func32, Tryz.ntmps32
    go_wp2_with fail
    rw [← HW.out]
    go_region_held3 (fun W => Stb w0 W) (with_reducible first | assumption | exact Stb.start | (refine Stb.call ?_ hb1; first | assumption | exact Stb.start) | exact Stb.of (((Below.refl _ _).alloc (Nat.le_refl _) _).drew) | (refine Stb.alloc ?_ _; first | assumption | exact Stb.start)) (first
      | (go_at_call 73; refine (K.out _ _ _ ?_).mono ?_; exact (Blk.new _ _ _).drew; rintro e w2 ⟨rfl, hb1⟩))
    all_goals
      rename Stb w0 w2 => hse
      go_wp2
      go_ret
      exact ⟨by rw [HR.out, bs_append]; rfl, below_then HB0.out hse.2.2⟩
  · cases hg : m.again
    · have hn : m.nums = [m.xid, 1, 0, 0, 0, m.accept] := by simp [Message.nums, ha, hg]
      have hR : m.raw = nums4 [m.xid, 1, 0, 0, 0, m.accept] ++ m.body := by rw [Message.raw, hn]
      rw [hn] at h32 hnl
      have K := Lib.hid (fun b c W h => nums9_any [m.xid, 1, 0, 0, 0, m.accept] b c W h h32 (by simp))
      have HR := Lib.hid hR
      clear h32 hR hn
      generalize hN : nums4 [m.xid, 1, 0, 0, 0, m.accept] = N at *
      have hN2 := bs_size N
      clear hN
      go_enter Tryz.func32, Tryz.ntmps32
      go_wp2_with fail
      rw [← HW.out]
      go_region_held3 (fun W => Stb w0 W) (with_reducible first | assumption | exact Stb.start | (refine Stb.call ?_ hb1; first | assumption | exact Stb.start) | exact Stb.of (((Below.refl _ _).alloc (Nat.le_refl _) _).drew) | (refine Stb.alloc ?_ _; first | assumption | exact Stb.start)) (first
        | (go_at_call 73; refine (K.out _ _ _ ?_).mono ?_; exact (Blk.new _ _ _).drew; rintro e w2 ⟨rfl, hb1⟩))
      all_goals
        rename Stb w0 w2 => hse
        go_wp2
        go_ret
        exact ⟨by rw [HR.out, bs_append]; rfl, below_then HB0.out hse.2.2⟩
    · have hn : m.nums = [m.xid, 1, 0, 1, 0, m.accept] := by simp [Message.nums, ha, hg]
      have hR : m.raw = nums4 [m.xid, 1, 0, 1, 0, m.accept] ++ m.body := by rw [Message.raw, hn]
      rw [hn] at h32 hnl
      have K := Lib.hid (fun b c W h => nums9_any [m.xid, 1, 0, 1, 0, m.accept] b c W h h32 (by simp))
      have HR := Lib.hid hR
      clear h32 hR hn
      generalize hN : nums4 [m.xid, 1, 0, 1, 0, m.accept] = N at *
      have hN2 := bs_size N
      clear hN
      go_enter Tryz.func32, Tryz.ntmps32
      go_wp2_with fail
      rw [← HW.out]
      go_region_held3 (fun W => Stb w0 W) (with_reducible first | assumption | exact Stb.start | (refine Stb.call ?_ hb1; first | assumption | exact Stb.start) | exact Stb.of (((Below.refl _ _).alloc (Nat.le_refl _) _).drew) | (refine Stb.alloc ?_ _; first | assumption | exact Stb.start)) (first
        | (go_at_call 73; refine (K.out _ _ _ ?_).mono ?_; exact (Blk.new _ _ _).drew; rintro e w2 ⟨rfl, hb1⟩))
      all_goals
        rename Stb w0 w2 => hse
        go_wp2
        go_ret
        exact ⟨by rw [HR.out, bs_append]; rfl, below_then HB0.out hse.2.2⟩
end Go.Proofs.YtfjflkmhhbhceaaGreatDoor

/-
  Layer 9 in plain words: what the document's Get gives (written by wip/tools/genrefget9.py). No condition.
-/
namespace Go.Proofs.YtfjflkmhhbhceaaGreatDoor

/-- what the document's Get gives, of n bytes with the numbers f 0, f 1, .. -/
def refG (n : Nat) (f : Nat → Int) (r24 r56 : List UInt8) : Message × Int :=
  if 2048 < n then (msg0, 4)
  else if f 1 ≠ 0 ∧ f 1 ≠ 1 then (msg0, 14)
  else if f 1 = 1 then
    if f 2 ≠ 0 ∨ f 3 < 0 ∨ 1 < f 3 ∨ f 4 ≠ 0 ∨ f 5 < 0 then (msg0, 14)
    else if Message.fit ⟨f 0, true, f 3 == 1, 0, cred0, f 5, r24⟩ then (⟨f 0, true, f 3 == 1, 0, cred0, f 5, r24⟩, 0) else (msg0, 14)
  else if f 2 ≠ 2 ∨ f 3 < 0 then (msg0, 14)
  else if f 3 ≠ 100003 then (⟨f 0, false, false, 0, cred0, 1, []⟩, 0)
  else if f 4 < 0 then (msg0, 14)
  else if f 4 ≠ 3 then (⟨f 0, false, false, 0, cred0, 2, []⟩, 0)
  else if f 13 < 0 then (msg0, 14)
  else if 21 < f 5 then (⟨f 0, false, false, 0, cred0, 3, []⟩, 0)
  else if f 6 ≠ 1 ∨ f 7 ≠ 16 ∨ f 12 ≠ 0 ∨ f 13 ≠ 0 ∨ Cred.ok ⟨f 8, f 9, f 10, f 11⟩ = false ∨ n % 4 ≠ 0 then (⟨f 0, false, false, 0, cred0, 4, []⟩, 0)
  else (⟨f 0, false, false, f 5, ⟨f 8, f 9, f 10, f 11⟩, 0, r56⟩, 0)

end Go.Proofs.YtfjflkmhhbhceaaGreatDoor


/-
  Layer 9, walks: the document's Get (written by wip/tools/genrefget9.py). No condition.
-/
namespace Go.Proofs.YtfjflkmhhbhceaaGreatDoor
open Go.RowKit
attribute [local go_sem ↓] Go.wp_at_zero Go.wp_at_succ
attribute [local go_sem] rowAt_ptr rowOf_drew rowOf_drewN rowOf_alloc_past rowOf_new
attribute [local go_sem] Message.at0 Message.lat0 Message.at1 Message.lat1 Message.at2 Message.lat2 Message.at3 Message.lat3 Message.at4 Message.lat4 Message.at5 Message.lat5 Message.at6 Message.lat6 Message.at7 Message.lat7 Message.at8 Message.lat8 Message.at9 Message.lat9 Message.sub0_10 Message.lsub0_10 Message.sub4_4 Message.lsub4_4 Message.len Cred.at0 Cred.lat0 Cred.at1 Cred.lat1 Cred.at2 Cred.lat2 Cred.at3 Cred.lat3 Cred.sub0_4 Cred.lsub0_4 Cred.len

attribute [local go_sem ↓] ldMessage ldCred

set_option maxRecDepth 20000 in
set_option maxHeartbeats 4000000 in
theorem refGet9_ans (s : List UInt8) (w : World) (hlen : ¬ 2048 < s.length) (hk : atV s 1 = 1) : Calls Tryz.prog 25 #[.string (bs s)] w fun e w' => e = .returned (gotV9 (refG s.length (atV s) (s.drop 24) (s.drop 56))) ∧ Below w.heap.size w w' := by
  have hz := bs_size s
  obtain ⟨f, hf⟩ : ∃ f, f = atV s := ⟨_, rfl⟩
  rw [← hf]
  have K : s.length ≤ 2048 → ∀ (i : Nat) (W : World), i ≤ 100 → Calls Tryz.prog 51 #[.string (bs s), .int .i64 i] W fun e w' => e = .returned (.int .i64 (f i)) ∧ Below W.heap.size W w' := fun hl i W hi => by rw [hf]; exact at9_any s i W hl hi
  have h24 : 0 ≤ f 5 → 24 ≤ s.length := fun h => by rw [hf] at h; unfold atV at h; split at h <;> omega
  have h56 : 0 ≤ f 13 → 56 ≤ s.length := fun h => by rw [hf] at h; unfold atV at h; split at h <;> omega
  have g1 : f 1 = 1 := by rw [hf]; exact hk
  clear hf hk
  obtain ⟨b1, b2, hB0, _⟩ := chain2_blks w msg0.vals msg0.vals 81 81
  obtain ⟨w0, hw0⟩ : ∃ V, V = (w.alloc (.cells #[.int .i64 0, .bool false, .bool false, .int .i64 0, .int .i64 0, .int .i64 0, .int .i64 0, .int .i64 0, .int .i64 0, .string ⟨#[]⟩] 81)).alloc (.cells #[.int .i64 0, .bool false, .bool false, .int .i64 0, .int .i64 0, .int .i64 0, .int .i64 0, .int .i64 0, .int .i64 0, .string ⟨#[]⟩] 81) := ⟨_, rfl⟩
  replace b1 : Blk w0 w.heap.size 81 msg0.vals := by rw [hw0]; exact b1
  replace b2 : Blk w0 (w.heap.size + 1) 81 msg0.vals := by rw [hw0]; exact b2
  replace hB0 : Below w.heap.size w w0 := by rw [hw0]; exact hB0
  have HB := Lib.hid hB0
  have HW := Lib.hid hw0
  clear hB0 hw0
  go_enter Tryz.func25, Tryz.ntmps25
  go_upto_region 2 with fail
  rw [← HW.out]
  have hlen' : ¬ (2048 : Int) < s.length := by omega
  have K := Lib.hid (K (by omega))
  go_wp2_with fail
  refine (K.out 1 _ (by omega)).mono ?_
  rintro e wn ⟨rfl, hb⟩
  replace b1 := b1.stays hb
  replace b2 := b2.stays hb
  skip
  skip
  replace HB := Lib.hid (below_then HB.out hb)
  clear hb
  go_wp2_with fail
  refine (K.out 0 _ (by omega)).mono ?_
  rintro e wn ⟨rfl, hb⟩
  replace b1 := b1.stays hb
  replace b2 := b2.stays hb
  skip
  skip
  replace HB := Lib.hid (below_then HB.out hb)
  clear hb
  go_wp2_with fail
  obtain ⟨mb, hmbd⟩ : ∃ b, b = wn.heap.size := ⟨_, rfl⟩
  obtain ⟨wm, hwm⟩ : ∃ V, V = wn.alloc (.cells #[.int .i64 (f 0), .bool true, .bool false, .int .i64 0, .int .i64 0, .int .i64 0, .int .i64 0, .int .i64 0, .int .i64 0, .string ⟨#[]⟩] 81) := ⟨_, rfl⟩
  rw [← hwm, ← hmbd]
  have b3 : Blk wm mb 81 (Message.vals ⟨f 0, true, false, 0, cred0, 0, []⟩) := by rw [hwm, hmbd]; exact Blk.new _ _ _
  have hbm : Below wn.heap.size wn wm := by rw [hwm]; exact (Below.refl _ _).alloc (Nat.le_refl _) _
  have hmb : w.heap.size ≤ mb := by rw [hmbd]; exact HB.out.size
  have l1 := b1.lt
  have l2 := b2.lt
  have n1 : w.heap.size ≠ mb := by omega
  have n2 : w.heap.size + 1 ≠ mb := by omega
  have b1 := b1.stays hbm
  have b2 := b2.stays hbm
  have HB := Lib.hid (below_then HB.out hbm)
  clear hwm hbm hmbd l1 l2
  refine (K.out 2 _ (by omega)).mono ?_
  rintro e wn ⟨rfl, hb⟩
  replace b1 := b1.stays hb
  replace b2 := b2.stays hb
  replace b3 := b3.stays hb
  skip
  replace HB := Lib.hid (below_then HB.out hb)
  clear hb
  by_cases e2 : f 2 = 0
  case neg =>
    have r4 := b2.row 0 10 (by simp [Message.len])
    rw [show ((Message.vals msg0).drop 0).take 10 = Message.vals msg0 from rfl] at r4
    go_wp2_with (first | (refine wpList_store_whole (by rfl) 81 _ _ (by rfl) w.heap.size msg0.vals _ b1 (by rfl) (by rfl) (by rfl) (by kernel_rfl) (Message.one _) ?_) | fail)
    refine ret_cells2 w.heap.size 0 msg0.vals (.int .i64 14) Tryz.results25 Tryz.underlying81 rfl (by kernel_rfl) rfl rfl (b1.whole (by rfl)).range rfl ?_
    exact ⟨by rw [show refG s.length f (s.drop 24) (s.drop 56) = (msg0, 14) by grind [refG]]; rfl, Below.setWhole HB.out (Nat.le_refl _) _⟩
  go_wp2_with fail
  refine (K.out 3 _ (by omega)).mono ?_
  rintro e wn ⟨rfl, hb⟩
  replace b1 := b1.stays hb
  replace b2 := b2.stays hb
  replace b3 := b3.stays hb
  skip
  replace HB := Lib.hid (below_then HB.out hb)
  clear hb
  by_cases e3 : f 3 < 0
  case pos =>
    have r4 := b2.row 0 10 (by simp [Message.len])
    rw [show ((Message.vals msg0).drop 0).take 10 = Message.vals msg0 from rfl] at r4
    go_wp2_with (first | (refine wpList_store_whole (by rfl) 81 _ _ (by rfl) w.heap.size msg0.vals _ b1 (by rfl) (by rfl) (by rfl) (by kernel_rfl) (Message.one _) ?_) | fail)
    refine ret_cells2 w.heap.size 0 msg0.vals (.int .i64 14) Tryz.results25 Tryz.underlying81 rfl (by kernel_rfl) rfl rfl (b1.whole (by rfl)).range rfl ?_
    exact ⟨by rw [show refG s.length f (s.drop 24) (s.drop 56) = (msg0, 14) by grind [refG]]; rfl, Below.setWhole HB.out (Nat.le_refl _) _⟩
  go_wp2_with fail
  refine (K.out 3 _ (by omega)).mono ?_
  rintro e wn ⟨rfl, hb⟩
  replace b1 := b1.stays hb
  replace b2 := b2.stays hb
  replace b3 := b3.stays hb
  skip
  replace HB := Lib.hid (below_then HB.out hb)
  clear hb
  by_cases e31 : 1 < f 3
  case pos =>
    have r4 := b2.row 0 10 (by simp [Message.len])
    rw [show ((Message.vals msg0).drop 0).take 10 = Message.vals msg0 from rfl] at r4
    go_wp2_with (first | (refine wpList_store_whole (by rfl) 81 _ _ (by rfl) w.heap.size msg0.vals _ b1 (by rfl) (by rfl) (by rfl) (by kernel_rfl) (Message.one _) ?_) | fail)
    refine ret_cells2 w.heap.size 0 msg0.vals (.int .i64 14) Tryz.results25 Tryz.underlying81 rfl (by kernel_rfl) rfl rfl (b1.whole (by rfl)).range rfl ?_
    exact ⟨by rw [show refG s.length f (s.drop 24) (s.drop 56) = (msg0, 14) by grind [refG]]; rfl, Below.setWhole HB.out (Nat.le_refl _) _⟩
  go_wp2_with fail
  refine (K.out 4 _ (by omega)).mono ?_
  rintro e wn ⟨rfl, hb⟩
  replace b1 := b1.stays hb
  replace b2 := b2.stays hb
  replace b3 := b3.stays hb
  skip
  replace HB := Lib.hid (below_then HB.out hb)
  clear hb
  by_cases e4 : f 4 = 0
  case neg =>
    have r4 := b2.row 0 10 (by simp [Message.len])
    rw [show ((Message.vals msg0).drop 0).take 10 = Message.vals msg0 from rfl] at r4
    go_wp2_with (first | (refine wpList_store_whole (by rfl) 81 _ _ (by rfl) w.heap.size msg0.vals _ b1 (by rfl) (by rfl) (by rfl) (by kernel_rfl) (Message.one _) ?_) | fail)
    refine ret_cells2 w.heap.size 0 msg0.vals (.int .i64 14) Tryz.results25 Tryz.underlying81 rfl (by kernel_rfl) rfl rfl (b1.whole (by rfl)).range rfl ?_
    exact ⟨by rw [show refG s.length f (s.drop 24) (s.drop 56) = (msg0, 14) by grind [refG]]; rfl, Below.setWhole HB.out (Nat.le_refl _) _⟩
  go_wp2_with fail
  refine (K.out 5 _ (by omega)).mono ?_
  rintro e wn ⟨rfl, hb⟩
  replace b1 := b1.stays hb
  replace b2 := b2.stays hb
  replace b3 := b3.stays hb
  skip
  replace HB := Lib.hid (below_then HB.out hb)
  clear hb
  by_cases e5 : f 5 < 0
  case pos =>
    have r4 := b2.row 0 10 (by simp [Message.len])
    rw [show ((Message.vals msg0).drop 0).take 10 = Message.vals msg0 from rfl] at r4
    go_wp2_with (first | (refine wpList_store_whole (by rfl) 81 _ _ (by rfl) w.heap.size msg0.vals _ b1 (by rfl) (by rfl) (by rfl) (by kernel_rfl) (Message.one _) ?_) | fail)
    refine ret_cells2 w.heap.size 0 msg0.vals (.int .i64 14) Tryz.results25 Tryz.underlying81 rfl (by kernel_rfl) rfl rfl (b1.whole (by rfl)).range rfl ?_
    exact ⟨by rw [show refG s.length f (s.drop 24) (s.drop 56) = (msg0, 14) by grind [refG]]; rfl, Below.setWhole HB.out (Nat.le_refl _) _⟩
  go_wp2_with fail
  refine (K.out 3 _ (by omega)).mono ?_
  rintro e wn ⟨rfl, hb⟩
  replace b1 := b1.stays hb
  replace b2 := b2.stays hb
  replace b3 := b3.stays hb
  skip
  replace HB := Lib.hid (below_then HB.out hb)
  clear hb
  have l24 := h24 (by omega)
  have l24' : ¬ (s.length : Int) < 24 := by omega
  have hcd : (bs s).extract 24 s.length = bs (s.drop 24) := bs_drop _ _
  have c3 : wn.cell? ⟨mb, 2, none⟩ = some (.bool false) := b3.cell 2
  have z3 := b3.frozen 2
  obtain ⟨wy, hwy⟩ : ∃ V, V = wn.setCell ⟨mb, 2, none⟩ (.bool (f 3 == 1)) := ⟨_, rfl⟩
  have b1y := b1.far (p := ⟨mb, 2, none⟩) n1 (.bool (f 3 == 1))
  have b2y := b2.far (p := ⟨mb, 2, none⟩) n2 (.bool (f 3 == 1))
  have b3y : Blk (wn.setCell ⟨mb, 2, none⟩ (.bool (f 3 == 1))) mb 81 (Message.vals ⟨f 0, true, f 3 == 1, 0, cred0, 0, []⟩) := b3.set_ 2 (.bool (f 3 == 1))
  have hBy := HB.out.setCell (p := ⟨mb, 2, none⟩) hmb (.bool (f 3 == 1))
  have HWY := Lib.hid hwy
  clear hwy b1 b2 b3
  go_wp2_with fail
  rw [← HWY.out] at b1y b2y b3y hBy ⊢
  have b1 := b1y
  have b2 := b2y
  have b3 := b3y
  have HB := Lib.hid hBy
  clear b1y b2y b3y hBy c3 z3
  refine (K.out 5 _ (by omega)).mono ?_
  rintro e wn ⟨rfl, hb⟩
  replace b1 := b1.stays hb
  replace b2 := b2.stays hb
  replace b3 := b3.stays hb
  skip
  replace HB := Lib.hid (below_then HB.out hb)
  clear hb
  obtain ⟨m, hm⟩ : ∃ m : Message, m = ⟨f 0, true, f 3 == 1, 0, cred0, f 5, s.drop 24⟩ := ⟨_, rfl⟩
  have c8 : wn.cell? ⟨mb, 8, none⟩ = some (.int .i64 0) := b3.cell 8
  have z8 := b3.frozen 8
  have c9 : wn.cell? ⟨mb, 9, none⟩ = some (.string (bs [])) := b3.cell 9
  have z9 := b3.frozen 9
  have b4 : Blk ((wn.setCell ⟨mb, 8, none⟩ (.int .i64 (f 5))).setCell ⟨mb, 9, none⟩ (.string (bs (s.drop 24)))) mb 81 m.vals := by rw [hm]; exact (b3.set_ 8 (.int .i64 (f 5))).set_ 9 (.string (bs (s.drop 24)))
  have b1 := (b1.far (p := ⟨mb, 8, none⟩) n1 (.int .i64 (f 5))).far (p := ⟨mb, 9, none⟩) n1 (.string (bs (s.drop 24)))
  have b2 := (b2.far (p := ⟨mb, 8, none⟩) n2 (.int .i64 (f 5))).far (p := ⟨mb, 9, none⟩) n2 (.string (bs (s.drop 24)))
  have hB4 := (HB.out.setCell (p := ⟨mb, 8, none⟩) hmb (.int .i64 (f 5))).setCell (p := ⟨mb, 9, none⟩) hmb (.string (bs (s.drop 24)))
  have r4 := b4.row 0 10 (by simp [Message.len])
  rw [show ((Message.vals m).drop 0).take 10 = Message.vals m from rfl] at r4
  have HM := Lib.hid hm
  clear hm
  go_wp2_with fail
  obtain ⟨wz, hwz⟩ : ∃ V, V = (wn.setCell ⟨mb, 8, none⟩ (.int .i64 (f 5))).setCell ⟨mb, 9, none⟩ (.string (bs (s.drop 24))) := ⟨_, rfl⟩
  rw [← hwz] at b1 b2 b4 hB4 ⊢
  clear hwz c8 z8 c9 z9 r4 b3
  refine (refCheck9_any m _ (by rw [HM.out]; simp; omega)).mono ?_
  rintro e wq ⟨rfl, hb⟩
  have b1 := b1.stays hb
  have b2 := b2.stays hb
  have b4 := b4.stays hb
  have HB := Lib.hid (below_then hB4 hb)
  clear hb hB4
  have HG := Lib.hid (show refG s.length f (s.drop 24) (s.drop 56) = if m.fit then (m, 0) else (msg0, 14) by rw [HM.out]; grind [refG])
  cases hfit : m.fit
  case false =>
    have r4 := b2.row 0 10 (by simp [Message.len])
    rw [show ((Message.vals msg0).drop 0).take 10 = Message.vals msg0 from rfl] at r4
    go_wp2_with (first | (refine wpList_store_whole (by rfl) 81 _ _ (by rfl) w.heap.size msg0.vals _ b1 (by rfl) (by rfl) (by rfl) (by kernel_rfl) (Message.one _) ?_) | fail)
    refine ret_cells2 w.heap.size 0 msg0.vals (.int .i64 14) Tryz.results25 Tryz.underlying81 rfl (by kernel_rfl) rfl rfl (b1.whole (by rfl)).range rfl ?_
    exact ⟨by rw [show refG s.length f (s.drop 24) (s.drop 56) = (msg0, 14) by rw [HG.out, hfit]; rfl]; rfl, Below.setWhole HB.out (Nat.le_refl _) _⟩
  have r4 := b4.row 0 10 (by simp [Message.len])
  rw [show ((Message.vals m).drop 0).take 10 = Message.vals m from rfl] at r4
  go_wp2_with (first | (refine wpList_store_whole (by rfl) 81 _ _ (by rfl) w.heap.size (Message.vals m) _ b1 (by rfl) (by rfl) (by rfl) (by kernel_rfl) (Message.one _) ?_) | fail)
  refine ret_cells2 w.heap.size 0 (Message.vals m) (.int .i64 0) Tryz.results25 Tryz.underlying81 rfl (by kernel_rfl) rfl rfl (b1.whole (by rfl)).range rfl ?_
  exact ⟨by rw [show refG s.length f (s.drop 24) (s.drop 56) = (m, 0) by rw [HG.out, hfit]; rfl]; rfl, Below.setWhole HB.out (Nat.le_refl _) _⟩
end Go.Proofs.YtfjflkmhhbhceaaGreatDoor

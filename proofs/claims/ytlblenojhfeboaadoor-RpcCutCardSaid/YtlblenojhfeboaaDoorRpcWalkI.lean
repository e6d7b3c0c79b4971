/-
  Layer 9, walks: the document's nums, at, Bytes. Condition: numbers of 32 bits; texts of at most 2048 bytes.
-/
import Derived.Test.YtlblenojhfeboaaDoorRpcWalkH
namespace Go.Proofs.YtlblenojhfeboaaDoor
open Go.RowKit
attribute [local go_sem ↓] Go.wp_at_zero Go.wp_at_succ
attribute [local go_sem] rowAt_ptr rowOf_drew rowOf_drewN rowOf_alloc_past rowOf_new
attribute [local go_sem] Message.at0 Message.lat0 Message.at1 Message.lat1 Message.at2 Message.lat2 Message.at3 Message.lat3 Message.at4 Message.lat4 Message.at5 Message.lat5 Message.at6 Message.lat6 Message.at7 Message.lat7 Message.at8 Message.lat8 Message.at9 Message.lat9 Message.sub0_10 Message.lsub0_10 Message.sub4_4 Message.lsub4_4 Message.len Cred.at0 Cred.lat0 Cred.at1 Cred.lat1 Cred.at2 Cred.lat2 Cred.at3 Cred.lat3 Cred.sub0_4 Cred.lsub0_4 Cred.len

attribute [local go_sem ↓] ldMessage ldCred

set_option maxHeartbeats 800000 in
theorem nums9_any (l : List Int) (b c : Nat) (w : World) (hI : Blk w b 3 (intsV l)) (h32 : in32 l = true) (hl : l.length ≤ 100) :
    Calls Tryd.prog 53 #[.slice (some ⟨b, 0, none⟩) l.length c] w fun e w' => e = .returned (.string (bs (nums4 l))) ∧ Below w.heap.size w w' := by
  have H32 := Lib.hid h32
  have hb := hI.lt
  clear h32
  go_enter Tryd.func53, Tryd.ntmps53
  go_wp2
  go_loopw [3, 4] (fun sv i wr => ∃ k : Nat, k ≤ l.length ∧ i = .int .i64 k ∧ sv = .string (bs (nums4 (l.take k))) ∧ Below w.heap.size w wr) (fun _ i _ => l.length - (intOf i).toNat)
  case atStart => exact ⟨0, by omega, rfl, rfl, Below.refl _ _⟩
  case round =>
    obtain ⟨k, hk, rfl, rfl, hB⟩ := hrel
    have hI2 := hI.below hB hb
    have HB := Lib.hid hB
    clear hB
    by_cases hlt : k < l.length
    · have hc := intsV_get hI2 hlt
      have h32 := in32_get H32.out hlt
      have HS := Lib.hid (nums4_succ hlt)
      have hnl := nums4_len (l.take k)
      have htl : (l.take k).length ≤ k := List.length_take_le _ _
      obtain ⟨n, hn⟩ := Int.eq_ofNat_of_zero_le h32.1
      rw [hn] at hc h32
      have HNN := Lib.hid hn
      clear hn hI2
      have hz1 := bs_size (nums4 (l.take k))
      have hz2 := bs_size (num n 4)
      have hln := num_len n 4
      have hq : ¬ 9223372036854775807 < (nums4 (l.take k)).length + 4 := by omega
      generalize nums4 (l.take k) = A at *
      go_wp2_with fail
      refine (refNum_any n 4 _ (by omega) (by decide)).mono ?_
      rintro e w4 ⟨rfl, hb4⟩
      have HB4 := Lib.hid (below_then HB.out hb4)
      clear hb4 hc
      go_wp2
      go_roundw
      case rel => exact ⟨k + 1, by omega, by go_num, by rw [HS.out, HNN.out, bs_append]; rfl, HB4.out⟩
      case measure => simp [intOf]; omega
    · obtain rfl : k = l.length := by omega
      go_wp2
      go_ret
      exact ⟨by rw [List.take_length]; rfl, HB.out⟩
/-- the number at place i; below 0: it is missing -/
def atV (s : List UInt8) (i : Nat) : Int := if s.length < 4 * i + 4 then -1 else wd (s.drop (4 * i))
theorem at9_any (s : List UInt8) (i : Nat) (w : World) (hl : s.length ≤ 2048) (hi : i ≤ 100) : Calls Tryd.prog 54 #[.string (bs s), .int .i64 i] w fun e w' => e = .returned (.int .i64 (atV s i)) ∧ Below w.heap.size w w' := by
  have hz := bs_size s
  by_cases h : s.length < 4 * i + 4
  · have HV := Lib.hid (show atV s i = -1 by simp [atV, h])
    have h' : (s.length : Int) < 4 * (i : Int) + 4 := by omega
    have hm : IntKind.i64.wrap (4 * (i : Int)) = 4 * i := IntWalk.i64_in _ (by omega)
    have ha : IntKind.i64.wrap (4 * (i : Int) + 4) = 4 * i + 4 := IntWalk.i64_in _ (by omega)
    clear h
    go_enter Tryd.func54, Tryd.ntmps54
    go_wp2
    go_ret
    exact ⟨by rw [HV.out]; rfl, Below.refl _ _⟩
  · have HV := Lib.hid (show atV s i = wd (s.drop (4 * i)) by simp [atV, h])
    have h' : ¬ (s.length : Int) < 4 * (i : Int) + 4 := by omega
    have hm : IntKind.i64.wrap (4 * (i : Int)) = 4 * i := IntWalk.i64_in _ (by omega)
    have ha : IntKind.i64.wrap (4 * (i : Int) + 4) = 4 * i + 4 := IntWalk.i64_in _ (by omega)
    have hq : RdF (w.alloc (.cells #[.string (bs s), .int .i64 ((4 * i : Nat) : Int), .int .i64 0] 62)) w.heap.size ⟨s.drop (4 * i), 0⟩ :=
      ⟨s, 4 * i, Blk.new _ _ _, by omega, by omega, fun _ => rfl, fun h => absurd rfl h⟩
    have K := refU4_any w.heap.size _ _ hq
    rw [rU32_yes (by simp; omega), show ((4 * i : Nat) : Int) = 4 * (i : Int) by omega] at K
    have K := Lib.hid K
    clear h hq
    go_enter Tryd.func54, Tryd.ntmps54
    go_wp2_with fail
    refine K.out.mono ?_
    rintro e w1 ⟨rfl, hQ⟩
    have HQ := Lib.hid hQ
    clear hQ
    go_wp2
    go_ret
    refine ⟨by rw [HV.out]; rfl, ?_⟩
    exact Below.trans ((Below.refl _ _).alloc (Nat.le_refl _) _) (ReadsF.below HQ.out (Nat.le_refl _) (by simp))
/-- a message's bytes as the document lays them -/
def Message.raw (m : Message) : List UInt8 := nums4 m.nums ++ m.body
set_option maxRecDepth 20000 in
set_option maxHeartbeats 1600000 in
theorem refBytes9_any (m : Message) (w : World) (h32 : in32 m.nums = true) (hl : m.body.length ≤ 9000) : Calls Tryd.prog 29 #[.agg m.vals.toArray] w fun e w' => e = .returned (.string (bs m.raw)) ∧ Below w.heap.size w w' := by
  have hr := range_new w m.vals 42
  have hc0 := hr 0 _ rfl
  have hc1 := hr 1 _ rfl
  have hc2 := hr 2 _ rfl
  have hc3 := hr 3 _ rfl
  have hc4 := hr 4 _ rfl
  have hc5 := hr 5 _ rfl
  have hc6 := hr 6 _ rfl
  have hc7 := hr 7 _ rfl
  have hc8 := hr 8 _ rfl
  have hc9 := hr 9 _ rfl
  have hB0 : Below w.heap.size w (w.alloc (.cells m.vals.toArray 42)) := (Below.refl _ _).alloc (Nat.le_refl _) _
  have hz : w.heap.size < (w.alloc (.cells m.vals.toArray 42)).heap.size := by simp
  obtain ⟨w0, hw0⟩ : ∃ V, V = w.alloc (.cells m.vals.toArray 42) := ⟨_, rfl⟩
  simp only [Nat.zero_add] at hc0 hc1 hc2 hc3 hc4 hc5 hc6 hc7 hc8 hc9
  have HB0 := Lib.hid hB0
  rw [← hw0] at hc0 hc1 hc2 hc3 hc4 hc5 hc6 hc7 hc8 hc9 HB0 hz
  have HW := Lib.hid hw0
  have hsz := bs_size m.body
  have hnl := nums4_len m.nums
  have hq1 : ¬ 9223372036854775807 < 24 + m.body.length := by omega
  have hq2 : ¬ 9223372036854775807 < 56 + m.body.length := by omega
  clear hr hB0 hw0
  cases ha : m.answer
  · have hn : m.nums = [m.xid, 0, 2, 100003, 3, m.proc, 1, 16, m.cred.client, m.cred.seq, m.cred.uid, m.cred.gid, 0, 0] := by simp [Message.nums, ha]
    have hR : m.raw = nums4 [m.xid, 0, 2, 100003, 3, m.proc, 1, 16, m.cred.client, m.cred.seq, m.cred.uid, m.cred.gid, 0, 0] ++ m.body := by rw [Message.raw, hn]
    rw [hn] at h32 hnl
    have K := Lib.hid (fun b c W h => nums9_any [m.xid, 0, 2, 100003, 3, m.proc, 1, 16, m.cred.client, m.cred.seq, m.cred.uid, m.cred.gid, 0, 0] b c W h h32 (by simp))
    have HR := Lib.hid hR
    clear h32 hR hn
    generalize hN : nums4 [m.xid, 0, 2, 100003, 3, m.proc, 1, 16, m.cred.client, m.cred.seq, m.cred.uid, m.cred.gid, 0, 0] = N at *
    have hN2 := bs_size N
    clear hN
    go_enter Tryd.func29, Tryd.ntmps29
    go_wp2_with fail
    rw [← HW.out]
    go_region_held3 (fun W => Stb w0 W) (with_reducible first | assumption | exact Stb.start | (refine Stb.call ?_ hb1; first | assumption | exact Stb.start) | exact Stb.of (((Below.refl _ _).alloc (Nat.le_refl _) _).drew) | (refine Stb.alloc ?_ _; first | assumption | exact Stb.start)) (first
      | (go_at_call 53; refine (K.out _ _ _ ?_).mono ?_; exact (Blk.new _ _ _).drew; rintro e w2 ⟨rfl, hb1⟩))
    all_goals
      rename Stb w0 w2 => hse
      go_wp2
      go_ret
      exact ⟨by rw [HR.out, bs_append]; rfl, below_then HB0.out hse.2.2⟩
  · cases hg : m.again
    · have hn : m.nums = [m.xid, 1, 0, 0, 0, m.accept] := by simp [Message.nums, ha, hg]
      have hR : m.raw = nums4 [m.xid, 1, 0, 0, 0, m.accept] ++ m.body := by rw [Message.raw, hn]
      rw [hn] at h32 hnl
      have K := Lib.hid (fun b c W h => nums9_any [m.xid, 1, 0, 0, 0, m.accept] b c W h h32 (by simp))
      have HR := Lib.hid hR
      clear h32 hR hn
      generalize hN : nums4 [m.xid, 1, 0, 0, 0, m.accept] = N at *
      have hN2 := bs_size N
      clear hN
      go_enter Tryd.func29, Tryd.ntmps29
      go_wp2_with fail
      rw [← HW.out]
      go_region_held3 (fun W => Stb w0 W) (with_reducible first | assumption | exact Stb.start | (refine Stb.call ?_ hb1; first | assumption | exact Stb.start) | exact Stb.of (((Below.refl _ _).alloc (Nat.le_refl _) _).drew) | (refine Stb.alloc ?_ _; first | assumption | exact Stb.start)) (first
        | (go_at_call 53; refine (K.out _ _ _ ?_).mono ?_; exact (Blk.new _ _ _).drew; rintro e w2 ⟨rfl, hb1⟩))
      all_goals
        rename Stb w0 w2 => hse
        go_wp2
        go_ret
        exact ⟨by rw [HR.out, bs_append]; rfl, below_then HB0.out hse.2.2⟩
    · have hn : m.nums = [m.xid, 1, 0, 1, 0, m.accept] := by simp [Message.nums, ha, hg]
      have hR : m.raw = nums4 [m.xid, 1, 0, 1, 0, m.accept] ++ m.body := by rw [Message.raw, hn]
      rw [hn] at h32 hnl
      have K := Lib.hid (fun b c W h => nums9_any [m.xid, 1, 0, 1, 0, m.accept] b c W h h32 (by simp))
      have HR := Lib.hid hR
      clear h32 hR hn
      generalize hN : nums4 [m.xid, 1, 0, 1, 0, m.accept] = N at *
      have hN2 := bs_size N
      clear hN
      go_enter Tryd.func29, Tryd.ntmps29
      go_wp2_with fail
      rw [← HW.out]
      go_region_held3 (fun W => Stb w0 W) (with_reducible first | assumption | exact Stb.start | (refine Stb.call ?_ hb1; first | assumption | exact Stb.start) | exact Stb.of (((Below.refl _ _).alloc (Nat.le_refl _) _).drew) | (refine Stb.alloc ?_ _; first | assumption | exact Stb.start)) (first
        | (go_at_call 53; refine (K.out _ _ _ ?_).mono ?_; exact (Blk.new _ _ _).drew; rintro e w2 ⟨rfl, hb1⟩))
      all_goals
        rename Stb w0 w2 => hse
        go_wp2
        go_ret
        exact ⟨by rw [HR.out, bs_append]; rfl, below_then HB0.out hse.2.2⟩
end Go.Proofs.YtlblenojhfeboaaDoor

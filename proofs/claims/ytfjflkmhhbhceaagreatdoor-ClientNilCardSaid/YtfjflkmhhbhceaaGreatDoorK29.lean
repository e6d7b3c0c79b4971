/-
  Layer 9, walks: a message's bytes. Conditions: a message that may be, of at most 2048 bytes.
-/
import Derived.Test.YtfjflkmhhbhceaaGreatDoorK14
import Derived.Test.YtfjflkmhhbhceaaGreatDoorK26
import Derived.Test.YtfjflkmhhbhceaaGreatDoorK03
import Derived.Outline
import Derived.Test.YtfjflkmhhbhceaaGreatDoorK12
import Derived.Test.YtfjflkmhhbhceaaGreatDoorK28
namespace Go.Proofs.YtfjflkmhhbhceaaGreatDoor
open Go.RowKit
attribute [local go_sem ↓] Go.wp_at_zero Go.wp_at_succ
attribute [local go_sem] rowAt_ptr rowOf_drew rowOf_drewN rowOf_alloc_past rowOf_new
attribute [local go_sem ↓] eqCred eqCred0 ldCred ldMessage

attribute [local go_sem] guardCred Message.at0 Message.lat0 Message.at1 Message.lat1 Message.at2 Message.lat2 Message.at3 Message.lat3 Message.at4 Message.lat4 Message.at5 Message.lat5 Message.at6 Message.lat6 Message.at7 Message.lat7 Message.at8 Message.lat8 Message.at9 Message.lat9 Message.sub0_10 Message.lsub0_10 Message.sub4_4 Message.lsub4_4 Message.len Cred.at0 Cred.lat0 Cred.at1 Cred.lat1 Cred.at2 Cred.lat2 Cred.at3 Cred.lat3 Cred.sub0_4 Cred.lsub0_4 Cred.len

def intsV (l : List Int) : List Value := l.map fun n => .int .i64 n
theorem intsV_get {w : World} {h : Nat} {T : TypeId} {l : List Int} (hB : Blk w h T (intsV l)) {k : Nat} (hk : k < l.length) : w.cell? ⟨h, k, none⟩ = some (.int .i64 l[k]) := by
  rw [hB.cell]; simp [intsV, hk]
def in32 (l : List Int) : Bool := l.all fun n => decide (0 ≤ n) && decide (n ≤ 4294967295)
theorem in32_get {l : List Int} (h : in32 l = true) {k : Nat} (hk : k < l.length) : 0 ≤ l[k] ∧ l[k] ≤ 4294967295 := by
  have := List.all_eq_true.1 h l[k] (List.getElem_mem hk)
  simpa using this
theorem nums4_succ {l : List Int} {k : Nat} (hk : k < l.length) : nums4 (l.take (k + 1)) = nums4 (l.take k) ++ num (l[k]).toNat 4 := by
  unfold nums4; rw [take_next _ _ hk, List.flatMap_append]; simp
theorem nums4_len (l : List Int) : (nums4 l).length = 4 * l.length := by
  induction l with
  | nil => rfl
  | cons n l ih => unfold nums4 at *; simp only [List.flatMap_cons, List.length_append, num_len, ih, List.length_cons]; omega
theorem may_in32 {m : Message} (h : m.may = true) : in32 m.nums = true := by
  obtain ⟨xid, answer, again, proc, cred, accept, body⟩ := m
  cases answer <;> cases again <;> first | (simp [Message.may, num32, thereP, Cred.ok, cred0] at h; done) | (simp [Message.may, num32, thereP, Cred.ok, cred0] at h; simp [Message.nums, in32]; grind)
theorem may_body {m : Message} (h : m.may = true) : m.body.length % 4 = 0 := by
  simp [Message.may] at h; exact h.2.1

def chain9 (w : World) (m : Message) (l : List Int) : World :=
  ((w.alloc (.cells m.vals.toArray 81)).alloc (.cells #[.slice none 0 0] 195)).alloc (.cells (intsV l).toArray 3)
theorem chain9_one (w : World) (m : Message) (l : List Int) : Wr (chain9 w m l) (w.heap.size + 1) (.slice none 0 0) [] ∧ Blk (chain9 w m l) (w.heap.size + 1 + 1) 3 (intsV l) ∧ Blk (chain9 w m l) w.heap.size 81 m.vals ∧ Below w.heap.size w (chain9 w m l) := by
  have b0 := Blk.new w 81 m.vals
  have B0 : Below w.heap.size w (w.alloc (.cells m.vals.toArray 81)) := (Below.refl _ _).alloc (Nat.le_refl _) _
  have e0 : (w.alloc (.cells m.vals.toArray 81)).heap.size = w.heap.size + 1 := by simp
  unfold chain9
  generalize w.alloc (.cells m.vals.toArray 81) = w0 at *
  have b1 := Wr.fresh w0
  have B1 := B0.alloc B0.size (.cells #[.slice none 0 0] 195)
  have e1 : (w0.alloc (.cells #[.slice none 0 0] 195)).heap.size = w.heap.size + 1 + 1 := by simp [e0]
  have a1 := b0.alloc (.cells #[.slice none 0 0] 195)
  generalize w0.alloc (.cells #[.slice none 0 0] 195) = w1 at *
  have b2 := Blk.new w1 3 (intsV l)
  have B2 := B1.alloc B1.size (.cells (intsV l).toArray 3)
  rw [e1] at b2
  rw [e0] at b1
  exact ⟨b1.alloc _, b2, a1.alloc _, B2⟩
theorem chain9_two (w : World) (m : Message) (l l' : List Int) : Wr ((chain9 w m l).alloc (.cells (intsV l').toArray 3)) (w.heap.size + 1) (.slice none 0 0) [] ∧ Blk ((chain9 w m l).alloc (.cells (intsV l').toArray 3)) (w.heap.size + 1 + 1 + 1) 3 (intsV l') ∧
    Blk ((chain9 w m l).alloc (.cells (intsV l').toArray 3)) w.heap.size 81 m.vals ∧ Below w.heap.size w ((chain9 w m l).alloc (.cells (intsV l').toArray 3)) := by
  obtain ⟨a, _, c, d⟩ := chain9_one w m l
  have e : (chain9 w m l).heap.size = w.heap.size + 1 + 1 + 1 := by simp [chain9]
  have b := Blk.new (chain9 w m l) 3 (intsV l')
  rw [e] at b
  exact ⟨a.alloc _, b, c.alloc _, d.alloc d.size _⟩

set_option maxHeartbeats 3200000 in
theorem laid9_any (m : Message) (w : World) (hm : m.may = true) (hl : m.body.length ≤ 2048) : Calls Tryz.prog 129 #[.agg m.vals.toArray] w fun e w' => e = .returned (.string (bs m.bytes)) ∧ Below w.heap.size w w' := by
  have H32 := Lib.hid (may_in32 hm)
  have HM := Lib.hid hm
  clear hm
  cases ha : m.answer
  · have HN := Lib.hid (show m.nums = [m.xid, 0, 2, 100003, 3, m.proc, 1, 16, m.cred.client, m.cred.seq, m.cred.uid, m.cred.gid, 0, 0] by simp [Message.nums, ha])
    have HLen := Lib.hid (show m.nums.length = 14 by simp [Message.nums, ha])
    cases hg : m.again
    · have HW := Lib.hid (chain9_two w m [m.xid, 1, 0, 0, 0, m.accept] m.nums)
      rw [HN.out] at HW
      go_enter Tryz.func129, Tryz.ntmps129
      go_wp2
      change Code.wp _ _ _ _ ((chain9 w m [m.xid, 1, 0, 0, 0, m.accept]).alloc (.cells (intsV [m.xid, 0, 2, 100003, 3, m.proc, 1, 16, m.cred.client, m.cred.seq, m.cred.uid, m.cred.gid, 0, 0]).toArray 3))
      rw [← HN.out] at HW ⊢
      generalize ((chain9 w m [m.xid, 1, 0, 0, 0, m.accept]).alloc (.cells (intsV m.nums).toArray 3)) = W0 at *
      clear HN
      generalize hl6 : m.nums = l at *
      have HL := Lib.hid hl6
      clear hl6
      go_loopw [40] (fun i wr => ∃ (k : Nat) (sv' : Value), k ≤ 14 ∧ i = .int .i64 k ∧ MovedTo (w.heap.size + 1) (.slice none 0 0) sv' (nums4 (l.take k)) W0 wr ∧ Blk wr (w.heap.size + 1 + 1 + 1) 3 (intsV l) ∧ Blk wr w.heap.size 81 m.vals) (fun i _ => 14 - (intOf i).toNat)
      case atStart => exact ⟨0, _, by omega, rfl, ⟨HW.out.1, fun _ h => .inl h, Touch.refl _ _⟩, HW.out.2.1, HW.out.2.2.1⟩
      case round =>
        obtain ⟨k, sv', hk, rfl, ⟨hW3, hr3, hT3⟩, hI3, hM3⟩ := hrel
        have HR3 := Lib.hid hr3
        have HT3 := Lib.hid hT3
        clear hr3 hT3
        by_cases hlt : k < 14
        · have hkl : k < l.length := by rw [HLen.out]; exact hlt
          have hc := intsV_get hI3 hkl
          have h32 := in32_get H32.out hkl
          have HS := Lib.hid (nums4_succ hkl)
          have hnl := nums4_len (l.take k)
          have htl : (l.take k).length ≤ k := List.length_take_le _ _
          obtain ⟨n, hn⟩ := Int.eq_ofNat_of_zero_le h32.1
          rw [hn] at hc h32
          have HNN := Lib.hid hn
          clear hn
          go_wp2_with fail
          refine (wU32_any _ sv' _ n _ hW3 (by omega) (by omega)).mono ?_
          rintro e w4 ⟨rfl, sv4, hM4⟩
          have hI4 := hW3.keeps hI3 (by decide) (by decide) hM4.2.2
          have hMs4 := hW3.keeps hM3 (by decide) (by decide) hM4.2.2
          have HM4 := Lib.hid (MovedTo.next HR3.out HT3.out hM4)
          clear hM4 hI3 hM3 hc hW3 hnl
          go_wp2
          go_roundw
          case rel => exact ⟨k + 1, sv4, by omega, by go_num, by rw [HS.out, HNN.out]; exact HM4.out, hI4, hMs4⟩
          case measure => simp [intOf]; omega
        · obtain rfl : k = 14 := by omega
          have hnl := nums4_len (l.take 14)
          have htl : (l.take 14).length ≤ 14 := List.length_take_le _ _
          have hMc := hM3.cell
          have hsz := bs_size m.body
          have hlt := hM3.lt
          go_wp2_with fail
          refine (wFixed_any _ sv' _ m.body _ hW3 (by omega) (by omega)).mono ?_
          rintro e w5 ⟨rfl, sv5, hM5⟩
          have HM5 := Lib.hid (MovedTo.next HR3.out HT3.out hM5)
          clear hM5 hI3 hM3 hMc hW3
          go_wp2_with fail
          refine (wText_any _ sv5 _ _ HM5.out.1).mono ?_
          rintro e w6 ⟨rfl, rfl⟩
          go_wp2
          go_ret
          refine ⟨ret_string (by unfold Message.bytes; rw [HL.out, List.take_of_length_le (by rw [HLen.out]; omega)]), HW.out.2.2.2.trans (Moved.below (B := w.heap.size) ⟨sv5, HM5.out⟩ (by omega) (by simp [Value.ownBlock]) HW.out.2.2.2.size)⟩
    · have HW := Lib.hid (chain9_two w m [m.xid, 1, 0, 1, 0, m.accept] m.nums)
      rw [HN.out] at HW
      go_enter Tryz.func129, Tryz.ntmps129
      go_wp2
      change Code.wp _ _ _ _ ((chain9 w m [m.xid, 1, 0, 1, 0, m.accept]).alloc (.cells (intsV [m.xid, 0, 2, 100003, 3, m.proc, 1, 16, m.cred.client, m.cred.seq, m.cred.uid, m.cred.gid, 0, 0]).toArray 3))
      rw [← HN.out] at HW ⊢
      generalize ((chain9 w m [m.xid, 1, 0, 1, 0, m.accept]).alloc (.cells (intsV m.nums).toArray 3)) = W0 at *
      clear HN
      generalize hl6 : m.nums = l at *
      have HL := Lib.hid hl6
      clear hl6
      go_loopw [40] (fun i wr => ∃ (k : Nat) (sv' : Value), k ≤ 14 ∧ i = .int .i64 k ∧ MovedTo (w.heap.size + 1) (.slice none 0 0) sv' (nums4 (l.take k)) W0 wr ∧ Blk wr (w.heap.size + 1 + 1 + 1) 3 (intsV l) ∧ Blk wr w.heap.size 81 m.vals) (fun i _ => 14 - (intOf i).toNat)
      case atStart => exact ⟨0, _, by omega, rfl, ⟨HW.out.1, fun _ h => .inl h, Touch.refl _ _⟩, HW.out.2.1, HW.out.2.2.1⟩
      case round =>
        obtain ⟨k, sv', hk, rfl, ⟨hW3, hr3, hT3⟩, hI3, hM3⟩ := hrel
        have HR3 := Lib.hid hr3
        have HT3 := Lib.hid hT3
        clear hr3 hT3
        by_cases hlt : k < 14
        · have hkl : k < l.length := by rw [HLen.out]; exact hlt
          have hc := intsV_get hI3 hkl
          have h32 := in32_get H32.out hkl
          have HS := Lib.hid (nums4_succ hkl)
          have hnl := nums4_len (l.take k)
          have htl : (l.take k).length ≤ k := List.length_take_le _ _
          obtain ⟨n, hn⟩ := Int.eq_ofNat_of_zero_le h32.1
          rw [hn] at hc h32
          have HNN := Lib.hid hn
          clear hn
          go_wp2_with fail
          refine (wU32_any _ sv' _ n _ hW3 (by omega) (by omega)).mono ?_
          rintro e w4 ⟨rfl, sv4, hM4⟩
          have hI4 := hW3.keeps hI3 (by decide) (by decide) hM4.2.2
          have hMs4 := hW3.keeps hM3 (by decide) (by decide) hM4.2.2
          have HM4 := Lib.hid (MovedTo.next HR3.out HT3.out hM4)
          clear hM4 hI3 hM3 hc hW3 hnl
          go_wp2
          go_roundw
          case rel => exact ⟨k + 1, sv4, by omega, by go_num, by rw [HS.out, HNN.out]; exact HM4.out, hI4, hMs4⟩
          case measure => simp [intOf]; omega
        · obtain rfl : k = 14 := by omega
          have hnl := nums4_len (l.take 14)
          have htl : (l.take 14).length ≤ 14 := List.length_take_le _ _
          have hMc := hM3.cell
          have hsz := bs_size m.body
          have hlt := hM3.lt
          go_wp2_with fail
          refine (wFixed_any _ sv' _ m.body _ hW3 (by omega) (by omega)).mono ?_
          rintro e w5 ⟨rfl, sv5, hM5⟩
          have HM5 := Lib.hid (MovedTo.next HR3.out HT3.out hM5)
          clear hM5 hI3 hM3 hMc hW3
          go_wp2_with fail
          refine (wText_any _ sv5 _ _ HM5.out.1).mono ?_
          rintro e w6 ⟨rfl, rfl⟩
          go_wp2
          go_ret
          refine ⟨ret_string (by unfold Message.bytes; rw [HL.out, List.take_of_length_le (by rw [HLen.out]; omega)]), HW.out.2.2.2.trans (Moved.below (B := w.heap.size) ⟨sv5, HM5.out⟩ (by omega) (by simp [Value.ownBlock]) HW.out.2.2.2.size)⟩
  · cases hg : m.again
    · have HN := Lib.hid (show m.nums = [m.xid, 1, 0, 0, 0, m.accept] by simp [Message.nums, ha, hg])
      have HLen := Lib.hid (show m.nums.length = 6 by simp [Message.nums, ha])
      have HW := Lib.hid (chain9_one w m m.nums)
      rw [HN.out] at HW
      go_enter Tryz.func129, Tryz.ntmps129
      go_wp2
      change Code.wp _ _ _ _ (chain9 w m [m.xid, 1, 0, 0, 0, m.accept])
      rw [← HN.out] at HW ⊢
      generalize chain9 w m m.nums = W0 at *
      clear HN
      generalize hl6 : m.nums = l at *
      have HL := Lib.hid hl6
      clear hl6
      go_loopw [40] (fun i wr => ∃ (k : Nat) (sv' : Value), k ≤ 6 ∧ i = .int .i64 k ∧ MovedTo (w.heap.size + 1) (.slice none 0 0) sv' (nums4 (l.take k)) W0 wr ∧ Blk wr (w.heap.size + 1 + 1) 3 (intsV l) ∧ Blk wr w.heap.size 81 m.vals) (fun i _ => 6 - (intOf i).toNat)
      case atStart => exact ⟨0, _, by omega, rfl, ⟨HW.out.1, fun _ h => .inl h, Touch.refl _ _⟩, HW.out.2.1, HW.out.2.2.1⟩
      case round =>
        obtain ⟨k, sv', hk, rfl, ⟨hW3, hr3, hT3⟩, hI3, hM3⟩ := hrel
        have HR3 := Lib.hid hr3
        have HT3 := Lib.hid hT3
        clear hr3 hT3
        by_cases hlt : k < 6
        · have hkl : k < l.length := by rw [HLen.out]; exact hlt
          have hc := intsV_get hI3 hkl
          have h32 := in32_get H32.out hkl
          have HS := Lib.hid (nums4_succ hkl)
          have hnl := nums4_len (l.take k)
          have htl : (l.take k).length ≤ k := List.length_take_le _ _
          obtain ⟨n, hn⟩ := Int.eq_ofNat_of_zero_le h32.1
          rw [hn] at hc h32
          have HNN := Lib.hid hn
          clear hn
          go_wp2_with fail
          refine (wU32_any _ sv' _ n _ hW3 (by omega) (by omega)).mono ?_
          rintro e w4 ⟨rfl, sv4, hM4⟩
          have hI4 := hW3.keeps hI3 (by decide) (by decide) hM4.2.2
          have hMs4 := hW3.keeps hM3 (by decide) (by decide) hM4.2.2
          have HM4 := Lib.hid (MovedTo.next HR3.out HT3.out hM4)
          clear hM4 hI3 hM3 hc hW3 hnl
          go_wp2
          go_roundw
          case rel => exact ⟨k + 1, sv4, by omega, by go_num, by rw [HS.out, HNN.out]; exact HM4.out, hI4, hMs4⟩
          case measure => simp [intOf]; omega
        · obtain rfl : k = 6 := by omega
          have hnl := nums4_len (l.take 6)
          have htl : (l.take 6).length ≤ 6 := List.length_take_le _ _
          have hMc := hM3.cell
          have hsz := bs_size m.body
          have hlt := hM3.lt
          go_wp2_with fail
          refine (wFixed_any _ sv' _ m.body _ hW3 (by omega) (by omega)).mono ?_
          rintro e w5 ⟨rfl, sv5, hM5⟩
          have HM5 := Lib.hid (MovedTo.next HR3.out HT3.out hM5)
          clear hM5 hI3 hM3 hMc hW3
          go_wp2_with fail
          refine (wText_any _ sv5 _ _ HM5.out.1).mono ?_
          rintro e w6 ⟨rfl, rfl⟩
          go_wp2
          go_ret
          refine ⟨ret_string (by unfold Message.bytes; rw [HL.out, List.take_of_length_le (by rw [HLen.out]; omega)]), HW.out.2.2.2.trans (Moved.below (B := w.heap.size) ⟨sv5, HM5.out⟩ (by omega) (by simp [Value.ownBlock]) HW.out.2.2.2.size)⟩
    · have HN := Lib.hid (show m.nums = [m.xid, 1, 0, 1, 0, m.accept] by simp [Message.nums, ha, hg])
      have HLen := Lib.hid (show m.nums.length = 6 by simp [Message.nums, ha])
      have HW := Lib.hid (chain9_one w m m.nums)
      rw [HN.out] at HW
      go_enter Tryz.func129, Tryz.ntmps129
      go_wp2
      change Code.wp _ _ _ _ (chain9 w m [m.xid, 1, 0, 1, 0, m.accept])
      rw [← HN.out] at HW ⊢
      generalize chain9 w m m.nums = W0 at *
      clear HN
      generalize hl6 : m.nums = l at *
      have HL := Lib.hid hl6
      clear hl6
      go_loopw [40] (fun i wr => ∃ (k : Nat) (sv' : Value), k ≤ 6 ∧ i = .int .i64 k ∧ MovedTo (w.heap.size + 1) (.slice none 0 0) sv' (nums4 (l.take k)) W0 wr ∧ Blk wr (w.heap.size + 1 + 1) 3 (intsV l) ∧ Blk wr w.heap.size 81 m.vals) (fun i _ => 6 - (intOf i).toNat)
      case atStart => exact ⟨0, _, by omega, rfl, ⟨HW.out.1, fun _ h => .inl h, Touch.refl _ _⟩, HW.out.2.1, HW.out.2.2.1⟩
      case round =>
        obtain ⟨k, sv', hk, rfl, ⟨hW3, hr3, hT3⟩, hI3, hM3⟩ := hrel
        have HR3 := Lib.hid hr3
        have HT3 := Lib.hid hT3
        clear hr3 hT3
        by_cases hlt : k < 6
        · have hkl : k < l.length := by rw [HLen.out]; exact hlt
          have hc := intsV_get hI3 hkl
          have h32 := in32_get H32.out hkl
          have HS := Lib.hid (nums4_succ hkl)
          have hnl := nums4_len (l.take k)
          have htl : (l.take k).length ≤ k := List.length_take_le _ _
          obtain ⟨n, hn⟩ := Int.eq_ofNat_of_zero_le h32.1
          rw [hn] at hc h32
          have HNN := Lib.hid hn
          clear hn
          go_wp2_with fail
          refine (wU32_any _ sv' _ n _ hW3 (by omega) (by omega)).mono ?_
          rintro e w4 ⟨rfl, sv4, hM4⟩
          have hI4 := hW3.keeps hI3 (by decide) (by decide) hM4.2.2
          have hMs4 := hW3.keeps hM3 (by decide) (by decide) hM4.2.2
          have HM4 := Lib.hid (MovedTo.next HR3.out HT3.out hM4)
          clear hM4 hI3 hM3 hc hW3 hnl
          go_wp2
          go_roundw
          case rel => exact ⟨k + 1, sv4, by omega, by go_num, by rw [HS.out, HNN.out]; exact HM4.out, hI4, hMs4⟩
          case measure => simp [intOf]; omega
        · obtain rfl : k = 6 := by omega
          have hnl := nums4_len (l.take 6)
          have htl : (l.take 6).length ≤ 6 := List.length_take_le _ _
          have hMc := hM3.cell
          have hsz := bs_size m.body
          have hlt := hM3.lt
          go_wp2_with fail
          refine (wFixed_any _ sv' _ m.body _ hW3 (by omega) (by omega)).mono ?_
          rintro e w5 ⟨rfl, sv5, hM5⟩
          have HM5 := Lib.hid (MovedTo.next HR3.out HT3.out hM5)
          clear hM5 hI3 hM3 hMc hW3
          go_wp2_with fail
          refine (wText_any _ sv5 _ _ HM5.out.1).mono ?_
          rintro e w6 ⟨rfl, rfl⟩
          go_wp2
          go_ret
          refine ⟨ret_string (by unfold Message.bytes; rw [HL.out, List.take_of_length_le (by rw [HLen.out]; omega)]), HW.out.2.2.2.trans (Moved.below (B := w.heap.size) ⟨sv5, HM5.out⟩ (by omega) (by simp [Value.ownBlock]) HW.out.2.2.2.size)⟩
end Go.Proofs.YtfjflkmhhbhceaaGreatDoor

/-
  Layer 9, walks: a message is put, refused, answered; the law RpcAnswers. No condition.
-/
namespace Go.Proofs.YtfjflkmhhbhceaaGreatDoor
open Go.RowKit
attribute [local go_sem ↓] Go.wp_at_zero Go.wp_at_succ
attribute [local go_sem] rowAt_ptr rowOf_drew rowOf_drewN rowOf_alloc_past rowOf_new
attribute [local go_sem ↓] eqCred eqCred0 ldCred ldMessage

attribute [local go_sem] guardCred Message.at0 Message.lat0 Message.at1 Message.lat1 Message.at2 Message.lat2 Message.at3 Message.lat3 Message.at4 Message.lat4 Message.at5 Message.lat5 Message.at6 Message.lat6 Message.at7 Message.lat7 Message.at8 Message.lat8 Message.at9 Message.lat9 Message.sub0_10 Message.lsub0_10 Message.sub4_4 Message.lsub4_4 Message.len Cred.at0 Cred.lat0 Cred.at1 Cred.lat1 Cred.at2 Cred.lat2 Cred.at3 Cred.lat3 Cred.sub0_4 Cred.lsub0_4 Cred.len

def bad14 (b : Bool) : Int := if b then 14 else 0
def Message.putV (m : Message) : Value := if m.bad then .tuple #[.string (bs []), .int .i64 14] else .tuple #[.string (bs m.bytes), .int .i64 0]

set_option maxHeartbeats 1600000 in
theorem check9_any (m : Message) (w : World) (hl : m.body.length ≤ maxLen) : Calls Tryz.prog 128 #[.agg m.vals.toArray] w fun e w' => e = .returned (.int .i64 (bad14 m.bad)) ∧ Below w.heap.size w w' := by
  unfold maxLen at hl
  have hB0 : Below w.heap.size w (w.alloc (.cells m.vals.toArray 81)) := (Below.refl _ _).alloc (Nat.le_refl _) _
  have hz : w.heap.size < (w.alloc (.cells m.vals.toArray 81)).heap.size := by simp
  have hsz := bs_size m.body
  have hsz2 := bs_size m.bytes
  go_enter Tryz.func128, Tryz.ntmps128
  go_wp2_with fail
  refine (may9_any m _ (by omega)).mono ?_
  rintro e w1 ⟨rfl, hb1⟩
  have hs1 := Stb.of hb1
  have hB1 := below_then hB0 hb1
  clear hb1
  cases hm : m.may
  · have HS := Lib.hid (show m.bad = true by simp [Message.bad, hm])
    clear hm
    go_wp2
    go_ret
    exact ⟨ret_int (by rw [HS.out]; rfl), hB1⟩
  · have HM := Lib.hid hm
    clear hm
    by_cases h2 : 2048 < m.body.length
    · have HS := Lib.hid (show m.bad = true by simp [Message.bad, h2])
      go_wp2
      go_ret
      exact ⟨ret_int (by rw [HS.out]; rfl), hB1⟩
    · have HS := Lib.hid (show m.bad = decide (2048 < m.bytes.length) by simp [Message.bad, HM.out, h2])
      have hz1 : w.heap.size < w1.heap.size := Nat.lt_of_lt_of_le hz hs1.below.size
      have hbl : m.bytes.length ≤ 3000 := by
        have := nums4_len m.nums
        have hn : m.nums.length ≤ 14 := by unfold Message.nums; split <;> simp
        have hp := padn_lt m.body.length
        simp only [Message.bytes, List.length_append, filled_len]
        omega
      go_wp2_with fail
      refine (laid9_any m _ HM.out (by omega)).mono ?_
      rintro e w2 ⟨rfl, hb2⟩
      have hB2 := below_then hB1 hb2
      clear hb2
      go_wp2
      all_goals
        go_ret
        refine ⟨ret_int ?_, hB2⟩
        rw [HS.out]
        go_light
        grind [bad14]

set_option maxHeartbeats 1600000 in
theorem put9_any (m : Message) (w : World) (hl : m.body.length ≤ maxLen) : Calls Tryz.prog 87 #[.agg m.vals.toArray] w fun e w' => e = .returned m.putV ∧ Below w.heap.size w w' := by
  have hB0 : Below w.heap.size w (w.alloc (.cells m.vals.toArray 81)) := (Below.refl _ _).alloc (Nat.le_refl _) _
  have hz : w.heap.size < (w.alloc (.cells m.vals.toArray 81)).heap.size := by simp
  go_enter Tryz.func87, Tryz.ntmps87
  go_wp2_with fail
  refine (check9_any m _ hl).mono ?_
  rintro e w1 ⟨rfl, hb1⟩
  have hs1 := Stb.of hb1
  have hB1 := below_then hB0 hb1
  clear hb1
  cases hm : m.bad
  · simp only [bad14, Bool.false_eq_true, if_false]
    have hm' := hm
    simp only [Message.bad, Bool.or_eq_false_iff, Bool.not_eq_false', decide_eq_false_iff_not] at hm'
    have HM := Lib.hid hm'
    have HH := Lib.hid hm
    clear hm hm'
    have hz1 : w.heap.size < w1.heap.size := Nat.lt_of_lt_of_le hz hs1.below.size
    go_wp2_with fail
    refine (laid9_any m _ HM.out.1 (by have := HM.out.2.1; omega)).mono ?_
    rintro e w2 ⟨rfl, hb2⟩
    have hB2 := below_then hB1 hb2
    go_wp2
    go_ret2
    exact ⟨by simp [Message.putV, HH.out], hB2⟩
  · simp only [bad14, if_true]
    have HH := Lib.hid hm
    clear hm
    go_wp2
    go_ret2
    exact ⟨by simp [Message.putV, HH.out], hB1⟩

theorem infoMessage : (Tryz.prog.info? 81).map (fun i => (i.zero, i.size)) = some (some (.agg #[.int .i64 0, .bool false, .bool false, .int .i64 0, .int .i64 0, .int .i64 0, .int .i64 0, .int .i64 0, .int .i64 0, .string ⟨#[]⟩]), 10) := by kernel_rfl
def Message.refuse (m : Message) (a : Int) : Message := ⟨m.xid, true, false, 0, cred0, a, []⟩
def Message.reply (m : Message) (b : List UInt8) : Message := ⟨m.xid, true, false, 0, cred0, 0, b⟩

theorem guardMessage : Tryz.prog.eqGuardType Tryz.prog.depth 81 = false := by kernel_rfl
def leafsMsg : List Leaf := [.i .i64, .b, .b, .i .i64, .i .i64, .i .i64, .i .i64, .i .i64, .i .i64, .s]
theorem leafsMessage : leafs Tryz.prog 8 81 = some leafsMsg := by kernel_rfl
theorem fitsMessage (a : Message) : fits leafsMsg a.vals = true := by rfl
theorem eqRefuse (m : Message) (a : Int) (w : World) : (binOp .eql 81 (.agg (m.refuse a).vals.toArray) (.agg #[.int .i64 m.xid, .bool true, .bool false, .int .i64 0, .int .i64 0, .int .i64 0, .int .i64 0, .int .i64 0, .int .i64 a, .string ⟨#[]⟩])).run Tryz.prog w = .ok (.bool true) w :=
  eql_same leafsMessage (by kernel_rfl) w _ (m.refuse a).vals (fitsMessage _) rfl
theorem eqReply (m : Message) (b : List UInt8) (w : World) : (binOp .eql 81 (.agg (m.reply b).vals.toArray) (.agg #[.int .i64 m.xid, .bool true, .bool false, .int .i64 0, .int .i64 0, .int .i64 0, .int .i64 0, .int .i64 0, .int .i64 0, .string (bs b)])).run Tryz.prog w = .ok (.bool true) w :=
  eql_same leafsMessage (by kernel_rfl) w _ (m.reply b).vals (fitsMessage _) rfl
attribute [local go_sem ↓] eqRefuse eqReply

attribute [local go_sem] guardMessage

end Go.Proofs.YtfjflkmhhbhceaaGreatDoor


/-
  Layer 9, walks: the program's reader of numbers, which gives up by a panic: next, must, rest. Condition: texts of Go's length.
-/
namespace Go.Proofs.YtfjflkmhhbhceaaGreatDoor
open Go.RowKit
attribute [local go_sem ↓] Go.wp_at_zero Go.wp_at_succ
attribute [local go_sem] rowAt_ptr rowOf_drew rowOf_drewN rowOf_alloc_past rowOf_new

/-- what the program panics with when something is missing -/
def missV : List PanicEntry := [{ v := .iface 165 (.agg #[.int .i64 14]), recovered := false }]
/-- the number at the beginning of a text -/
def wd (s : List UInt8) : Nat := beVal (s.take 4)
theorem wd_lt (s : List UInt8) : wd s < 4294967296 := by
  have := beVal_lt (s.take 4)
  unfold wd
  have h : (s.take 4).length ≤ 4 := by simp; omega
  calc beVal (s.take 4) < 256 ^ (s.take 4).length := this
    _ ≤ 256 ^ 4 := Nat.pow_le_pow_right (by omega) h
theorem rU32_yes {s : List UInt8} (h : 4 ≤ s.length) : rU32 ⟨s, 0⟩ = (wd s, ⟨s.drop 4, 0⟩) := rNum_ok h
theorem rU32_no {s : List UInt8} (h : s.length < 4) : rU32 ⟨s, 0⟩ = (0, Rs.fail 10) := rNum_short h

/-- what holds of every world that a region comes through that draws its order and reads by reader g -/
abbrev StR (g : Nat) (w W : World) : Prop := (∀ b o, b < w.heap.size → b ≠ g → W.cell? ⟨b, o, none⟩ = w.cell? ⟨b, o, none⟩) ∧ (∀ b o n, b < w.heap.size → b ≠ g → rowOf W b o n = rowOf w b o n) ∧ Touch (fun k => k = g) w W
theorem StR.of {g : Nat} {w W : World} (h : Touch (fun k => k = g) w W) : StR g w W := ⟨fun _ _ hb hn => h.cell hb hn, fun _ _ _ hb hn => h.row hb hn _ _, h⟩
theorem StR.start {g : Nat} {w : World} : StR g w w.drew := StR.of (Touch.refl _ _).drew
theorem StR.call {g : Nat} {w W W' : World} (h : StR g w W) (hb : Touch (fun k => k = g) W W') : StR g w W' := StR.of (h.2.2.then_ hb)
theorem StR.alloc {g : Nat} {w W : World} (h : StR g w W) (o : Obj) : StR g w (W.alloc o) := StR.of (h.2.2.alloc o)
theorem next_yes (g : Nat) (s : List UInt8) (w : World) (hR : Rd w g ⟨s, 0⟩) (h : 4 ≤ s.length) (hl : s.length ≤ 9223372036854775807) :
    Calls Tryz.prog 95 #[.agg #[.pointer (some ⟨g, 0, none⟩)]] w fun e w' => e = .returned (.int .i64 (wd s)) ∧ Reads g ⟨s.drop 4, 0⟩ w w' := by
  have hB : Below w.heap.size w (w.alloc (.cells #[.pointer (some ⟨g, 0, none⟩)] 170)) := (Below.refl _ _).alloc (Nat.le_refl _) _
  have K := rU32_any g ⟨s, 0⟩ (w.alloc (.cells #[.pointer (some ⟨g, 0, none⟩)] 170)) (hR.stays hB) hl
  rw [rU32_yes h] at K
  have HB := Lib.hid hB
  have K := Lib.hid K
  have hlt := hR.lt
  clear hR hB
  go_enter Tryz.func95, Tryz.ntmps95
  go_wp2_with fail
  refine K.out.mono ?_
  rintro e w1 ⟨rfl, hQ⟩
  have hc1 : w1.cell? ⟨w.heap.size, 0, none⟩ = some (.pointer (some ⟨g, 0, none⟩)) := (hQ.2.cell (p := ⟨w.heap.size, 0, none⟩) (by simp) (by simp only; omega)).trans (by simp [go_sem])
  have HQ := Lib.hid hQ
  clear hQ
  go_wp2_with fail
  refine (rErr_any g ⟨s.drop 4, 0⟩ _ HQ.out.1).mono ?_
  rintro e w2 ⟨rfl, rfl⟩
  go_wp2
  go_ret
  exact ⟨rfl, Reads.behind HB.out HQ.out⟩
theorem next_no (g : Nat) (s : List UInt8) (w : World) (hR : Rd w g ⟨s, 0⟩) (h : s.length < 4) (hl : s.length ≤ 9223372036854775807) :
    Calls Tryz.prog 95 #[.agg #[.pointer (some ⟨g, 0, none⟩)]] w fun e w' => e = .panicked missV ∧ Touch (fun k => k = g) w w' := by
  have hB : Below w.heap.size w (w.alloc (.cells #[.pointer (some ⟨g, 0, none⟩)] 170)) := (Below.refl _ _).alloc (Nat.le_refl _) _
  have K := rU32_any g ⟨s, 0⟩ (w.alloc (.cells #[.pointer (some ⟨g, 0, none⟩)] 170)) (hR.stays hB) hl
  rw [rU32_no h] at K
  have HB := Lib.hid hB
  have K := Lib.hid K
  have hlt := hR.lt
  clear hR hB
  go_enter Tryz.func95, Tryz.ntmps95
  go_wp2_with fail
  refine K.out.mono ?_
  rintro e w1 ⟨rfl, hQ⟩
  have hc1 : w1.cell? ⟨w.heap.size, 0, none⟩ = some (.pointer (some ⟨g, 0, none⟩)) := (hQ.2.cell (p := ⟨w.heap.size, 0, none⟩) (by simp) (by simp only; omega)).trans (by simp [go_sem])
  have HQ := Lib.hid hQ
  clear hQ
  go_wp2_with fail
  refine (rErr_any g (Rs.fail 10) _ HQ.out.1).mono ?_
  rintro e w2 ⟨rfl, rfl⟩
  simp only [Rs.fail]
  go_wp2
  exact ⟨rfl, rfl, (Reads.behind HB.out HQ.out).2⟩

theorem must_any (b : Bool) (w : World) : Calls Tryz.prog 134 #[.bool b] w fun e w' => (if b then e = .returned (.tuple #[]) else e = .panicked missV) ∧ w = w' := by
  cases b
  · go_enter Tryz.func134, Tryz.ntmps134
    go_wp2
    exact ⟨rfl, rfl, rfl⟩
  · go_enter Tryz.func134, Tryz.ntmps134
    go_wp2
    go_end0
    exact ⟨rfl, rfl⟩

theorem rFixed_all {s : List UInt8} (h : s.length % 4 = 0) : rFixed (s.length : Int) ⟨s, 0⟩ = (s, ⟨[], 0⟩) := by
  have hp : padn s.length = 0 := by unfold padn; omega
  have h0 : ¬ (s.length : Int) < 0 := by omega
  simp [rFixed, rPadded, hp, h0]
theorem rest_any (g : Nat) (s : List UInt8) (w : World) (hR : Rd w g ⟨s, 0⟩) (h : s.length % 4 = 0) (hl : s.length ≤ 9223372036854775807) :
    Calls Tryz.prog 138 #[.agg #[.pointer (some ⟨g, 0, none⟩)]] w fun e w' => e = .returned (.string (bs s)) ∧ Touch (fun k => k = g) w w' := by
  have hB : Below w.heap.size w (w.alloc (.cells #[.pointer (some ⟨g, 0, none⟩)] 170)) := (Below.refl _ _).alloc (Nat.le_refl _) _
  have K0 := rLeft_any g ⟨s, 0⟩ (w.alloc (.cells #[.pointer (some ⟨g, 0, none⟩)] 170)).drew (hR.stays hB.drew)
  have K := rFixed_any g (s.length : Int) ⟨s, 0⟩ (w.alloc (.cells #[.pointer (some ⟨g, 0, none⟩)] 170)).drew (hR.stays hB.drew) (by omega) hl
  rw [rFixed_all h] at K
  have HB := Lib.hid hB.drew
  have K0 := Lib.hid K0
  have K := Lib.hid K
  have hlt0 := hR.lt
  have hne : ¬ w.heap.size = g := by omega
  clear hR hB
  go_enter Tryz.func138, Tryz.ntmps138
  have hlt : g < (w.alloc (.cells #[.pointer (some ⟨g, 0, none⟩)] 170)).heap.size := by simp; omega
  go_wp2_with fail
  go_region_held3 (fun W => StR g (w.alloc (.cells #[.pointer (some ⟨g, 0, none⟩)] 170)) W) (first | exact StR.start | assumption | exact StR.call StR.start hQ.2) (first
    | (go_at_call 137; refine K0.out.mono ?_; rintro e w1 ⟨rfl, rfl⟩)
    | (go_at_call 170; refine K.out.mono ?_; rintro e w2 ⟨rfl, hQ⟩))
  all_goals
    have HQ := Lib.hid hQ
    clear hQ
    go_wp2
    go_ret
    exact ⟨rfl, (Reads.behind HB.out HQ.out).2⟩
end Go.Proofs.YtfjflkmhhbhceaaGreatDoor


/-
  Layer 7, walks: a call's bytes. Conditions: the call's numbers are machine numbers.
-/
namespace Go.Proofs.YtfjflkmhhbhceaaGreatDoor
open Go.RowKit
attribute [local go_sem ↓] Go.wp_at_zero Go.wp_at_succ
attribute [local go_sem] rowAt_ptr rowOf_drew rowOf_drewN rowOf_alloc_past rowOf_new
attribute [local go_sem ↓] ldSet ldOpt ldCall

attribute [local go_sem] Call.at0 Call.lat0 Call.at1 Call.lat1 Call.at2 Call.lat2 Call.at3 Call.lat3 Call.at4 Call.lat4 Call.at5 Call.lat5 Call.at6 Call.lat6 Call.at7 Call.lat7 Call.at8 Call.lat8 Call.at9 Call.lat9 Call.at10 Call.lat10 Call.at11 Call.lat11 Call.at12 Call.lat12 Call.at13 Call.lat13 Call.at14 Call.lat14 Call.at15 Call.lat15 Call.at16 Call.lat16 Call.at17 Call.lat17 Call.at18 Call.lat18 Call.at19 Call.lat19 Call.at20 Call.lat20 Call.at21 Call.lat21 Call.at22 Call.lat22 Call.at23 Call.lat23 Call.sub0_24 Call.lsub0_24 Call.sub9_10 Call.lsub9_10 Call.sub9_2 Call.lsub9_2 Call.sub11_2 Call.lsub11_2 Call.sub13_2 Call.lsub13_2 Call.sub15_2 Call.lsub15_2 Call.sub17_2 Call.lsub17_2 Call.sub19_2 Call.lsub19_2 Call.len Sett.at0 Sett.lat0 Sett.at1 Sett.lat1 Sett.at2 Sett.lat2 Sett.at3 Sett.lat3 Sett.at4 Sett.lat4 Sett.at5 Sett.lat5 Sett.at6 Sett.lat6 Sett.at7 Sett.lat7 Sett.at8 Sett.lat8 Sett.at9 Sett.lat9 Sett.sub0_10 Sett.lsub0_10 Sett.sub0_2 Sett.lsub0_2 Sett.sub2_2 Sett.lsub2_2 Sett.sub4_2 Sett.lsub4_2 Sett.sub6_2 Sett.lsub6_2 Sett.sub8_2 Sett.lsub8_2 Sett.len Opt.at0 Opt.lat0 Opt.at1 Opt.lat1 Opt.sub0_2 Opt.lsub0_2 Opt.len

set_option maxRecDepth 20000 in
set_option maxHeartbeats 400000 in
theorem put7_any (x : Call) (w : World) (hgo : x.offset ≤ 9223372036854775807) (hgk : x.cookie ≤ 9223372036854775807) (hgv : x.verf ≤ 9223372036854775807) (hgs : x.set.good) (hgg : x.guard.n ≤ 9223372036854775807) :
    Calls Tryz.prog 86 #[.agg x.vals.toArray] w fun e w' => e = .returned (.tuple #[.string (bs (cPut x).1), .int .i64 (cPut x).2]) ∧ Below w.heap.size w w' := by
  have hb := Blk.new w 36 x.vals
  have hB : Below w.heap.size w (w.alloc (.cells x.vals.toArray 36)) := (Below.refl _ _).alloc (Nat.le_refl _) _
  have rX : rowOf (w.alloc (.cells x.vals.toArray 36)) w.heap.size 0 24 = some x.vals.toArray := hb.row 0 24 (by simp [Call.len])
  have hcf : ∀ args W, (callFunc 125 args).run Tryz.prog W = .ok (.enter 125 args) W := fun args W => by kernel_rfl
  by_cases hck : cCheck x = 0
  · have HS := Lib.hid (show cPut x = (cLaid x (cFields x.proc) (cFields x.proc).length, 0) by simp [cPut, hck])
    have hma := cCheck_fine hck
    go_enter Tryz.func86, Tryz.ntmps86
    go_wp2_with fail
    refine (check7_any x _).mono ?_
    rintro e w1 ⟨rfl, hb1⟩
    rw [hck]
    have hX := hb.stays hb1
    have hB1 := below_then hB hb1
    clear rX hb hB
    have hW := Wr.fresh w1
    have hX2 := hX.alloc (.cells #[.slice none 0 0] 195)
    have hB2 := hB1.alloc hB1.size (.cells #[.slice none 0 0] 195)
    have hs2 : (w1.alloc (.cells #[.slice none 0 0] 195)).heap.size = w1.heap.size + 1 := by simp
    have hW3 := hW.alloc (.cells #[ptr w1.heap.size] 193)
    have hX3 := hX2.alloc (.cells #[ptr w1.heap.size] 193)
    have hB3 := hB2.alloc hB2.size (.cells #[ptr w1.heap.size] 193)
    have hH3 := Blk.new (w1.alloc (.cells #[.slice none 0 0] 195)) 193 [ptr w1.heap.size]
    rw [hs2] at hH3
    have hlt : w.heap.size < w1.heap.size := Nat.lt_of_lt_of_le (by simp) hb1.size
    have hcX := hX.cell
    have HX := Lib.hid hX3
    have HW3 := Lib.hid hW3
    have HB := Lib.hid hB3
    have HH3 := Lib.hid hH3
    clear hX3 hW3 hB3 hH3 hX2 hB2 hs2 hW hX hB1 hb1
    go_wp2_with fail
    have hl := fun k (hk : k < (cFields x.proc).length) => cFields_letter x.proc hk
    have hlen := cLaid_len x (cFields x.proc) hma hl
    have hsh := cFields_short x.proc
    change Calls _ _ #[_, .func (.func _) #[] [ptr (w1.heap.size + 1), ptr w.heap.size].toArray] _ _
    refine (each_any x.proc 125 [ptr (w1.heap.size + 1), ptr w.heap.size] _ (fun _ => true) (Laying w w1.heap.size (w1.heap.size + 1) w.heap.size x (cFields x.proc)) hcf ?_ ?_ ?_).mono ?_
    · exact fun W h => ⟨⟨.slice none 0 0, HW3.out.stays h, by simp [Value.ownBlock]⟩, HH3.out.stays h, HX.out.stays h, below_then HB.out h⟩
    · exact fun k W b l pos pos' hb h hI => by
        obtain ⟨⟨sv, hW, hrow⟩, hH, hX, hB⟩ := h
        refine ⟨⟨sv, ?_, hrow⟩, hH.farIter (hH.ne_itr hI) _ _, hX.farIter (hX.ne_itr hI) _ _, Below.setIter hB (Nat.le_trans HB.out.size hb) _ _⟩
        exact hW.touch ((Touch.refl (fun k => k = b) W).setIter (.inl rfl) _ _) fun k hf e => hW.foot_ne_itr hI (e ▸ hf)
    · intro k hk W hS
      exact put1_any w _ _ _ (Nat.le_of_lt hlt) x _ k hk (hl k hk) (by
        rw [cMayAll, List.all_eq_true] at hma
        exact hma _ (List.getElem_mem hk)) hgo hgk hgv hgs hgg (by have := hlen k (Nat.le_of_lt hk); omega) W hS
    · rintro e w5 ⟨m, hS, hcase⟩
      rcases hcase with ⟨rfl, hall, rfl⟩ | ⟨j, rfl, hj, hok, hbad, rfl⟩
      · obtain ⟨⟨sv, hW, hrow⟩, hH, hX, hB⟩ := hS
        have hcH := hH.cell
        clear hX hcX hlen hl hma hH HX HW3 HB HH3 hall hsh
        generalize cLaid x (cFields x.proc) (cFields x.proc).length = l at *
        go_wp2_with fail
        refine (wText_any _ sv _ _ hW).mono ?_
        rintro e w6 ⟨rfl, rfl⟩
        go_wp2
        go_ret2
        rw [HS.out]
        exact ⟨rfl, hB⟩
      · cases hbad
  · have HS := Lib.hid (show cPut x = ([], cCheck x) by simp [cPut, hck])
    have h1 : ((cCheck x != 0) = true) := by simpa using hck
    have hc6 := fun W => check7_any x W
    generalize cCheck x = n at *
    go_enter Tryz.func86, Tryz.ntmps86
    go_wp2_with fail
    refine (hc6 _).mono ?_
    rintro e w1 ⟨rfl, hb1⟩
    go_wp2
    go_ret2
    rw [HS.out]
    exact ⟨rfl, below_then hB hb1⟩
end Go.Proofs.YtfjflkmhhbhceaaGreatDoor

/-
  Layer 9, walks: a message's bytes. Conditions: a message that may be, of at most 2048 bytes.
-/
import Derived.Test.YtlblenojhfeboaaDoorRpcWalkA
import Derived.Test.YtlblenojhfeboaaDoorXdrWalkE
import Derived.Test.YtlblenojhfeboaaDoorLists
import Derived.Outline
namespace Go.Proofs.YtlblenojhfeboaaDoor
open Go.RowKit
attribute [local go_sem ↓] Go.wp_at_zero Go.wp_at_succ
attribute [local go_sem] rowAt_ptr rowOf_drew rowOf_drewN rowOf_alloc_past rowOf_new
attribute [local go_sem ↓] eqCred eqCred0 ldCred ldMessage

attribute [local go_sem] guardCred Message.at0 Message.lat0 Message.at1 Message.lat1 Message.at2 Message.lat2 Message.at3 Message.lat3 Message.at4 Message.lat4 Message.at5 Message.lat5 Message.at6 Message.lat6 Message.at7 Message.lat7 Message.at8 Message.lat8 Message.at9 Message.lat9 Message.sub0_10 Message.lsub0_10 Message.sub4_4 Message.lsub4_4 Message.len Cred.at0 Cred.lat0 Cred.at1 Cred.lat1 Cred.at2 Cred.lat2 Cred.at3 Cred.lat3 Cred.sub0_4 Cred.lsub0_4 Cred.len

def intsV (l : List Int) : List Value := l.map fun n => .int .i64 n
theorem intsV_get {w : World} {h : Nat} {T : TypeId} {l : List Int} (hB : Blk w h T (intsV l)) {k : Nat} (hk : k < l.length) : w.cell? ⟨h, k, none⟩ = some (.int .i64 l[k]) := by
  rw [hB.cell]; simp [intsV, hk]
def in32 (l : List Int) : Bool := l.all fun n => decide (0 ≤ n) && decide (n ≤ 4294967295)
theorem in32_get {l : List Int} (h : in32 l = true) {k : Nat} (hk : k < l.length) : 0 ≤ l[k] ∧ l[k] ≤ 4294967295 := by
  have := List.all_eq_true.1 h l[k] (List.getElem_mem hk)
  simpa using this
theorem nums4_succ {l : List Int} {k : Nat} (hk : k < l.length) : nums4 (l.take (k + 1)) = nums4 (l.take k) ++ num (l[k]).toNat 4 := by
  unfold nums4; rw [take_next _ _ hk, List.flatMap_append]; simp
theorem nums4_len (l : List Int) : (nums4 l).length = 4 * l.length := by
  induction l with
  | nil => rfl
  | cons n l ih => unfold nums4 at *; simp only [List.flatMap_cons, List.length_append, num_len, ih, List.length_cons]; omega
theorem may_in32 {m : Message} (h : m.may = true) : in32 m.nums = true := by
  obtain ⟨xid, answer, again, proc, cred, accept, body⟩ := m
  cases answer <;> cases again <;> first | (simp [Message.may, num32, thereP, Cred.ok, cred0] at h; done) | (simp [Message.may, num32, thereP, Cred.ok, cred0] at h; simp [Message.nums, in32]; grind)
theorem may_body {m : Message} (h : m.may = true) : m.body.length % 4 = 0 := by
  simp [Message.may] at h; exact h.2.1

def chain9 (w : World) (m : Message) (l : List Int) : World :=
  ((w.alloc (.cells m.vals.toArray 42)).alloc (.cells #[.slice none 0 0] 87)).alloc (.cells (intsV l).toArray 3)
theorem chain9_one (w : World) (m : Message) (l : List Int) : Wr (chain9 w m l) (w.heap.size + 1) (.slice none 0 0) [] ∧ Blk (chain9 w m l) (w.heap.size + 1 + 1) 3 (intsV l) ∧ Blk (chain9 w m l) w.heap.size 42 m.vals ∧ Below w.heap.size w (chain9 w m l) := by
  have b0 := Blk.new w 42 m.vals
  have B0 : Below w.heap.size w (w.alloc (.cells m.vals.toArray 42)) := (Below.refl _ _).alloc (Nat.le_refl _) _
  have e0 : (w.alloc (.cells m.vals.toArray 42)).heap.size = w.heap.size + 1 := by simp
  unfold chain9
  generalize w.alloc (.cells m.vals.toArray 42) = w0 at *
  have b1 := Wr.fresh w0
  have B1 := B0.alloc B0.size (.cells #[.slice none 0 0] 87)
  have e1 : (w0.alloc (.cells #[.slice none 0 0] 87)).heap.size = w.heap.size + 1 + 1 := by simp [e0]
  have a1 := b0.alloc (.cells #[.slice none 0 0] 87)
  generalize w0.alloc (.cells #[.slice none 0 0] 87) = w1 at *
  have b2 := Blk.new w1 3 (intsV l)
  have B2 := B1.alloc B1.size (.cells (intsV l).toArray 3)
  rw [e1] at b2
  rw [e0] at b1
  exact ⟨b1.alloc _, b2, a1.alloc _, B2⟩
theorem chain9_two (w : World) (m : Message) (l l' : List Int) : Wr ((chain9 w m l).alloc (.cells (intsV l').toArray 3)) (w.heap.size + 1) (.slice none 0 0) [] ∧ Blk ((chain9 w m l).alloc (.cells (intsV l').toArray 3)) (w.heap.size + 1 + 1 + 1) 3 (intsV l') ∧
    Blk ((chain9 w m l).alloc (.cells (intsV l').toArray 3)) w.heap.size 42 m.vals ∧ Below w.heap.size w ((chain9 w m l).alloc (.cells (intsV l').toArray 3)) := by
  obtain ⟨a, _, c, d⟩ := chain9_one w m l
  have e : (chain9 w m l).heap.size = w.heap.size + 1 + 1 + 1 := by simp [chain9]
  have b := Blk.new (chain9 w m l) 3 (intsV l')
  rw [e] at b
  exact ⟨a.alloc _, b, c.alloc _, d.alloc d.size _⟩

set_option maxHeartbeats 3200000 in
theorem laid9_any (m : Message) (w : World) (hm : m.may = true) (hl : m.body.length ≤ 2048) : Calls Tryd.prog 45 #[.agg m.vals.toArray] w fun e w' => e = .returned (.string (bs m.bytes)) ∧ Below w.heap.size w w' := by
  have H32 := Lib.hid (may_in32 hm)
  have HM := Lib.hid hm
  clear hm
  cases ha : m.answer
  · have HN := Lib.hid (show m.nums = [m.xid, 0, 2, 100003, 3, m.proc, 1, 16, m.cred.client, m.cred.seq, m.cred.uid, m.cred.gid, 0, 0] by simp [Message.nums, ha])
    have HLen := Lib.hid (show m.nums.length = 14 by simp [Message.nums, ha])
    cases hg : m.again
    · have HW := Lib.hid (chain9_two w m [m.xid, 1, 0, 0, 0, m.accept] m.nums)
      rw [HN.out] at HW
      go_enter Tryd.func45, Tryd.ntmps45
      go_wp2
      change Code.wp _ _ _ _ ((chain9 w m [m.xid, 1, 0, 0, 0, m.accept]).alloc (.cells (intsV [m.xid, 0, 2, 100003, 3, m.proc, 1, 16, m.cred.client, m.cred.seq, m.cred.uid, m.cred.gid, 0, 0]).toArray 3))
      rw [← HN.out] at HW ⊢
      generalize ((chain9 w m [m.xid, 1, 0, 0, 0, m.accept]).alloc (.cells (intsV m.nums).toArray 3)) = W0 at *
      clear HN
      generalize hl6 : m.nums = l at *
      have HL := Lib.hid hl6
      clear hl6
      go_loopw [40] (fun i wr => ∃ (k : Nat) (sv' : Value), k ≤ 14 ∧ i = .int .i64 k ∧ MovedTo (w.heap.size + 1) (.slice none 0 0) sv' (nums4 (l.take k)) W0 wr ∧ Blk wr (w.heap.size + 1 + 1 + 1) 3 (intsV l) ∧ Blk wr w.heap.size 42 m.vals) (fun i _ => 14 - (intOf i).toNat)
      case atStart => exact ⟨0, _, by omega, rfl, ⟨HW.out.1, fun _ h => .inl h, Touch.refl _ _⟩, HW.out.2.1, HW.out.2.2.1⟩
      case round =>
        obtain ⟨k, sv', hk, rfl, ⟨hW3, hr3, hT3⟩, hI3, hM3⟩ := hrel
        have HR3 := Lib.hid hr3
        have HT3 := Lib.hid hT3
        clear hr3 hT3
        by_cases hlt : k < 14
        · have hkl : k < l.length := by rw [HLen.out]; exact hlt
          have hc := intsV_get hI3 hkl
          have h32 := in32_get H32.out hkl
          have HS := Lib.hid (nums4_succ hkl)
          have hnl := nums4_len (l.take k)
          have htl : (l.take k).length ≤ k := List.length_take_le _ _
          obtain ⟨n, hn⟩ := Int.eq_ofNat_of_zero_le h32.1
          rw [hn] at hc h32
          have HNN := Lib.hid hn
          clear hn
          go_wp2_with fail
          refine (wU32_any _ sv' _ n _ hW3 (by omega) (by omega)).mono ?_
          rintro e w4 ⟨rfl, sv4, hM4⟩
          have hI4 := hW3.keeps hI3 (by decide) (by decide) hM4.2.2
          have hMs4 := hW3.keeps hM3 (by decide) (by decide) hM4.2.2
          have HM4 := Lib.hid (MovedTo.next HR3.out HT3.out hM4)
          clear hM4 hI3 hM3 hc hW3 hnl
          go_wp2
          go_roundw
          case rel => exact ⟨k + 1, sv4, by omega, by go_num, by rw [HS.out, HNN.out]; exact HM4.out, hI4, hMs4⟩
          case measure => simp [intOf]; omega
        · obtain rfl : k = 14 := by omega
          have hnl := nums4_len (l.take 14)
          have htl : (l.take 14).length ≤ 14 := List.length_take_le _ _
          have hMc := hM3.cell
          have hsz := bs_size m.body
          have hlt := hM3.lt
          go_wp2_with fail
          refine (wFixed_any _ sv' _ m.body _ hW3 (by omega) (by omega)).mono ?_
          rintro e w5 ⟨rfl, sv5, hM5⟩
          have HM5 := Lib.hid (MovedTo.next HR3.out HT3.out hM5)
          clear hM5 hI3 hM3 hMc hW3
          go_wp2_with fail
          refine (wText_any _ sv5 _ _ HM5.out.1).mono ?_
          rintro e w6 ⟨rfl, rfl⟩
          go_wp2
          go_ret
          refine ⟨ret_string (by unfold Message.bytes; rw [HL.out, List.take_of_length_le (by rw [HLen.out]; omega)]), HW.out.2.2.2.trans (Moved.below (B := w.heap.size) ⟨sv5, HM5.out⟩ (by omega) (by simp [Value.ownBlock]) HW.out.2.2.2.size)⟩
    · have HW := Lib.hid (chain9_two w m [m.xid, 1, 0, 1, 0, m.accept] m.nums)
      rw [HN.out] at HW
      go_enter Tryd.func45, Tryd.ntmps45
      go_wp2
      change Code.wp _ _ _ _ ((chain9 w m [m.xid, 1, 0, 1, 0, m.accept]).alloc (.cells (intsV [m.xid, 0, 2, 100003, 3, m.proc, 1, 16, m.cred.client, m.cred.seq, m.cred.uid, m.cred.gid, 0, 0]).toArray 3))
      rw [← HN.out] at HW ⊢
      generalize ((chain9 w m [m.xid, 1, 0, 1, 0, m.accept]).alloc (.cells (intsV m.nums).toArray 3)) = W0 at *
      clear HN
      generalize hl6 : m.nums = l at *
      have HL := Lib.hid hl6
      clear hl6
      go_loopw [40] (fun i wr => ∃ (k : Nat) (sv' : Value), k ≤ 14 ∧ i = .int .i64 k ∧ MovedTo (w.heap.size + 1) (.slice none 0 0) sv' (nums4 (l.take k)) W0 wr ∧ Blk wr (w.heap.size + 1 + 1 + 1) 3 (intsV l) ∧ Blk wr w.heap.size 42 m.vals) (fun i _ => 14 - (intOf i).toNat)
      case atStart => exact ⟨0, _, by omega, rfl, ⟨HW.out.1, fun _ h => .inl h, Touch.refl _ _⟩, HW.out.2.1, HW.out.2.2.1⟩
      case round =>
        obtain ⟨k, sv', hk, rfl, ⟨hW3, hr3, hT3⟩, hI3, hM3⟩ := hrel
        have HR3 := Lib.hid hr3
        have HT3 := Lib.hid hT3
        clear hr3 hT3
        by_cases hlt : k < 14
        · have hkl : k < l.length := by rw [HLen.out]; exact hlt
          have hc := intsV_get hI3 hkl
          have h32 := in32_get H32.out hkl
          have HS := Lib.hid (nums4_succ hkl)
          have hnl := nums4_len (l.take k)
          have htl : (l.take k).length ≤ k := List.length_take_le _ _
          obtain ⟨n, hn⟩ := Int.eq_ofNat_of_zero_le h32.1
          rw [hn] at hc h32
          have HNN := Lib.hid hn
          clear hn
          go_wp2_with fail
          refine (wU32_any _ sv' _ n _ hW3 (by omega) (by omega)).mono ?_
          rintro e w4 ⟨rfl, sv4, hM4⟩
          have hI4 := hW3.keeps hI3 (by decide) (by decide) hM4.2.2
          have hMs4 := hW3.keeps hM3 (by decide) (by decide) hM4.2.2
          have HM4 := Lib.hid (MovedTo.next HR3.out HT3.out hM4)
          clear hM4 hI3 hM3 hc hW3 hnl
          go_wp2
          go_roundw
          case rel => exact ⟨k + 1, sv4, by omega, by go_num, by rw [HS.out, HNN.out]; exact HM4.out, hI4, hMs4⟩
          case measure => simp [intOf]; omega
        · obtain rfl : k = 14 := by omega
          have hnl := nums4_len (l.take 14)
          have htl : (l.take 14).length ≤ 14 := List.length_take_le _ _
          have hMc := hM3.cell
          have hsz := bs_size m.body
          have hlt := hM3.lt
          go_wp2_with fail
          refine (wFixed_any _ sv' _ m.body _ hW3 (by omega) (by omega)).mono ?_
          rintro e w5 ⟨rfl, sv5, hM5⟩
          have HM5 := Lib.hid (MovedTo.next HR3.out HT3.out hM5)
          clear hM5 hI3 hM3 hMc hW3
          go_wp2_with fail
          refine (wText_any _ sv5 _ _ HM5.out.1).mono ?_
          rintro e w6 ⟨rfl, rfl⟩
          go_wp2
          go_ret
          refine ⟨ret_string (by unfold Message.bytes; rw [HL.out, List.take_of_length_le (by rw [HLen.out]; omega)]), HW.out.2.2.2.trans (Moved.below (B := w.heap.size) ⟨sv5, HM5.out⟩ (by omega) (by simp [Value.ownBlock]) HW.out.2.2.2.size)⟩
  · cases hg : m.again
    · have HN := Lib.hid (show m.nums = [m.xid, 1, 0, 0, 0, m.accept] by simp [Message.nums, ha, hg])
      have HLen := Lib.hid (show m.nums.length = 6 by simp [Message.nums, ha])
      have HW := Lib.hid (chain9_one w m m.nums)
      rw [HN.out] at HW
      go_enter Tryd.func45, Tryd.ntmps45
      go_wp2
      change Code.wp _ _ _ _ (chain9 w m [m.xid, 1, 0, 0, 0, m.accept])
      rw [← HN.out] at HW ⊢
      generalize chain9 w m m.nums = W0 at *
      clear HN
      generalize hl6 : m.nums = l at *
      have HL := Lib.hid hl6
      clear hl6
      go_loopw [40] (fun i wr => ∃ (k : Nat) (sv' : Value), k ≤ 6 ∧ i = .int .i64 k ∧ MovedTo (w.heap.size + 1) (.slice none 0 0) sv' (nums4 (l.take k)) W0 wr ∧ Blk wr (w.heap.size + 1 + 1) 3 (intsV l) ∧ Blk wr w.heap.size 42 m.vals) (fun i _ => 6 - (intOf i).toNat)
      case atStart => exact ⟨0, _, by omega, rfl, ⟨HW.out.1, fun _ h => .inl h, Touch.refl _ _⟩, HW.out.2.1, HW.out.2.2.1⟩
      case round =>
        obtain ⟨k, sv', hk, rfl, ⟨hW3, hr3, hT3⟩, hI3, hM3⟩ := hrel
        have HR3 := Lib.hid hr3
        have HT3 := Lib.hid hT3
        clear hr3 hT3
        by_cases hlt : k < 6
        · have hkl : k < l.length := by rw [HLen.out]; exact hlt
          have hc := intsV_get hI3 hkl
          have h32 := in32_get H32.out hkl
          have HS := Lib.hid (nums4_succ hkl)
          have hnl := nums4_len (l.take k)
          have htl : (l.take k).length ≤ k := List.length_take_le _ _
          obtain ⟨n, hn⟩ := Int.eq_ofNat_of_zero_le h32.1
          rw [hn] at hc h32
          have HNN := Lib.hid hn
          clear hn
          go_wp2_with fail
          refine (wU32_any _ sv' _ n _ hW3 (by omega) (by omega)).mono ?_
          rintro e w4 ⟨rfl, sv4, hM4⟩
          have hI4 := hW3.keeps hI3 (by decide) (by decide) hM4.2.2
          have hMs4 := hW3.keeps hM3 (by decide) (by decide) hM4.2.2
          have HM4 := Lib.hid (MovedTo.next HR3.out HT3.out hM4)
          clear hM4 hI3 hM3 hc hW3 hnl
          go_wp2
          go_roundw
          case rel => exact ⟨k + 1, sv4, by omega, by go_num, by rw [HS.out, HNN.out]; exact HM4.out, hI4, hMs4⟩
          case measure => simp [intOf]; omega
        · obtain rfl : k = 6 := by omega
          have hnl := nums4_len (l.take 6)
          have htl : (l.take 6).length ≤ 6 := List.length_take_le _ _
          have hMc := hM3.cell
          have hsz := bs_size m.body
          have hlt := hM3.lt
          go_wp2_with fail
          refine (wFixed_any _ sv' _ m.body _ hW3 (by omega) (by omega)).mono ?_
          rintro e w5 ⟨rfl, sv5, hM5⟩
          have HM5 := Lib.hid (MovedTo.next HR3.out HT3.out hM5)
          clear hM5 hI3 hM3 hMc hW3
          go_wp2_with fail
          refine (wText_any _ sv5 _ _ HM5.out.1).mono ?_
          rintro e w6 ⟨rfl, rfl⟩
          go_wp2
          go_ret
          refine ⟨ret_string (by unfold Message.bytes; rw [HL.out, List.take_of_length_le (by rw [HLen.out]; omega)]), HW.out.2.2.2.trans (Moved.below (B := w.heap.size) ⟨sv5, HM5.out⟩ (by omega) (by simp [Value.ownBlock]) HW.out.2.2.2.size)⟩
    · have HN := Lib.hid (show m.nums = [m.xid, 1, 0, 1, 0, m.accept] by simp [Message.nums, ha, hg])
      have HLen := Lib.hid (show m.nums.length = 6 by simp [Message.nums, ha])
      have HW := Lib.hid (chain9_one w m m.nums)
      rw [HN.out] at HW
      go_enter Tryd.func45, Tryd.ntmps45
      go_wp2
      change Code.wp _ _ _ _ (chain9 w m [m.xid, 1, 0, 1, 0, m.accept])
      rw [← HN.out] at HW ⊢
      generalize chain9 w m m.nums = W0 at *
      clear HN
      generalize hl6 : m.nums = l at *
      have HL := Lib.hid hl6
      clear hl6
      go_loopw [40] (fun i wr => ∃ (k : Nat) (sv' : Value), k ≤ 6 ∧ i = .int .i64 k ∧ MovedTo (w.heap.size + 1) (.slice none 0 0) sv' (nums4 (l.take k)) W0 wr ∧ Blk wr (w.heap.size + 1 + 1) 3 (intsV l) ∧ Blk wr w.heap.size 42 m.vals) (fun i _ => 6 - (intOf i).toNat)
      case atStart => exact ⟨0, _, by omega, rfl, ⟨HW.out.1, fun _ h => .inl h, Touch.refl _ _⟩, HW.out.2.1, HW.out.2.2.1⟩
      case round =>
        obtain ⟨k, sv', hk, rfl, ⟨hW3, hr3, hT3⟩, hI3, hM3⟩ := hrel
        have HR3 := Lib.hid hr3
        have HT3 := Lib.hid hT3
        clear hr3 hT3
        by_cases hlt : k < 6
        · have hkl : k < l.length := by rw [HLen.out]; exact hlt
          have hc := intsV_get hI3 hkl
          have h32 := in32_get H32.out hkl
          have HS := Lib.hid (nums4_succ hkl)
          have hnl := nums4_len (l.take k)
          have htl : (l.take k).length ≤ k := List.length_take_le _ _
          obtain ⟨n, hn⟩ := Int.eq_ofNat_of_zero_le h32.1
          rw [hn] at hc h32
          have HNN := Lib.hid hn
          clear hn
          go_wp2_with fail
          refine (wU32_any _ sv' _ n _ hW3 (by omega) (by omega)).mono ?_
          rintro e w4 ⟨rfl, sv4, hM4⟩
          have hI4 := hW3.keeps hI3 (by decide) (by decide) hM4.2.2
          have hMs4 := hW3.keeps hM3 (by decide) (by decide) hM4.2.2
          have HM4 := Lib.hid (MovedTo.next HR3.out HT3.out hM4)
          clear hM4 hI3 hM3 hc hW3 hnl
          go_wp2
          go_roundw
          case rel => exact ⟨k + 1, sv4, by omega, by go_num, by rw [HS.out, HNN.out]; exact HM4.out, hI4, hMs4⟩
          case measure => simp [intOf]; omega
        · obtain rfl : k = 6 := by omega
          have hnl := nums4_len (l.take 6)
          have htl : (l.take 6).length ≤ 6 := List.length_take_le _ _
          have hMc := hM3.cell
          have hsz := bs_size m.body
          have hlt := hM3.lt
          go_wp2_with fail
          refine (wFixed_any _ sv' _ m.body _ hW3 (by omega) (by omega)).mono ?_
          rintro e w5 ⟨rfl, sv5, hM5⟩
          have HM5 := Lib.hid (MovedTo.next HR3.out HT3.out hM5)
          clear hM5 hI3 hM3 hMc hW3
          go_wp2_with fail
          refine (wText_any _ sv5 _ _ HM5.out.1).mono ?_
          rintro e w6 ⟨rfl, rfl⟩
          go_wp2
          go_ret
          refine ⟨ret_string (by unfold Message.bytes; rw [HL.out, List.take_of_length_le (by rw [HLen.out]; omega)]), HW.out.2.2.2.trans (Moved.below (B := w.heap.size) ⟨sv5, HM5.out⟩ (by omega) (by simp [Value.ownBlock]) HW.out.2.2.2.size)⟩
end Go.Proofs.YtlblenojhfeboaaDoor

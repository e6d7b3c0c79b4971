/-
  Layer 3, walks of the document's own: the parts of a handle. Condition: a text of no more than 10^18 bytes.
-/
import Derived.Test.YtlblenojhfeboaaDoorFhWalkC
import Derived.Test.YtlblenojhfeboaaDoorRefReadA
namespace Go.Proofs.YtlblenojhfeboaaDoor
open Go.RowKit
attribute [local go_sem ↓] Go.wp_at_zero Go.wp_at_succ
attribute [local go_sem] rowAt_ptr rowOf_drew rowOf_drewN rowOf_alloc_past rowOf_new
attribute [local go_sem] Parts.at0 Parts.lat0 Parts.at1 Parts.lat1 Parts.at2 Parts.lat2 Parts.sub0_3 Parts.lsub0_3 Parts.len

attribute [local go_sem ↓] ldParts

theorem bs_at0 (s : List UInt8) (i : Nat) (h : i < (bs s).size) : ((bs s)[i]'h).toNat = at0 s i := by
  unfold at0
  rw [List.getElem?_eq_getElem (by rw [bs_size] at h; exact h)]
  rfl
attribute [local go_sem] bs_at0

/-- as the document reads it -/
theorem good_ref {s : List UInt8} (hs : s.length = 16) : fhGood s = true ↔ ((at0 s 0 = 1 ∨ at0 s 0 = 2) ∧ at0 s 1 = 0 ∧ at0 s 2 = 0 ∧ at0 s 3 = 0) ∧ beVal (s.drop 8) < 9223372036854775808 := by
  have h8 : (s.drop 8).length = 8 := by rw [List.length_drop]; omega
  have e : at0 (s.drop 8) 0 = at0 s 8 := by unfold at0; rw [List.getElem?_drop]
  rw [fhGood_iff, beVal8_lt h8, e]
  constructor
  · rintro ⟨_, a, b, c, d, e⟩; exact ⟨⟨a, b, c, d⟩, e⟩
  · rintro ⟨⟨a, b, c, d⟩, e⟩; exact ⟨hs, a, b, c, d, e⟩
theorem RdF.new3 (w : World) (s : List UInt8) (h : s.length = 16) : RdF (w.alloc (.cells #[.string (bs s), .int .i64 4, .int .i64 0] 62)) w.heap.size ⟨s.drop 4, 0⟩ :=
  ⟨s, 4, Blk.new w 62 _, by omega, by omega, fun _ => rfl, fun h => absurd rfl h⟩

set_option maxRecDepth 20000 in
set_option maxHeartbeats 1600000 in
theorem refParse3_any (s : List UInt8) (w : World) (hl : s.length ≤ 1000000000000000000) : Calls Tryd.prog 13 #[.string (bs s)] w (ParseP (fhParse s) w) := by
  have hsz := bs_size s
  have hR := Blk.new w 24 parts0.vals
  have hB : Below w.heap.size w (w.alloc (.cells parts0.vals.toArray 24)) := (Below.refl _ _).alloc (Nat.le_refl _) _
  obtain ⟨Q, hQ⟩ : ∃ Q, Q = fhParse s := ⟨_, rfl⟩
  rw [← hQ]
  have HQ := Lib.hid hQ
  have HR := Lib.hid hR
  have HB := Lib.hid hB
  clear hQ hR hB
  go_enter Tryd.func13, Tryd.ntmps13
  go_upto_region 1 with fail
  change Code.wp _ _ _ _ (w.alloc (.cells parts0.vals.toArray 24))
  generalize w.alloc (.cells parts0.vals.toArray 24) = w1 at *
  have HE := Lib.hid (fun h : fhGood s = false => show Q = (parts0, 14) by rw [HQ.out, fhParse, h]; rfl)
  by_cases h16 : s.length = 16
  case neg =>
    have HV := Lib.hid (HE.out (by rw [← Bool.not_eq_true, fhGood_iff]; exact fun h => h16 h.1))
    have hne : ((s.length : Int) != 16) = true := by simp; omega
    clear h16
    go_wp2_with (first | (refine wpList_store_whole (by rfl) 24 _ _ (by rfl) w.heap.size parts0.vals _ HR.out (by rfl) (by rfl) (by rfl) (by kernel_rfl) (Parts.one _) ?_) | fail)
    exact ret_cells2 w.heap.size 0 parts0.vals (.int .i64 14) Tryd.results13 Tryd.underlying24 rfl (by kernel_rfl) rfl rfl (HR.out.whole (by rfl)).range rfl (ParseP.of HV.out (Below.setWhole HB.out (Nat.le_refl _) _))
  have hne : ((s.length : Int) != 16) = false := by simp; omega
  have HG := Lib.hid (good_ref h16)
  have H16 := Lib.hid h16
  have hsz16 : (bs s).size = 16 := by rw [bs_size, h16]
  clear hsz hl
  by_cases hpre : (at0 s 0 = 1 ∨ at0 s 0 = 2) ∧ at0 s 1 = 0 ∧ at0 s 2 = 0 ∧ at0 s 3 = 0
  case neg =>
    have HV := Lib.hid (HE.out (by rw [← Bool.not_eq_true, HG.out]; exact fun h => hpre h.1))
    clear HE HG HQ h16
    go_wp2_with (first | (refine wpList_store_whole (by rfl) 24 _ _ (by rfl) w.heap.size parts0.vals _ HR.out (by rfl) (by rfl) (by rfl) (by kernel_rfl) (Parts.one _) ?_) | fail)
    all_goals exact ret_cells2 w.heap.size 0 parts0.vals (.int .i64 14) Tryd.results13 Tryd.underlying24 rfl (by kernel_rfl) rfl rfl (HR.out.whole (by rfl)).range rfl (ParseP.of HV.out (Below.setWhole HB.out (Nat.le_refl _) _))
  obtain ⟨k, hk⟩ : ∃ k, k = at0 s 0 := ⟨_, rfl⟩
  obtain ⟨a, ha⟩ : ∃ a, a = beVal ((s.drop 4).take 4) := ⟨_, rfl⟩
  obtain ⟨b, hb⟩ : ∃ b, b = beVal (s.drop 8) := ⟨_, rfl⟩
  have r2 : rU32 ⟨s.drop 4, 0⟩ = (a, ⟨s.drop 8, 0⟩) := by
    unfold rU32 rNum
    rw [if_neg (by simp), if_neg (by simp only [List.length_drop]; omega), ha, List.drop_drop]
  have r3 : rU64 ⟨s.drop 8, 0⟩ = if 9223372036854775808 ≤ b then (0, Rs.fail 3) else (b, ⟨[], 0⟩) := by
    have e : rNum 8 ⟨s.drop 8, 0⟩ = (b, ⟨[], 0⟩) := by
      unfold rNum
      have h8 : (s.drop 8).length = 8 := by rw [List.length_drop]; omega
      rw [if_neg (by simp), if_neg (by simp only; omega)]
      show (beVal ((s.drop 8).take 8), Rs.mk ((s.drop 8).drop 8) 0) = _
      rw [List.take_of_length_le (l := s.drop 8) (by omega), List.drop_of_length_le (l := s.drop 8) (by omega), hb]
    unfold rU64
    rw [e]
  have HOK := Lib.hid (fun h : b < 9223372036854775808 => show Q = (⟨(k : Int), (a : Int), (b : Int)⟩, 0) by
    rw [HQ.out, fhParse, if_pos (HG.out.2 ⟨hpre, hb ▸ h⟩), hk, ha, hb]; rfl)
  have HNO := Lib.hid (fun h : ¬ b < 9223372036854775808 => HE.out (by rw [← Bool.not_eq_true, HG.out]; exact fun h' => h (hb ▸ h'.2)))
  have hkk : at0 s 0 = k := hk.symm
  rw [hkk] at hpre
  obtain ⟨hk12, q1, q2, q3⟩ := hpre
  have hN := RdF.new3 w1 s h16
  have hbx : Below w1.heap.size w1 (w1.alloc (.cells #[.string (bs s), .int .i64 4, .int .i64 0] 62)) := (Below.refl _ _).alloc (Nat.le_refl _) _
  have HBx := Lib.hid (below_then HB.out hbx)
  have HRx := Lib.hid (HR.out.stays hbx)
  have hlt : w.heap.size < w1.heap.size := HR.out.lt
  have K2 := refU4_any w1.heap.size ⟨s.drop 4, 0⟩ _ hN
  rw [r2] at K2
  have K2 := Lib.hid K2
  have R3 := Lib.hid r3
  clear hk ha hb r2 r3 HE HQ HG h16 hN hbx HR HB
  obtain ⟨g, hg⟩ : ∃ g, g = w1.heap.size := ⟨_, rfl⟩
  have HGD := Lib.hid hg
  have hk256 : (k : Int) < 256 := by omega
  have hpre2 : ∀ w5, Touch (fun k => k = w1.heap.size) (w1.alloc (.cells #[.string (bs s), .int .i64 4, .int .i64 0] 62)) w5 → Below w.heap.size w w5 ∧ Blk w5 w.heap.size 24 parts0.vals := fun w5 hT =>
    ⟨HBx.out.trans (hT.below (fun k _ hk => by omega) HBx.out.size), HRx.out.touch hT (by omega)⟩
  have HPRE := Lib.hid hpre2
  clear hpre2 HBx HRx hlt HGD hg
  rcases hk12 with rfl | rfl
  all_goals
    go_wp2_with fail
    refine K2.out.mono ?_
    rintro e w2 ⟨rfl, hRd2, hT2⟩
    have K3 := refU8_any w1.heap.size ⟨s.drop 8, 0⟩ w2 hRd2
    rw [R3.out] at K3
    have HT2 := Lib.hid hT2
    clear hRd2 hT2 K2
    by_cases hbig : 9223372036854775808 ≤ b
    · rw [if_pos hbig] at K3
      have HV := Lib.hid (HNO.out (by omega))
      have K3 := Lib.hid K3
      clear HOK HNO hbig
      go_wp2_with fail
      refine K3.out.mono ?_
      rintro e w3 ⟨rfl, hRd3, hT3⟩
      obtain ⟨hB3, hR3⟩ := HPRE.out _ (HT2.out.then_ hT3)
      have hc := ReadsF.err hRd3
      have HB3 := Lib.hid hB3
      have HR3 := Lib.hid hR3
      clear hRd3 hT3 hB3 hR3 HPRE HT2
      go_wp2_with (first | (refine wpList_store_whole (by rfl) 24 _ _ (by rfl) w.heap.size parts0.vals _ HR3.out (by rfl) (by rfl) (by rfl) (by kernel_rfl) (Parts.one _) ?_) | fail)
      exact ret_cells2 w.heap.size 0 parts0.vals (.int .i64 14) Tryd.results13 Tryd.underlying24 rfl (by kernel_rfl) rfl rfl (HR3.out.whole (by rfl)).range rfl (ParseP.of HV.out (Below.setWhole HB3.out (Nat.le_refl _) _))
    · rw [if_neg hbig] at K3
      have HV := Lib.hid (HOK.out (by omega))
      have K3 := Lib.hid K3
      clear HOK HNO hbig
      go_wp2_with fail
      refine K3.out.mono ?_
      rintro e w3 ⟨rfl, hRd3, hT3⟩
      obtain ⟨hB3, hR3⟩ := HPRE.out _ (HT2.out.then_ hT3)
      have hc := ReadsF.err hRd3
      have HB3 := Lib.hid hB3
      have HR3 := Lib.hid hR3
      clear hRd3 hT3 hB3 hR3 HPRE HT2
      go_wp2_with (first | (refine wpList_store_whole (by rfl) 24 _ _ (by rfl) w.heap.size (Parts.mk (1 : Int) (a : Int) (b : Int)).vals _ HR3.out (by rfl) (by rfl) (by rfl) (by kernel_rfl) (Parts.one _) ?_) | (refine wpList_store_whole (by rfl) 24 _ _ (by rfl) w.heap.size (Parts.mk (2 : Int) (a : Int) (b : Int)).vals _ HR3.out (by rfl) (by rfl) (by rfl) (by kernel_rfl) (Parts.one _) ?_) | fail)
      first
        | exact ret_cells2 w.heap.size 0 (Parts.mk (1 : Int) (a : Int) (b : Int)).vals (.int .i64 0) Tryd.results13 Tryd.underlying24 rfl (by kernel_rfl) rfl rfl (HR3.out.whole (by rfl)).range rfl (ParseP.of HV.out (Below.setWhole HB3.out (Nat.le_refl _) _))
        | exact ret_cells2 w.heap.size 0 (Parts.mk (2 : Int) (a : Int) (b : Int)).vals (.int .i64 0) Tryd.results13 Tryd.underlying24 rfl (by kernel_rfl) rfl rfl (HR3.out.whole (by rfl)).range rfl (ParseP.of HV.out (Below.setWhole HB3.out (Nat.le_refl _) _))
end Go.Proofs.YtlblenojhfeboaaDoor

/-
  Layer 5, walks: to no writer nothing is put; of no reader neither what was behind, nor what is to be set, is got. No condition.
-/
import Derived.Test.YtbpfniocaibfcaaAttrNilA
import Derived.Test.YtbpfniocaibfcaaAttrReadF
namespace Go.Proofs.Ytbpfniocaibfcaa
open Go.RowKit
attribute [local go_sem ↓] Go.wp_at_zero Go.wp_at_succ
attribute [local go_sem] rowAt_ptr rowOf_drew rowOf_drewN rowOf_alloc_past rowOf_new
attribute [local go_sem ↓] ldAttrR ldOpt ldSet ldPost ldWcc

attribute [local go_sem] Attr.at0 Attr.lat0 Attr.at1 Attr.lat1 Attr.at2 Attr.lat2 Attr.at3 Attr.lat3 Attr.at4 Attr.lat4 Attr.at5 Attr.lat5 Attr.at6 Attr.lat6 Attr.at7 Attr.lat7 Attr.at8 Attr.lat8 Attr.at9 Attr.lat9 Attr.sub0_10 Attr.lsub0_10 Attr.len Opt.at0 Opt.lat0 Opt.at1 Opt.lat1 Opt.sub0_2 Opt.lsub0_2 Opt.len Sett.at0 Sett.lat0 Sett.at1 Sett.lat1 Sett.at2 Sett.lat2 Sett.at3 Sett.lat3 Sett.at4 Sett.lat4 Sett.at5 Sett.lat5 Sett.at6 Sett.lat6 Sett.at7 Sett.lat7 Sett.at8 Sett.lat8 Sett.at9 Sett.lat9 Sett.sub0_10 Sett.lsub0_10 Sett.sub0_2 Sett.lsub0_2 Sett.sub2_2 Sett.lsub2_2 Sett.sub4_2 Sett.lsub4_2 Sett.sub6_2 Sett.lsub6_2 Sett.sub8_2 Sett.lsub8_2 Sett.len Post.at0 Post.lat0 Post.at1 Post.lat1 Post.at2 Post.lat2 Post.at3 Post.lat3 Post.at4 Post.lat4 Post.at5 Post.lat5 Post.at6 Post.lat6 Post.at7 Post.lat7 Post.at8 Post.lat8 Post.at9 Post.lat9 Post.at10 Post.lat10 Post.sub0_11 Post.lsub0_11 Post.sub1_10 Post.lsub1_10 Post.len Wcc.at0 Wcc.lat0 Wcc.at1 Wcc.lat1 Wcc.at2 Wcc.lat2 Wcc.at3 Wcc.lat3 Wcc.at4 Wcc.lat4 Wcc.at5 Wcc.lat5 Wcc.at6 Wcc.lat6 Wcc.at7 Wcc.lat7 Wcc.at8 Wcc.lat8 Wcc.at9 Wcc.lat9 Wcc.at10 Wcc.lat10 Wcc.at11 Wcc.lat11 Wcc.at12 Wcc.lat12 Wcc.sub0_13 Wcc.lsub0_13 Wcc.sub0_2 Wcc.lsub0_2 Wcc.sub2_11 Wcc.lsub2_11 Wcc.sub3_10 Wcc.lsub3_10 Wcc.len optV

theorem putAttr_nil (s : Attr) (w : World) :
    Calls Try.prog 35 #[.pointer none, .agg s.vals.toArray] w fun e w' => e = .returned (.int .i64 1) ∧ Below w.heap.size w w' := by
  go_enter Try.func35, Try.ntmps35
  go_wp2
  go_ret
  exact ⟨rfl, (Below.refl _ _).alloc (Nat.le_refl _) _⟩
theorem putPost_nil (s : Post) (w : World) :
    Calls Try.prog 36 #[.pointer none, .agg s.vals.toArray] w fun e w' => e = .returned (.int .i64 1) ∧ Below w.heap.size w w' := by
  go_enter Try.func36, Try.ntmps36
  go_wp2
  go_ret
  exact ⟨rfl, (Below.refl _ _).alloc (Nat.le_refl _) _⟩
theorem putWcc_nil (s : Wcc) (w : World) :
    Calls Try.prog 37 #[.pointer none, .agg s.vals.toArray] w fun e w' => e = .returned (.int .i64 1) ∧ Below w.heap.size w w' := by
  go_enter Try.func37, Try.ntmps37
  go_wp2
  go_ret
  exact ⟨rfl, (Below.refl _ _).alloc (Nat.le_refl _) _⟩

set_option maxHeartbeats 3200000 in
theorem getWcc_nil (w : World) : Calls Try.prog 29 #[.pointer none] w fun e w' => e = .returned (gotV wccZ.vals 1) ∧ Below w.heap.size w w' := by
  have hb := Blk.new w 61 wccZ.vals
  have hB : Below w.heap.size w (w.alloc (.cells wccZ.vals.toArray 61)) := (Below.refl _ _).alloc (Nat.le_refl _) _
  go_enter Try.func29, Try.ntmps29
  go_wp2_with fail
  change Calls _ _ _ (w.alloc (.cells wccZ.vals.toArray 61)) _
  generalize w.alloc (.cells wccZ.vals.toArray 61) = w0 at *
  refine (rOpt_nil _).mono ?_
  rintro e w1 ⟨rfl, hb0⟩
  have hb1 := (hb.stays hb0).alloc (.cells wccZ.vals.toArray 61)
  have hp1 := Blk.new w1 61 wccZ.vals
  have hlt2 : w.heap.size < w1.heap.size := (hb.stays hb0).lt
  have hne2 : w.heap.size ≠ w1.heap.size := by omega
  have hB1 := below_then hB hb0
  have hB2 := hB1.alloc hB1.size (.cells wccZ.vals.toArray 61)
  clear hb hb0 hB hB1
  go_wp2_with fail
  change Calls _ _ _ (w1.alloc (.cells wccZ.vals.toArray 61)) _
  generalize w1.alloc (.cells wccZ.vals.toArray 61) = w2 at *
  refine (posted_nil _).mono ?_
  rintro e w3 ⟨rfl, hb⟩
  have hb3 := hb1.stays hb
  have hp3 := hp1.stays hb
  have hB3 := below_then hB2 hb
  have hp4 := hp3.sets postZ.vals _ 2
  rw [show setAt wccZ.vals 2 postZ.vals = wccZ.vals from rfl] at hp4
  have hb4 := Blk.farCells (g := w.heap.size) hne2 postZ.vals 2 _ hb3
  have hB4 : Below w.heap.size w (w3.setCells w1.heap.size 2 postZ.vals) := Below.setCells (by omega) postZ.vals 2 w3 hB3
  have rp : rowOf (w3.setCells w1.heap.size 2 postZ.vals) w1.heap.size 0 13 = some wccZ.vals.toArray := hp4.row 0 13 (by simp [Wcc.len])
  obtain ⟨w4, hw4⟩ : ∃ w4, w4 = w3.setCells w1.heap.size 2 postZ.vals := ⟨_, rfl⟩
  rw [← hw4] at rp hb4 hB4
  have HW4 := Lib.hid hw4
  clear hB2 hB3 hp4 hb1 hb3 hp1 hw4 hb
  go_wp2_with (first | (refine wpList_store_part (by rfl) 57 _ _ (by rfl) w1.heap.size 2 postZ.vals _ hp3 (by simp [Post.len, Wcc.len]) (by rfl) (by rfl) (by kernel_rfl) (Post.one _) ?_; rw [← HW4.out]) | fail)
  refine (gotWcc_nil wccZ _ _).mono ?_
  rintro e w5 ⟨rfl, hb⟩
  have hb5 := hb4.stays hb
  have hB5 := below_then hB4 hb
  clear hb hb4 hB4
  unfold gotV
  go_wp2_with (first | (refine wpList_store_whole (by rfl) 61 _ _ (by rfl) w.heap.size wccZ.vals _ hb5 (by rfl) (by rfl) (by rfl) (by kernel_rfl) (Wcc.one _) ?_) | fail)
  exact ret_cells2 w.heap.size 0 wccZ.vals (.int .i64 1) Try.results29 Try.underlying61 rfl (by kernel_rfl) rfl rfl (hb5.whole (by rfl)).range rfl ⟨rfl, Below.setWhole hB5 (Nat.le_refl _) _⟩

theorem settZ_step {k : Nat} (hk : k < 5) : setAt settZ.vals (2 * k) (optV (false, 0)) = settZ.vals := by
  match k, hk with
  | 0, _ | 1, _ | 2, _ | 3, _ | 4, _ => rfl

set_option maxRecDepth 20000 in
set_option maxHeartbeats 3200000 in
theorem getSett_nil (w : World) : Calls Try.prog 30 #[.pointer none] w fun e w' => e = .returned (gotV settZ.vals 1) ∧ Below w.heap.size w w' := by
  obtain ⟨b0, b1, hB, hsz⟩ := chain2_blks w settZ.vals settZ.vals 44 44
  go_enter Try.func30, Try.ntmps30
  go_wp2_with fail
  change Calls _ _ _ ((w.alloc (.cells settZ.vals.toArray 44)).alloc (.cells settZ.vals.toArray 44)) _
  generalize (w.alloc (.cells settZ.vals.toArray 44)).alloc (.cells settZ.vals.toArray 44) = W0 at *
  refine (options_any _ _).mono ?_
  rintro e w1 ⟨h, rfl, hp, hb, hh⟩
  have hP0 : Blk w1 w.heap.size 44 settZ.vals := b0.stays hb
  have hP1 : Blk w1 (w.heap.size + 1) 44 settZ.vals := b1.stays hb
  have hQ : Below w.heap.size w w1 := below_then hB hb
  clear hb b0 b1 hB
  go_wp2
  go_loopw [9] (fun i wr => ∃ k : Nat, k ≤ 5 ∧ i = .int .i64 k ∧ Below w.heap.size w wr ∧ Blk wr w.heap.size 44 settZ.vals ∧ Blk wr (w.heap.size + 1) 44 settZ.vals ∧ Blk wr h 91 (optPtrs (w.heap.size + 1))) (fun i _ => 5 - (intOf i).toNat)
  case atStart => exact ⟨0, by omega, rfl, hQ, hP0, hP1, hp⟩
  case round =>
    clear hQ hP0 hP1 hp
    obtain ⟨k, hk, rfl, hQ, hP0, hP1, hp⟩ := hrel
    by_cases hlt : k < 5
    · have hc := optPtr_at hp hlt
      go_wp2_with fail
      refine (rOpt_nil _).mono ?_
      rintro e w4 ⟨rfl, hb⟩
      have hp0 := hP0.stays hb
      have hp1 := hP1.stays hb
      have hpp := hp.stays hb
      have hs1 := hp1.sets (optV (false, 0)) _ (2 * k)
      rw [settZ_step hlt] at hs1
      have hs0 := Blk.farCells (g := w.heap.size) (b := w.heap.size + 1) (by omega) (optV (false, 0)) (2 * k) _ hp0
      have hsp := Blk.farCells (g := h) (b := w.heap.size + 1) (by omega) (optV (false, 0)) (2 * k) _ hpp
      have hsq : Below w.heap.size w (w4.setCells (w.heap.size + 1) (2 * k) (optV (false, 0))) := Below.setCells (by omega) (optV (false, 0)) (2 * k) w4 (below_then hQ hb)
      have hlo : 2 * k + (optV (false, 0)).length ≤ settZ.vals.length := by simp [optV, Sett.len]; omega
      have HS := Lib.hid (And.intro hsq (And.intro hs0 (And.intro hs1 hsp)))
      clear hs1 hs0 hsp hsq hp0 hpp hQ hP0 hP1 hp hc hb
      go_wp2_with (first | (refine wpList_store_part (by rfl) 42 _ _ (by rfl) (w.heap.size + 1) (2 * k) (optV (false, 0)) _ hp1 hlo (by rfl) (by rfl) (by kernel_rfl) (optV_one _) ?_) | fail)
      go_roundw
      case rel => exact ⟨k + 1, by omega, by go_num, HS.out⟩
      case measure => simp [intOf]; omega
    · obtain rfl : k = 5 := by omega
      have rs : rowOf wr (w.heap.size + 1) 0 10 = some settZ.vals.toArray := hP1.row 0 10 (by simp [Sett.len])
      clear hP1 hp
      go_wp2_with fail
      refine (gotSett_nil settZ _ _).mono ?_
      rintro e w5 ⟨rfl, hb⟩
      have hb5 := hP0.stays hb
      have hB5 := below_then hQ hb
      clear hb hP0 hQ rs
      unfold gotV
      go_wp2_with (first | (refine wpList_store_whole (by rfl) 44 _ _ (by rfl) w.heap.size settZ.vals _ hb5 (by rfl) (by rfl) (by rfl) (by kernel_rfl) (Sett.one _) ?_) | fail)
      exact ret_cells2 w.heap.size 0 settZ.vals (.int .i64 1) Try.results30 Try.underlying44 rfl (by kernel_rfl) rfl rfl (hb5.whole (by rfl)).range rfl ⟨rfl, Below.setWhole hB5 (Nat.le_refl _) _⟩
end Go.Proofs.Ytbpfniocaibfcaa

/-
  Layers 1 and 5, walks: the reference's reader takes options, attributes, what was and is. Conditions: a reader at a block of its own.
-/
import Derived.Test.YtolcecpmiepggaaDoorRefReadA
import Derived.Test.YtolcecpmiepggaaDoorAttrReadA
namespace Go.Proofs.YtolcecpmiepggaaDoor
open Go.RowKit
attribute [local go_sem ↓] Go.wp_at_zero Go.wp_at_succ
attribute [local go_sem] rowAt_ptr rowOf_drew rowOf_drewN rowOf_alloc_past rowOf_new
attribute [local go_sem] Attr.at0 Attr.lat0 Attr.at1 Attr.lat1 Attr.at2 Attr.lat2 Attr.at3 Attr.lat3 Attr.at4 Attr.lat4 Attr.at5 Attr.lat5 Attr.at6 Attr.lat6 Attr.at7 Attr.lat7 Attr.at8 Attr.lat8 Attr.at9 Attr.lat9 Attr.sub0_10 Attr.lsub0_10 Attr.len Opt.at0 Opt.lat0 Opt.at1 Opt.lat1 Opt.sub0_2 Opt.lsub0_2 Opt.len Sett.at0 Sett.lat0 Sett.at1 Sett.lat1 Sett.at2 Sett.lat2 Sett.at3 Sett.lat3 Sett.at4 Sett.lat4 Sett.at5 Sett.lat5 Sett.at6 Sett.lat6 Sett.at7 Sett.lat7 Sett.at8 Sett.lat8 Sett.at9 Sett.lat9 Sett.sub0_10 Sett.lsub0_10 Sett.sub0_2 Sett.lsub0_2 Sett.sub2_2 Sett.lsub2_2 Sett.sub4_2 Sett.lsub4_2 Sett.sub6_2 Sett.lsub6_2 Sett.sub8_2 Sett.lsub8_2 Sett.len Post.at0 Post.lat0 Post.at1 Post.lat1 Post.at2 Post.lat2 Post.at3 Post.lat3 Post.at4 Post.lat4 Post.at5 Post.lat5 Post.at6 Post.lat6 Post.at7 Post.lat7 Post.at8 Post.lat8 Post.at9 Post.lat9 Post.at10 Post.lat10 Post.sub0_11 Post.lsub0_11 Post.sub1_10 Post.lsub1_10 Post.len Wcc.at0 Wcc.lat0 Wcc.at1 Wcc.lat1 Wcc.at2 Wcc.lat2 Wcc.at3 Wcc.lat3 Wcc.at4 Wcc.lat4 Wcc.at5 Wcc.lat5 Wcc.at6 Wcc.lat6 Wcc.at7 Wcc.lat7 Wcc.at8 Wcc.lat8 Wcc.at9 Wcc.lat9 Wcc.at10 Wcc.lat10 Wcc.at11 Wcc.lat11 Wcc.at12 Wcc.lat12 Wcc.sub0_13 Wcc.lsub0_13 Wcc.sub0_2 Wcc.lsub0_2 Wcc.sub2_11 Wcc.lsub2_11 Wcc.sub3_10 Wcc.lsub3_10 Wcc.len

set_option maxHeartbeats 1600000 in
theorem refOptR_any (g : Nat) (r : Rs) (w : World) (hR : RdF w g r) :
    Calls Tryd.prog 69 #[.pointer (some ⟨g, 0, none⟩)] w (GaveF g (rOpt r).2 (.agg (optV (rOpt r).1).toArray) w) := by
  have hb := Blk.new w 81 [.bool false, .int .i64 0]
  have hB : Below w.heap.size w (w.alloc (.cells #[.bool false, .int .i64 0] 81)) := (Below.refl _ _).alloc (Nat.le_refl _) _
  have hR1 := hR.stays hB
  have hne : w.heap.size ≠ g := Nat.ne_of_gt hR.lt
  clear hR
  cases hq : (rBool r).1
  · have HN := Lib.hid (show rOpt r = ((false, 0), (rBool r).2) by simp [rOpt, hq])
    go_enter Tryd.func69, Tryd.ntmps69
    go_wp2_with fail
    generalize w.alloc (.cells #[.bool false, .int .i64 0] 81) = w0 at *
    refine (refTruthR_any g r _ hR1).mono ?_
    rintro e w1 ⟨rfl, hQ⟩
    have hb1 := hQ.keeps hb hne
    have HQ := Lib.hid (ReadsF.lay (cs := optV (false, 0)) (ReadsF.behind hB hQ) hb1 rfl hne (Nat.le_refl _))
    clear hQ hb
    go_wp2_with (first | (refine wpList_store_whole (by rfl) 81 _ _ (by rfl) w.heap.size (optV (false, 0)) _ hb1 (by rfl) (by rfl) (by rfl) (by kernel_rfl) (optV_one _) ?_) | fail)
    refine ret_cells w.heap.size 0 (optV (false, 0)) Tryd.results69 Tryd.underlying81 rfl (by kernel_rfl) rfl HQ.out.2.range rfl ?_
    rw [HN.out]
    exact ⟨rfl, HQ.out.1⟩
  · by_cases he : (rU64 (rBool r).2).2.e = 0
    · have HN := Lib.hid (show rOpt r = ((true, (rU64 (rBool r).2).1), (rU64 (rBool r).2).2) by simp [rOpt, hq, he])
      have he' : ((rU64 (rBool r).2).2.e != 0) = false := by simpa using he
      go_enter Tryd.func69, Tryd.ntmps69
      go_wp2_with fail
      generalize w.alloc (.cells #[.bool false, .int .i64 0] 81) = w0 at *
      refine (refTruthR_any g r _ hR1).mono ?_
      rintro e w1 ⟨rfl, hQ⟩
      have hb1 := hQ.keeps hb hne
      go_wp2_with fail
      refine (refU8_any g (rBool r).2 _ hQ.1).mono ?_
      rintro e w2 ⟨rfl, hQ2⟩
      have hb2 := hQ2.keeps hb1 hne
      have hc := ReadsF.err hQ2.1
      have HQ := Lib.hid (ReadsF.lay (cs := optV (true, (rU64 (rBool r).2).1)) (ReadsF.behind hB (hQ.trans hQ2)) hb2 rfl hne (Nat.le_refl _))
      clear hQ hb hb1 hQ2
      go_wp2_with (first | (refine wpList_store_whole (by rfl) 81 _ _ (by rfl) w.heap.size (optV (true, (rU64 (rBool r).2).1)) _ hb2 (by rfl) (by rfl) (by rfl) (by kernel_rfl) (optV_one _) ?_) | fail)
      refine ret_cells w.heap.size 0 (optV (true, (rU64 (rBool r).2).1)) Tryd.results69 Tryd.underlying81 rfl (by kernel_rfl) rfl HQ.out.2.range rfl ?_
      rw [HN.out]
      exact ⟨rfl, HQ.out.1⟩
    · have HN := Lib.hid (show rOpt r = ((false, 0), (rU64 (rBool r).2).2) by simp [rOpt, hq, he])
      have he' : ((rU64 (rBool r).2).2.e != 0) = true := by simpa using he
      go_enter Tryd.func69, Tryd.ntmps69
      go_wp2_with fail
      generalize w.alloc (.cells #[.bool false, .int .i64 0] 81) = w0 at *
      refine (refTruthR_any g r _ hR1).mono ?_
      rintro e w1 ⟨rfl, hQ⟩
      have hb1 := hQ.keeps hb hne
      go_wp2_with fail
      refine (refU8_any g (rBool r).2 _ hQ.1).mono ?_
      rintro e w2 ⟨rfl, hQ2⟩
      have hb2 := hQ2.keeps hb1 hne
      have hc := ReadsF.err hQ2.1
      have HQ := Lib.hid (ReadsF.lay (cs := optV (false, 0)) (ReadsF.behind hB (hQ.trans hQ2)) hb2 rfl hne (Nat.le_refl _))
      clear hQ hb hb1 hQ2
      go_wp2_with (first | (refine wpList_store_whole (by rfl) 81 _ _ (by rfl) w.heap.size (optV (false, 0)) _ hb2 (by rfl) (by rfl) (by rfl) (by kernel_rfl) (optV_one _) ?_) | fail)
      refine ret_cells w.heap.size 0 (optV (false, 0)) Tryd.results69 Tryd.underlying81 rfl (by kernel_rfl) rfl HQ.out.2.range rfl ?_
      rw [HN.out]
      exact ⟨rfl, HQ.out.1⟩


end Go.Proofs.YtolcecpmiepggaaDoor

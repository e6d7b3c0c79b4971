/-
  Layer 5, walks: attributes, or none, as they come; what was read, if it may be. Conditions: a reader at a block of its own; texts are machine texts.
-/
import Derived.Test.YtapcjojlkeaadaaGreatDoorP12
namespace Go.Proofs.YtapcjojlkeaadaaGreatDoor
open Go.RowKit
attribute [local go_sem ↓] Go.wp_at_zero Go.wp_at_succ
attribute [local go_sem] rowAt_ptr rowOf_drew rowOf_drewN rowOf_alloc_past rowOf_new
attribute [local go_sem ↓] ldAttrR ldOpt ldPost ldWcc

attribute [local go_sem] Attr.at0 Attr.lat0 Attr.at1 Attr.lat1 Attr.at2 Attr.lat2 Attr.at3 Attr.lat3 Attr.at4 Attr.lat4 Attr.at5 Attr.lat5 Attr.at6 Attr.lat6 Attr.at7 Attr.lat7 Attr.at8 Attr.lat8 Attr.at9 Attr.lat9 Attr.sub0_10 Attr.lsub0_10 Attr.len Opt.at0 Opt.lat0 Opt.at1 Opt.lat1 Opt.sub0_2 Opt.lsub0_2 Opt.len Sett.at0 Sett.lat0 Sett.at1 Sett.lat1 Sett.at2 Sett.lat2 Sett.at3 Sett.lat3 Sett.at4 Sett.lat4 Sett.at5 Sett.lat5 Sett.at6 Sett.lat6 Sett.at7 Sett.lat7 Sett.at8 Sett.lat8 Sett.at9 Sett.lat9 Sett.sub0_10 Sett.lsub0_10 Sett.sub0_2 Sett.lsub0_2 Sett.sub2_2 Sett.lsub2_2 Sett.sub4_2 Sett.lsub4_2 Sett.sub6_2 Sett.lsub6_2 Sett.sub8_2 Sett.lsub8_2 Sett.len Post.at0 Post.lat0 Post.at1 Post.lat1 Post.at2 Post.lat2 Post.at3 Post.lat3 Post.at4 Post.lat4 Post.at5 Post.lat5 Post.at6 Post.lat6 Post.at7 Post.lat7 Post.at8 Post.lat8 Post.at9 Post.lat9 Post.at10 Post.lat10 Post.sub0_11 Post.lsub0_11 Post.sub1_10 Post.lsub1_10 Post.len Wcc.at0 Wcc.lat0 Wcc.at1 Wcc.lat1 Wcc.at2 Wcc.lat2 Wcc.at3 Wcc.lat3 Wcc.at4 Wcc.lat4 Wcc.at5 Wcc.lat5 Wcc.at6 Wcc.lat6 Wcc.at7 Wcc.lat7 Wcc.at8 Wcc.lat8 Wcc.at9 Wcc.lat9 Wcc.at10 Wcc.lat10 Wcc.at11 Wcc.lat11 Wcc.at12 Wcc.lat12 Wcc.sub0_13 Wcc.lsub0_13 Wcc.sub0_2 Wcc.lsub0_2 Wcc.sub2_11 Wcc.lsub2_11 Wcc.sub3_10 Wcc.lsub3_10 Wcc.len

set_option maxHeartbeats 1600000 in
theorem posted_any (g : Nat) (r : Rs) (w : World) (hR : Rd w g r) (hl : r.s.length ≤ 9223372036854775807) :
    Calls Tryz.prog 97 #[.pointer (some ⟨g, 0, none⟩)] w (Gave g (rPost r).2 (.agg (rPost r).1.vals.toArray) w) := by
  have hb := Blk.new w 27 postZ.vals
  have hB : Below w.heap.size w (w.alloc (.cells postZ.vals.toArray 27)) := (Below.refl _ _).alloc (Nat.le_refl _) _
  have hR1 := hR.stays hB
  have hne : w.heap.size ≠ g := Nat.ne_of_gt hR.lt
  have hgl := hR.lt
  have hl1 := rBool_len hl
  clear hR
  cases hq : (rBool r).1
  · have HN := Lib.hid (show rPost r = (postZ, (rBool r).2) by simp [rPost, hq])
    go_enter Tryz.func97, Tryz.ntmps97
    go_wp2_with fail
    change Calls _ _ _ (w.alloc (.cells postZ.vals.toArray 27)) _
    generalize w.alloc (.cells postZ.vals.toArray 27) = w0 at *
    refine (rBool_any g r _ hR1 hl).mono ?_
    rintro e w1 ⟨rfl, hQ⟩
    have hb1 := (hQ.keeps hb hne).alloc (.cells postZ.vals.toArray 27)
    have hQ1 := (Reads.behind hB hQ).new ((Below.refl _ _).alloc (Nat.le_refl _) (.cells postZ.vals.toArray 27))
    have HQ := Lib.hid (Reads.lay (cs := postZ.vals) hQ1 hb1 rfl hne (Nat.le_refl _))
    clear hQ hb hQ1
    go_wp2_with (first | (refine wpList_store_whole (by rfl) 27 _ _ (by rfl) w.heap.size postZ.vals _ hb1 (by rfl) (by rfl) (by rfl) (by kernel_rfl) (Post.one _) ?_) | fail)
    refine ret_cells w.heap.size 0 postZ.vals Tryz.results97 Tryz.underlying27 rfl (by kernel_rfl) rfl HQ.out.2.range rfl ?_
    rw [HN.out]
    exact ⟨rfl, HQ.out.1⟩
  · obtain ⟨x, hx⟩ : ∃ x, x = rAttr (rBool r).2 := ⟨_, rfl⟩
    have HN := Lib.hid (show rPost r = (⟨true, x.1⟩, x.2) by rw [hx]; simp [rPost, hq])
    have HX := Lib.hid hx
    clear hx
    go_enter Tryz.func97, Tryz.ntmps97
    go_wp2_with fail
    change Calls _ _ _ (w.alloc (.cells postZ.vals.toArray 27)) _
    generalize w.alloc (.cells postZ.vals.toArray 27) = w0 at *
    refine (rBool_any g r _ hR1 hl).mono ?_
    rintro e w1 ⟨rfl, hQ⟩
    have hb1 := (hQ.keeps hb hne).alloc (.cells (Post.vals ⟨true, attrZ⟩).toArray 27)
    have hp1 := Blk.new w1 27 (Post.vals ⟨true, attrZ⟩)
    have hQ1 := (Reads.behind hB hQ).new ((Below.refl _ _).alloc (Nat.le_refl _) (.cells (Post.vals ⟨true, attrZ⟩).toArray 27))
    have hR2 := hQ1.1
    have hne1 : w1.heap.size ≠ g := by have := hQ.1.lt; omega
    have hlt2 : w.heap.size < w1.heap.size := (hQ.keeps hb hne).lt
    have hne2 : w.heap.size ≠ w1.heap.size := by omega
    clear hQ hb
    go_wp2_with fail
    change Calls _ _ _ (w1.alloc (.cells (Post.vals ⟨true, attrZ⟩).toArray 27)) _
    generalize w1.alloc (.cells (Post.vals ⟨true, attrZ⟩).toArray 27) = w2 at *
    refine (attrRead_any g (rBool r).2 _ hR2 (by omega)).mono ?_
    rintro e w3 ⟨he, hQ3⟩
    rw [← HX.out] at he hQ3
    subst he
    obtain ⟨av, rr⟩ := x
    simp only at hQ3 HN
    have hb3 := hQ3.keeps hb1 hne
    have hp3 := hQ3.keeps hp1 hne1
    have hQ4 := hQ1.trans hQ3
    have hp4 := hp3.sets av.vals _ 1
    rw [setAt_post] at hp4
    have hb4 := Blk.farCells (g := w.heap.size) hne2 av.vals 1 _ hb3
    have hQ5 : Reads g rr w (w3.setCells w1.heap.size 1 av.vals) := ⟨hQ4.1.touch (Touch.setCells (F := fun k => k = w1.heap.size) (.inl rfl) _ 1 w3 (Touch.refl _ _)) (fun hh => hne1 hh.symm), Touch.setCells (.inr (by omega)) _ 1 w3 hQ4.2⟩
    have rp : rowOf (w3.setCells w1.heap.size 1 av.vals) w1.heap.size 0 11 = some (Post.vals ⟨true, av⟩).toArray := hp4.row 0 11 (by simp [Post.len])
    have HQ := Lib.hid (Reads.lay (cs := Post.vals ⟨true, av⟩) hQ5 hb4 rfl hne (Nat.le_refl _))
    obtain ⟨w4, hw4⟩ : ∃ w4, w4 = w3.setCells w1.heap.size 1 av.vals := ⟨_, rfl⟩
    rw [← hw4] at rp HQ hb4
    have HW4 := Lib.hid hw4
    clear hQ1 hQ3 hQ4 hQ5 hp4 hb1 hb3 hp1 hR2 hw4
    go_wp2_with (first | (refine wpList_store_part (by rfl) 25 _ _ (by rfl) w1.heap.size 1 av.vals _ hp3 (by simp [Attr.len, Post.len]) (by rfl) (by rfl) (by kernel_rfl) (Attr.one _) ?_; rw [← HW4.out]) | (refine wpList_store_whole (by rfl) 27 _ _ (by rfl) w.heap.size (Post.vals ⟨true, av⟩) _ hb4 (by rfl) (by rfl) (by rfl) (by kernel_rfl) (Post.one _) ?_) | fail)
    refine ret_cells w.heap.size 0 (Post.vals ⟨true, av⟩) Tryz.results97 Tryz.underlying27 rfl (by kernel_rfl) rfl HQ.out.2.range rfl ?_
    rw [HN.out]
    exact ⟨rfl, HQ.out.1⟩

set_option maxHeartbeats 1600000 in
theorem postedF_any (g : Nat) (r : Rs) (w : World) (hR : RdF w g r) :
    Calls Tryz.prog 72 #[.pointer (some ⟨g, 0, none⟩)] w (GaveF g (rPost r).2 (.agg (rPost r).1.vals.toArray) w) := by
  have hb := Blk.new w 27 postZ.vals
  have hB : Below w.heap.size w (w.alloc (.cells postZ.vals.toArray 27)) := (Below.refl _ _).alloc (Nat.le_refl _) _
  have hR1 := hR.stays hB
  have hne : w.heap.size ≠ g := Nat.ne_of_gt hR.lt
  have hgl := hR.lt
  clear hR
  cases hq : (rBool r).1
  · have HN := Lib.hid (show rPost r = (postZ, (rBool r).2) by simp [rPost, hq])
    go_enter Tryz.func72, Tryz.ntmps72
    go_wp2_with fail
    change Calls _ _ _ (w.alloc (.cells postZ.vals.toArray 27)) _
    generalize w.alloc (.cells postZ.vals.toArray 27) = w0 at *
    refine (refTruthR_any g r _ hR1).mono ?_
    rintro e w1 ⟨rfl, hQ⟩
    have hb1 := (hQ.keeps hb hne).alloc (.cells postZ.vals.toArray 27)
    have hQ1 := (ReadsF.behind hB hQ).new ((Below.refl _ _).alloc (Nat.le_refl _) (.cells postZ.vals.toArray 27))
    have HQ := Lib.hid (ReadsF.lay (cs := postZ.vals) hQ1 hb1 rfl hne (Nat.le_refl _))
    clear hQ hb hQ1
    go_wp2_with (first | (refine wpList_store_whole (by rfl) 27 _ _ (by rfl) w.heap.size postZ.vals _ hb1 (by rfl) (by rfl) (by rfl) (by kernel_rfl) (Post.one _) ?_) | fail)
    refine ret_cells w.heap.size 0 postZ.vals Tryz.results72 Tryz.underlying27 rfl (by kernel_rfl) rfl HQ.out.2.range rfl ?_
    rw [HN.out]
    exact ⟨rfl, HQ.out.1⟩
  · obtain ⟨x, hx⟩ : ∃ x, x = rAttr (rBool r).2 := ⟨_, rfl⟩
    have HN := Lib.hid (show rPost r = (⟨true, x.1⟩, x.2) by rw [hx]; simp [rPost, hq])
    have HX := Lib.hid hx
    clear hx
    go_enter Tryz.func72, Tryz.ntmps72
    go_wp2_with fail
    change Calls _ _ _ (w.alloc (.cells postZ.vals.toArray 27)) _
    generalize w.alloc (.cells postZ.vals.toArray 27) = w0 at *
    refine (refTruthR_any g r _ hR1).mono ?_
    rintro e w1 ⟨rfl, hQ⟩
    have hb1 := (hQ.keeps hb hne).alloc (.cells (Post.vals ⟨true, attrZ⟩).toArray 27)
    have hp1 := Blk.new w1 27 (Post.vals ⟨true, attrZ⟩)
    have hQ1 := (ReadsF.behind hB hQ).new ((Below.refl _ _).alloc (Nat.le_refl _) (.cells (Post.vals ⟨true, attrZ⟩).toArray 27))
    have hR2 := hQ1.1
    have hne1 : w1.heap.size ≠ g := by have := hQ.1.lt; omega
    have hlt2 : w.heap.size < w1.heap.size := (hQ.keeps hb hne).lt
    have hne2 : w.heap.size ≠ w1.heap.size := by omega
    clear hQ hb
    go_wp2_with fail
    change Calls _ _ _ (w1.alloc (.cells (Post.vals ⟨true, attrZ⟩).toArray 27)) _
    generalize w1.alloc (.cells (Post.vals ⟨true, attrZ⟩).toArray 27) = w2 at *
    refine (refTake_any g (rBool r).2 _ hR2).mono ?_
    rintro e w3 ⟨he, hQ3⟩
    rw [← HX.out] at he hQ3
    subst he
    obtain ⟨av, rr⟩ := x
    simp only at hQ3 HN
    have hb3 := hQ3.keeps hb1 hne
    have hp3 := hQ3.keeps hp1 hne1
    have hQ4 := hQ1.trans hQ3
    have hp4 := hp3.sets av.vals _ 1
    rw [setAt_post] at hp4
    have hb4 := Blk.farCells (g := w.heap.size) hne2 av.vals 1 _ hb3
    have hQ5 : ReadsF g rr w (w3.setCells w1.heap.size 1 av.vals) := ⟨hQ4.1.touch (Touch.setCells (F := fun k => k = w1.heap.size) (.inl rfl) _ 1 w3 (Touch.refl _ _)) (fun hh => hne1 hh.symm), Touch.setCells (.inr (by omega)) _ 1 w3 hQ4.2⟩
    have rp : rowOf (w3.setCells w1.heap.size 1 av.vals) w1.heap.size 0 11 = some (Post.vals ⟨true, av⟩).toArray := hp4.row 0 11 (by simp [Post.len])
    have HQ := Lib.hid (ReadsF.lay (cs := Post.vals ⟨true, av⟩) hQ5 hb4 rfl hne (Nat.le_refl _))
    obtain ⟨w4, hw4⟩ : ∃ w4, w4 = w3.setCells w1.heap.size 1 av.vals := ⟨_, rfl⟩
    rw [← hw4] at rp HQ hb4
    have HW4 := Lib.hid hw4
    clear hQ1 hQ3 hQ4 hQ5 hp4 hb1 hb3 hp1 hR2 hw4
    go_wp2_with (first | (refine wpList_store_part (by rfl) 25 _ _ (by rfl) w1.heap.size 1 av.vals _ hp3 (by simp [Attr.len, Post.len]) (by rfl) (by rfl) (by kernel_rfl) (Attr.one _) ?_; rw [← HW4.out]) | (refine wpList_store_whole (by rfl) 27 _ _ (by rfl) w.heap.size (Post.vals ⟨true, av⟩) _ hb4 (by rfl) (by rfl) (by rfl) (by kernel_rfl) (Post.one _) ?_) | fail)
    refine ret_cells w.heap.size 0 (Post.vals ⟨true, av⟩) Tryz.results72 Tryz.underlying27 rfl (by kernel_rfl) rfl HQ.out.2.range rfl ?_
    rw [HN.out]
    exact ⟨rfl, HQ.out.1⟩

def wccZ : Wcc := ⟨⟨false, 0⟩, postZ⟩
def settZ : Sett := ⟨⟨false, 0⟩, ⟨false, 0⟩, ⟨false, 0⟩, ⟨false, 0⟩, ⟨false, 0⟩⟩
/-- both results of 'got' -/
def gotV (cs : List Value) (n : Int) : Value := .tuple #[.agg cs.toArray, .int .i64 n]

set_option maxHeartbeats 1600000 in
theorem gotPost_any (g : Nat) (r : Rs) (v : Post) (w : World) (hR : Rd w g r) (hg : v.good) :
    Calls Tryz.prog 96 #[.pointer (some ⟨g, 0, none⟩), .agg v.vals.toArray, .func (.func 88) #[] #[]] w fun e w' => e = .returned (gotV (gotR Post.ok postZ (v, r)).1.vals (gotR Post.ok postZ (v, r)).2) ∧ Below w.heap.size w w' := by
  obtain ⟨bv, br, bz, hB, hsz⟩ := chain3_blks w v.vals postZ.vals postZ.vals 27 27 27
  have hR1 := hR.stays hB
  have rz : rowOf (((w.alloc (.cells v.vals.toArray 27)).alloc (.cells postZ.vals.toArray 27)).alloc (.cells postZ.vals.toArray 27)) (w.heap.size + 1 + 1) 0 11 = some postZ.vals.toArray := bz.row 0 11 (by simp [Post.len])
  have rv : rowOf (((w.alloc (.cells v.vals.toArray 27)).alloc (.cells postZ.vals.toArray 27)).alloc (.cells postZ.vals.toArray 27)) w.heap.size 0 11 = some v.vals.toArray := bv.row 0 11 (by simp [Post.len])
  have l0 : w.heap.size < (((w.alloc (.cells v.vals.toArray 27)).alloc (.cells postZ.vals.toArray 27)).alloc (.cells postZ.vals.toArray 27)).heap.size := by omega
  have l2 : w.heap.size + 1 + 1 < (((w.alloc (.cells v.vals.toArray 27)).alloc (.cells postZ.vals.toArray 27)).alloc (.cells postZ.vals.toArray 27)).heap.size := by omega
  clear hsz bv bz hR
  by_cases he : r.e = 0
  · have he' : (r.e != 0) = false := by simpa using he
    have HE := Lib.hid he
    clear he
    go_enter Tryz.func96, Tryz.ntmps96
    go_wp2_with fail
    change Calls _ _ _ (((w.alloc (.cells v.vals.toArray 27)).alloc (.cells postZ.vals.toArray 27)).alloc (.cells postZ.vals.toArray 27)) _
    generalize ((w.alloc (.cells v.vals.toArray 27)).alloc (.cells postZ.vals.toArray 27)).alloc (.cells postZ.vals.toArray 27) = W at *
    refine (rErr_any g r _ hR1).mono ?_
    rintro e w1 ⟨rfl, rfl⟩
    go_wp2_with fail
    refine (post5_any v _ hg).mono ?_
    rintro e w2 ⟨rfl, hb⟩
    have hs := Stb.of hb
    have br2 := br.stays hb
    have hB2 := below_then hB hb
    clear hb
    cases ho : v.ok
    · have HN := Lib.hid (show gotR Post.ok postZ (v, r) = (postZ, 14) by simp [gotR, HE.out, ho])
      clear ho
      go_wp2_with (first | (refine wpList_store_whole (by rfl) 27 _ _ (by rfl) (w.heap.size + 1) postZ.vals _ br2 (by rfl) (by rfl) (by rfl) (by kernel_rfl) (Post.one _) ?_) | fail)
      refine ret_cells2 (w.heap.size + 1) 0 postZ.vals (.int .i64 14) Tryz.results96 Tryz.underlying27 rfl (by kernel_rfl) rfl rfl (br2.whole (by rfl)).range rfl ?_
      rw [HN.out]
      exact ⟨rfl, Below.setWhole hB2 (by omega) _⟩
    · have HN := Lib.hid (show gotR Post.ok postZ (v, r) = (v, 0) by simp [gotR, HE.out, ho])
      clear ho
      go_wp2_with (first | (refine wpList_store_whole (by rfl) 27 _ _ (by rfl) (w.heap.size + 1) v.vals _ br2 (by rfl) (by rfl) (by rfl) (by kernel_rfl) (Post.one _) ?_) | fail)
      refine ret_cells2 (w.heap.size + 1) 0 v.vals (.int .i64 0) Tryz.results96 Tryz.underlying27 rfl (by kernel_rfl) rfl rfl (br2.whole (by rfl)).range rfl ?_
      rw [HN.out]
      exact ⟨rfl, Below.setWhole hB2 (by omega) _⟩
  · have he' : (r.e != 0) = true := by simpa using he
    have HN := Lib.hid (show gotR Post.ok postZ (v, r) = (postZ, r.e) by simp [gotR, he])
    clear he
    go_enter Tryz.func96, Tryz.ntmps96
    go_wp2_with fail
    change Calls _ _ _ (((w.alloc (.cells v.vals.toArray 27)).alloc (.cells postZ.vals.toArray 27)).alloc (.cells postZ.vals.toArray 27)) _
    generalize ((w.alloc (.cells v.vals.toArray 27)).alloc (.cells postZ.vals.toArray 27)).alloc (.cells postZ.vals.toArray 27) = W at *
    refine (rErr_any g r _ hR1).mono ?_
    rintro e w1 ⟨rfl, rfl⟩
    go_wp2_with (first | (refine wpList_store_whole (by rfl) 27 _ _ (by rfl) (w.heap.size + 1) postZ.vals _ br (by rfl) (by rfl) (by rfl) (by kernel_rfl) (Post.one _) ?_) | fail)
    refine ret_cells2 (w.heap.size + 1) 0 postZ.vals (.int .i64 r.e) Tryz.results96 Tryz.underlying27 rfl (by kernel_rfl) rfl rfl (br.whole (by rfl)).range rfl ?_
    rw [HN.out]
    exact ⟨rfl, Below.setWhole hB (by omega) _⟩

set_option maxHeartbeats 1600000 in
theorem gotWcc_any (g : Nat) (r : Rs) (v : Wcc) (w : World) (hR : Rd w g r) (hg : v.good) :
    Calls Tryz.prog 99 #[.pointer (some ⟨g, 0, none⟩), .agg v.vals.toArray, .func (.func 90) #[] #[]] w fun e w' => e = .returned (gotV (gotR Wcc.ok wccZ (v, r)).1.vals (gotR Wcc.ok wccZ (v, r)).2) ∧ Below w.heap.size w w' := by
  obtain ⟨bv, br, bz, hB, hsz⟩ := chain3_blks w v.vals wccZ.vals wccZ.vals 31 31 31
  have hR1 := hR.stays hB
  have rz : rowOf (((w.alloc (.cells v.vals.toArray 31)).alloc (.cells wccZ.vals.toArray 31)).alloc (.cells wccZ.vals.toArray 31)) (w.heap.size + 1 + 1) 0 13 = some wccZ.vals.toArray := bz.row 0 13 (by simp [Wcc.len])
  have rv : rowOf (((w.alloc (.cells v.vals.toArray 31)).alloc (.cells wccZ.vals.toArray 31)).alloc (.cells wccZ.vals.toArray 31)) w.heap.size 0 13 = some v.vals.toArray := bv.row 0 13 (by simp [Wcc.len])
  have l0 : w.heap.size < (((w.alloc (.cells v.vals.toArray 31)).alloc (.cells wccZ.vals.toArray 31)).alloc (.cells wccZ.vals.toArray 31)).heap.size := by omega
  have l2 : w.heap.size + 1 + 1 < (((w.alloc (.cells v.vals.toArray 31)).alloc (.cells wccZ.vals.toArray 31)).alloc (.cells wccZ.vals.toArray 31)).heap.size := by omega
  clear hsz bv bz hR
  by_cases he : r.e = 0
  · have he' : (r.e != 0) = false := by simpa using he
    have HE := Lib.hid he
    clear he
    go_enter Tryz.func99, Tryz.ntmps99
    go_wp2_with fail
    change Calls _ _ _ (((w.alloc (.cells v.vals.toArray 31)).alloc (.cells wccZ.vals.toArray 31)).alloc (.cells wccZ.vals.toArray 31)) _
    generalize ((w.alloc (.cells v.vals.toArray 31)).alloc (.cells wccZ.vals.toArray 31)).alloc (.cells wccZ.vals.toArray 31) = W at *
    refine (rErr_any g r _ hR1).mono ?_
    rintro e w1 ⟨rfl, rfl⟩
    go_wp2_with fail
    refine (wcc5_any v _ hg).mono ?_
    rintro e w2 ⟨rfl, hb⟩
    have hs := Stb.of hb
    have br2 := br.stays hb
    have hB2 := below_then hB hb
    clear hb
    cases ho : v.ok
    · have HN := Lib.hid (show gotR Wcc.ok wccZ (v, r) = (wccZ, 14) by simp [gotR, HE.out, ho])
      clear ho
      go_wp2_with (first | (refine wpList_store_whole (by rfl) 31 _ _ (by rfl) (w.heap.size + 1) wccZ.vals _ br2 (by rfl) (by rfl) (by rfl) (by kernel_rfl) (Wcc.one _) ?_) | fail)
      refine ret_cells2 (w.heap.size + 1) 0 wccZ.vals (.int .i64 14) Tryz.results99 Tryz.underlying31 rfl (by kernel_rfl) rfl rfl (br2.whole (by rfl)).range rfl ?_
      rw [HN.out]
      exact ⟨rfl, Below.setWhole hB2 (by omega) _⟩
    · have HN := Lib.hid (show gotR Wcc.ok wccZ (v, r) = (v, 0) by simp [gotR, HE.out, ho])
      clear ho
      go_wp2_with (first | (refine wpList_store_whole (by rfl) 31 _ _ (by rfl) (w.heap.size + 1) v.vals _ br2 (by rfl) (by rfl) (by rfl) (by kernel_rfl) (Wcc.one _) ?_) | fail)
      refine ret_cells2 (w.heap.size + 1) 0 v.vals (.int .i64 0) Tryz.results99 Tryz.underlying31 rfl (by kernel_rfl) rfl rfl (br2.whole (by rfl)).range rfl ?_
      rw [HN.out]
      exact ⟨rfl, Below.setWhole hB2 (by omega) _⟩
  · have he' : (r.e != 0) = true := by simpa using he
    have HN := Lib.hid (show gotR Wcc.ok wccZ (v, r) = (wccZ, r.e) by simp [gotR, he])
    clear he
    go_enter Tryz.func99, Tryz.ntmps99
    go_wp2_with fail
    change Calls _ _ _ (((w.alloc (.cells v.vals.toArray 31)).alloc (.cells wccZ.vals.toArray 31)).alloc (.cells wccZ.vals.toArray 31)) _
    generalize ((w.alloc (.cells v.vals.toArray 31)).alloc (.cells wccZ.vals.toArray 31)).alloc (.cells wccZ.vals.toArray 31) = W at *
    refine (rErr_any g r _ hR1).mono ?_
    rintro e w1 ⟨rfl, rfl⟩
    go_wp2_with (first | (refine wpList_store_whole (by rfl) 31 _ _ (by rfl) (w.heap.size + 1) wccZ.vals _ br (by rfl) (by rfl) (by rfl) (by kernel_rfl) (Wcc.one _) ?_) | fail)
    refine ret_cells2 (w.heap.size + 1) 0 wccZ.vals (.int .i64 r.e) Tryz.results99 Tryz.underlying31 rfl (by kernel_rfl) rfl rfl (br.whole (by rfl)).range rfl ?_
    rw [HN.out]
    exact ⟨rfl, Below.setWhole hB (by omega) _⟩

end Go.Proofs.YtapcjojlkeaadaaGreatDoor

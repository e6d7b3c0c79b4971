/-
  Layers 1 and 5, walks: the reference's reader takes options, attributes, what was and is. Conditions: a reader at a block of its own.
-/
import Derived.Test.YtapcjojlkeaadaaGreatDoorP11
import Derived.Test.YtapcjojlkeaadaaGreatDoorP08
import Derived.Test.YtapcjojlkeaadaaGreatDoorP10
namespace Go.Proofs.YtapcjojlkeaadaaGreatDoor
open Go.RowKit
attribute [local go_sem ↓] Go.wp_at_zero Go.wp_at_succ
attribute [local go_sem] rowAt_ptr rowOf_drew rowOf_drewN rowOf_alloc_past rowOf_new
attribute [local go_sem ↓] ldAttrR

attribute [local go_sem] Attr.at0 Attr.lat0 Attr.at1 Attr.lat1 Attr.at2 Attr.lat2 Attr.at3 Attr.lat3 Attr.at4 Attr.lat4 Attr.at5 Attr.lat5 Attr.at6 Attr.lat6 Attr.at7 Attr.lat7 Attr.at8 Attr.lat8 Attr.at9 Attr.lat9 Attr.sub0_10 Attr.lsub0_10 Attr.len Opt.at0 Opt.lat0 Opt.at1 Opt.lat1 Opt.sub0_2 Opt.lsub0_2 Opt.len Sett.at0 Sett.lat0 Sett.at1 Sett.lat1 Sett.at2 Sett.lat2 Sett.at3 Sett.lat3 Sett.at4 Sett.lat4 Sett.at5 Sett.lat5 Sett.at6 Sett.lat6 Sett.at7 Sett.lat7 Sett.at8 Sett.lat8 Sett.at9 Sett.lat9 Sett.sub0_10 Sett.lsub0_10 Sett.sub0_2 Sett.lsub0_2 Sett.sub2_2 Sett.lsub2_2 Sett.sub4_2 Sett.lsub4_2 Sett.sub6_2 Sett.lsub6_2 Sett.sub8_2 Sett.lsub8_2 Sett.len Post.at0 Post.lat0 Post.at1 Post.lat1 Post.at2 Post.lat2 Post.at3 Post.lat3 Post.at4 Post.lat4 Post.at5 Post.lat5 Post.at6 Post.lat6 Post.at7 Post.lat7 Post.at8 Post.lat8 Post.at9 Post.lat9 Post.at10 Post.lat10 Post.sub0_11 Post.lsub0_11 Post.sub1_10 Post.lsub1_10 Post.len Wcc.at0 Wcc.lat0 Wcc.at1 Wcc.lat1 Wcc.at2 Wcc.lat2 Wcc.at3 Wcc.lat3 Wcc.at4 Wcc.lat4 Wcc.at5 Wcc.lat5 Wcc.at6 Wcc.lat6 Wcc.at7 Wcc.lat7 Wcc.at8 Wcc.lat8 Wcc.at9 Wcc.lat9 Wcc.at10 Wcc.lat10 Wcc.at11 Wcc.lat11 Wcc.at12 Wcc.lat12 Wcc.sub0_13 Wcc.lsub0_13 Wcc.sub0_2 Wcc.lsub0_2 Wcc.sub2_11 Wcc.lsub2_11 Wcc.sub3_10 Wcc.lsub3_10 Wcc.len

set_option maxHeartbeats 1600000 in
theorem refOptR_any (g : Nat) (r : Rs) (w : World) (hR : RdF w g r) :
    Calls Tryz.prog 74 #[.pointer (some ⟨g, 0, none⟩)] w (GaveF g (rOpt r).2 (.agg (optV (rOpt r).1).toArray) w) := by
  have hb := Blk.new w 29 [.bool false, .int .i64 0]
  have hB : Below w.heap.size w (w.alloc (.cells #[.bool false, .int .i64 0] 29)) := (Below.refl _ _).alloc (Nat.le_refl _) _
  have hR1 := hR.stays hB
  have hne : w.heap.size ≠ g := Nat.ne_of_gt hR.lt
  clear hR
  cases hq : (rBool r).1
  · have HN := Lib.hid (show rOpt r = ((false, 0), (rBool r).2) by simp [rOpt, hq])
    go_enter Tryz.func74, Tryz.ntmps74
    go_wp2_with fail
    generalize w.alloc (.cells #[.bool false, .int .i64 0] 29) = w0 at *
    refine (refTruthR_any g r _ hR1).mono ?_
    rintro e w1 ⟨rfl, hQ⟩
    have hb1 := hQ.keeps hb hne
    have HQ := Lib.hid (ReadsF.lay (cs := optV (false, 0)) (ReadsF.behind hB hQ) hb1 rfl hne (Nat.le_refl _))
    clear hQ hb
    go_wp2_with (first | (refine wpList_store_whole (by rfl) 29 _ _ (by rfl) w.heap.size (optV (false, 0)) _ hb1 (by rfl) (by rfl) (by rfl) (by kernel_rfl) (optV_one _) ?_) | fail)
    refine ret_cells w.heap.size 0 (optV (false, 0)) Tryz.results74 Tryz.underlying29 rfl (by kernel_rfl) rfl HQ.out.2.range rfl ?_
    rw [HN.out]
    exact ⟨rfl, HQ.out.1⟩
  · by_cases he : (rU64 (rBool r).2).2.e = 0
    · have HN := Lib.hid (show rOpt r = ((true, (rU64 (rBool r).2).1), (rU64 (rBool r).2).2) by simp [rOpt, hq, he])
      have he' : ((rU64 (rBool r).2).2.e != 0) = false := by simpa using he
      go_enter Tryz.func74, Tryz.ntmps74
      go_wp2_with fail
      generalize w.alloc (.cells #[.bool false, .int .i64 0] 29) = w0 at *
      refine (refTruthR_any g r _ hR1).mono ?_
      rintro e w1 ⟨rfl, hQ⟩
      have hb1 := hQ.keeps hb hne
      go_wp2_with fail
      refine (refU8_any g (rBool r).2 _ hQ.1).mono ?_
      rintro e w2 ⟨rfl, hQ2⟩
      have hb2 := hQ2.keeps hb1 hne
      have hc := ReadsF.err hQ2.1
      have HQ := Lib.hid (ReadsF.lay (cs := optV (true, (rU64 (rBool r).2).1)) (ReadsF.behind hB (hQ.trans hQ2)) hb2 rfl hne (Nat.le_refl _))
      clear hQ hb hb1 hQ2
      go_wp2_with (first | (refine wpList_store_whole (by rfl) 29 _ _ (by rfl) w.heap.size (optV (true, (rU64 (rBool r).2).1)) _ hb2 (by rfl) (by rfl) (by rfl) (by kernel_rfl) (optV_one _) ?_) | fail)
      refine ret_cells w.heap.size 0 (optV (true, (rU64 (rBool r).2).1)) Tryz.results74 Tryz.underlying29 rfl (by kernel_rfl) rfl HQ.out.2.range rfl ?_
      rw [HN.out]
      exact ⟨rfl, HQ.out.1⟩
    · have HN := Lib.hid (show rOpt r = ((false, 0), (rU64 (rBool r).2).2) by simp [rOpt, hq, he])
      have he' : ((rU64 (rBool r).2).2.e != 0) = true := by simpa using he
      go_enter Tryz.func74, Tryz.ntmps74
      go_wp2_with fail
      generalize w.alloc (.cells #[.bool false, .int .i64 0] 29) = w0 at *
      refine (refTruthR_any g r _ hR1).mono ?_
      rintro e w1 ⟨rfl, hQ⟩
      have hb1 := hQ.keeps hb hne
      go_wp2_with fail
      refine (refU8_any g (rBool r).2 _ hQ.1).mono ?_
      rintro e w2 ⟨rfl, hQ2⟩
      have hb2 := hQ2.keeps hb1 hne
      have hc := ReadsF.err hQ2.1
      have HQ := Lib.hid (ReadsF.lay (cs := optV (false, 0)) (ReadsF.behind hB (hQ.trans hQ2)) hb2 rfl hne (Nat.le_refl _))
      clear hQ hb hb1 hQ2
      go_wp2_with (first | (refine wpList_store_whole (by rfl) 29 _ _ (by rfl) w.heap.size (optV (false, 0)) _ hb2 (by rfl) (by rfl) (by rfl) (by kernel_rfl) (optV_one _) ?_) | fail)
      refine ret_cells w.heap.size 0 (optV (false, 0)) Tryz.results74 Tryz.underlying29 rfl (by kernel_rfl) rfl HQ.out.2.range rfl ?_
      rw [HN.out]
      exact ⟨rfl, HQ.out.1⟩


/-- k numbers were read: the reader, the attributes' box, the result's -/
structure RdAF (g : Nat) (r : Rs) (w : World) (k : Nat) (wx : World) : Prop where
  R : ReadsF g (restK r k) w wx
  A : Blk wx (w.heap.size + 1) 25 (attrK r k)
  Z : Blk wx w.heap.size 25 zeroA
  n : g < w.heap.size
theorem RdAF.start (g : Nat) (r : Rs) (w : World) (hR : RdF w g r) : RdAF g r w 0 ((w.alloc (.cells zeroA.toArray 25)).alloc (.cells zeroA.toArray 25)) := by
  have b0 := Blk.new w 25 zeroA
  have B0 : Below w.heap.size w (w.alloc (.cells zeroA.toArray 25)) := (Below.refl _ _).alloc (Nat.le_refl _) _
  have e0 : (w.alloc (.cells zeroA.toArray 25)).heap.size = w.heap.size + 1 := by simp
  generalize w.alloc (.cells zeroA.toArray 25) = w0 at *
  have b1 := Blk.new w0 25 zeroA
  rw [e0] at b1
  exact ⟨ReadsF.behind (B0.alloc B0.size _) (ReadsF.refl (hR.stays (B0.alloc B0.size _))), b1, b0.alloc _, hR.lt⟩
theorem RdAF.alloc {g : Nat} {r : Rs} {w wx : World} {k : Nat} (h : RdAF g r w k wx) (o : Obj) : RdAF g r w k (wx.alloc o) :=
  ⟨h.R.new ((Below.refl _ _).alloc (Nat.le_refl _) o), h.A.alloc o, h.Z.alloc o, h.n⟩
theorem RdAF.step {g : Nat} {r : Rs} {w wx wy : World} {k : Nat} {b : Bool} (h : RdAF g r w k wx) (hk : k < 10) (hb : attrW[k]? = some b) (hQ : ReadsF g (rOne b (restK r k)).2 wx wy) :
    RdAF g r w (k + 1) (wy.setCell ⟨w.heap.size + 1, k, none⟩ (.int .i64 (rOne b (restK r k)).1)) := by
  obtain ⟨e1, e2⟩ := attrK_succ r hk hb
  have hn := h.n
  refine ⟨⟨?_, ?_⟩, ?_, ?_, h.n⟩
  · rw [e2]; exact hQ.1.touch ((Touch.refl (fun i => i = w.heap.size + 1) wy).setCell_ (g := w.heap.size + 1) (o := k) (.inl rfl) _) (by omega)
  · exact (h.R.2.then_ hQ.2).setCell_ (.inr (by omega)) _
  · have := (hQ.keeps h.A (by omega)).set_ k (.int .i64 (rOne b (restK r k)).1)
    rw [e1] at this
    exact this
  · exact (hQ.keeps h.Z (by omega)).far (p := ⟨w.heap.size + 1, k, none⟩) (by simp) _
theorem RdAF.cell {g : Nat} {r : Rs} {w wx wy : World} {k : Nat} {r' : Rs} (h : RdAF g r w k wx) (hk : k < 10) (hQ : ReadsF g r' wx wy) : ∃ v, wy.cell? ⟨w.heap.size + 1, k, none⟩ = some v ∧ wy.frozen? ⟨w.heap.size + 1, k, none⟩ = false := by
  have hn := h.n
  have hb := hQ.keeps h.A (by omega)
  obtain ⟨v, hv⟩ := attrK_cell hb (by omega) hk
  exact ⟨v, hv, hb.frozen _⟩
/-- the pointers' row stands -/
theorem RdAF.row {g : Nat} {r : Rs} {w wx wy : World} {k j h0 : Nat} {T : TypeId} {cs : List Value} {r' : Rs} (_h : RdAF g r w k wx) (hB : Blk wx h0 T cs) (hh : h0 ≠ w.heap.size + 1) (hg : h0 ≠ g) (hQ : ReadsF g r' wx wy) (v : Value) : Blk (wy.setCell ⟨w.heap.size + 1, j, none⟩ v) h0 T cs :=
  (hQ.keeps hB hg).far (p := ⟨w.heap.size + 1, j, none⟩) hh v


set_option maxRecDepth 20000 in
set_option maxHeartbeats 6400000 in
theorem refTake_any (g : Nat) (r : Rs) (w : World) (hR : RdF w g r) :
    Calls Tryz.prog 100 #[.pointer (some ⟨g, 0, none⟩)] w (GaveF g (rAttr r).2 (.agg (rAttr r).1.vals.toArray) w) := by
  have hS := RdAF.start g r w hR
  have hg := hR.lt
  clear hR
  go_enter Tryz.func100, Tryz.ntmps100
  go_wp2_with fail
  change Calls _ _ _ ((w.alloc (.cells zeroA.toArray 25)).alloc (.cells zeroA.toArray 25)) _
  generalize (w.alloc (.cells zeroA.toArray 25)).alloc (.cells zeroA.toArray 25) = W0 at *
  refine (refU4_any g (restK r 0) _ hS.R.1).mono ?_
  rintro e v0 ⟨rfl, hQ⟩
  obtain ⟨ov, hc, hf⟩ := hS.cell (by omega) hQ
  have hS' := hS.step (by omega) (b := false) rfl hQ
  clear hS hQ
  change RdAF g r w 1 _ at hS'
  go_wp2_with fail
  change Calls _ _ _ (v0.setCell ⟨w.heap.size + 1, 0, none⟩ (.int .i64 (rOne false (restK r 0)).1)) _
  generalize v0.setCell ⟨w.heap.size + 1, 0, none⟩ (.int .i64 (rOne false (restK r 0)).1) = W1 at *
  have hS := hS'
  clear hc hf hS'
  refine (refU4_any g (restK r 1) _ hS.R.1).mono ?_
  rintro e v1 ⟨rfl, hQ⟩
  obtain ⟨ov, hc, hf⟩ := hS.cell (by omega) hQ
  have hS' := hS.step (by omega) (b := false) rfl hQ
  clear hS hQ
  change RdAF g r w 2 _ at hS'
  go_wp2_with fail
  change Calls _ _ _ (v1.setCell ⟨w.heap.size + 1, 1, none⟩ (.int .i64 (rOne false (restK r 1)).1)) _
  generalize v1.setCell ⟨w.heap.size + 1, 1, none⟩ (.int .i64 (rOne false (restK r 1)).1) = W2 at *
  have hS := hS'
  clear hc hf hS'
  refine (refU4_any g (restK r 2) _ hS.R.1).mono ?_
  rintro e v2 ⟨rfl, hQ⟩
  obtain ⟨ov, hc, hf⟩ := hS.cell (by omega) hQ
  have hS' := hS.step (by omega) (b := false) rfl hQ
  clear hS hQ
  change RdAF g r w 3 _ at hS'
  go_wp2_with fail
  change Calls _ _ _ (v2.setCell ⟨w.heap.size + 1, 2, none⟩ (.int .i64 (rOne false (restK r 2)).1)) _
  generalize v2.setCell ⟨w.heap.size + 1, 2, none⟩ (.int .i64 (rOne false (restK r 2)).1) = W3 at *
  have hS := hS'
  clear hc hf hS'
  refine (refU4_any g (restK r 3) _ hS.R.1).mono ?_
  rintro e v3 ⟨rfl, hQ⟩
  obtain ⟨ov, hc, hf⟩ := hS.cell (by omega) hQ
  have hS' := hS.step (by omega) (b := false) rfl hQ
  clear hS hQ
  change RdAF g r w 4 _ at hS'
  go_wp2_with fail
  change Calls _ _ _ (v3.setCell ⟨w.heap.size + 1, 3, none⟩ (.int .i64 (rOne false (restK r 3)).1)) _
  generalize v3.setCell ⟨w.heap.size + 1, 3, none⟩ (.int .i64 (rOne false (restK r 3)).1) = W4 at *
  have hS := hS'
  clear hc hf hS'
  refine (refU4_any g (restK r 4) _ hS.R.1).mono ?_
  rintro e v4 ⟨rfl, hQ⟩
  obtain ⟨ov, hc, hf⟩ := hS.cell (by omega) hQ
  have hS' := hS.step (by omega) (b := false) rfl hQ
  clear hS hQ
  change RdAF g r w 5 _ at hS'
  go_wp2_with fail
  change Calls _ _ _ (v4.setCell ⟨w.heap.size + 1, 4, none⟩ (.int .i64 (rOne false (restK r 4)).1)) _
  generalize v4.setCell ⟨w.heap.size + 1, 4, none⟩ (.int .i64 (rOne false (restK r 4)).1) = W5 at *
  have hS := hS'
  clear hc hf hS'
  refine (refU8_any g (restK r 5) _ hS.R.1).mono ?_
  rintro e v5 ⟨rfl, hQ⟩
  obtain ⟨ov, hc, hf⟩ := hS.cell (by omega) hQ
  have hS' := hS.step (by omega) (b := true) rfl hQ
  clear hS hQ
  change RdAF g r w 6 _ at hS'
  go_wp2_with fail
  change Calls _ _ _ (v5.setCell ⟨w.heap.size + 1, 5, none⟩ (.int .i64 (rOne true (restK r 5)).1)) _
  generalize v5.setCell ⟨w.heap.size + 1, 5, none⟩ (.int .i64 (rOne true (restK r 5)).1) = W6 at *
  have hS := hS'
  clear hc hf hS'
  refine (refU4_any g (restK r 6) _ hS.R.1).mono ?_
  rintro e v6 ⟨rfl, hQ⟩
  obtain ⟨ov, hc, hf⟩ := hS.cell (by omega) hQ
  have hS' := hS.step (by omega) (b := false) rfl hQ
  clear hS hQ
  change RdAF g r w 7 _ at hS'
  go_wp2_with fail
  change Calls _ _ _ (v6.setCell ⟨w.heap.size + 1, 6, none⟩ (.int .i64 (rOne false (restK r 6)).1)) _
  generalize v6.setCell ⟨w.heap.size + 1, 6, none⟩ (.int .i64 (rOne false (restK r 6)).1) = W7 at *
  have hS := hS'
  clear hc hf hS'
  refine (refU8_any g (restK r 7) _ hS.R.1).mono ?_
  rintro e v7 ⟨rfl, hQ⟩
  obtain ⟨ov, hc, hf⟩ := hS.cell (by omega) hQ
  have hS' := hS.step (by omega) (b := true) rfl hQ
  clear hS hQ
  change RdAF g r w 8 _ at hS'
  go_wp2_with fail
  change Calls _ _ _ (v7.setCell ⟨w.heap.size + 1, 7, none⟩ (.int .i64 (rOne true (restK r 7)).1)) _
  generalize v7.setCell ⟨w.heap.size + 1, 7, none⟩ (.int .i64 (rOne true (restK r 7)).1) = W8 at *
  have hS := hS'
  clear hc hf hS'
  refine (refU8_any g (restK r 8) _ hS.R.1).mono ?_
  rintro e v8 ⟨rfl, hQ⟩
  obtain ⟨ov, hc, hf⟩ := hS.cell (by omega) hQ
  have hS' := hS.step (by omega) (b := true) rfl hQ
  clear hS hQ
  change RdAF g r w 9 _ at hS'
  go_wp2_with fail
  change Calls _ _ _ (v8.setCell ⟨w.heap.size + 1, 8, none⟩ (.int .i64 (rOne true (restK r 8)).1)) _
  generalize v8.setCell ⟨w.heap.size + 1, 8, none⟩ (.int .i64 (rOne true (restK r 8)).1) = W9 at *
  have hS := hS'
  clear hc hf hS'
  refine (refU8_any g (restK r 9) _ hS.R.1).mono ?_
  rintro e v9 ⟨rfl, hQ⟩
  obtain ⟨ov, hc, hf⟩ := hS.cell (by omega) hQ
  have hS' := hS.step (by omega) (b := true) rfl hQ
  clear hS hQ
  change RdAF g r w 10 _ at hS'
  obtain ⟨e1, e2⟩ := attrK_ten r
  have hA := hS'.A
  have hR := hS'.R
  rw [e1] at hA
  rw [e2] at hR
  have hZ := hS'.Z
  have rA : rowOf (v9.setCell ⟨w.heap.size + 1, 9, none⟩ (.int .i64 (rU64 (restK r 9)).1)) (w.heap.size + 1) 0 10 = some (rAttr r).1.vals.toArray := hA.row 0 10 (by simp [Attr.len])
  have HQ := Lib.hid (ReadsF.lay (cs := (rAttr r).1.vals) hR hZ rfl (by omega) (Nat.le_refl _))
  clear hS' hA hR e1 e2
  go_wp2_with (first | (refine wpList_store_whole (by rfl) 25 _ _ (by rfl) w.heap.size (rAttr r).1.vals _ hZ (by rfl) (by rfl) (by rfl) (by kernel_rfl) (Attr.one _) ?_) | fail)
  refine ret_cells w.heap.size 0 (rAttr r).1.vals Tryz.results100 Tryz.underlying25 rfl (by kernel_rfl) rfl HQ.out.2.range rfl ?_
  exact ⟨rfl, HQ.out.1⟩
end Go.Proofs.YtapcjojlkeaadaaGreatDoor

/-
  Layer 5, walks: whether attributes, or none, and what was ahead and behind, may be, by the program and by the reference. No condition but machine numbers.
-/
namespace Go.Proofs.YtapcjojlkeaadaaGreatDoor
open Go.RowKit
attribute [local go_sem ↓] Go.wp_at_zero Go.wp_at_succ
attribute [local go_sem] rowAt_ptr rowOf_drew rowOf_drewN rowOf_alloc_past rowOf_new
attribute [local go_sem ↓] ldAttrR ldOpt ldPost ldWcc

attribute [local go_sem] Attr.at0 Attr.lat0 Attr.at1 Attr.lat1 Attr.at2 Attr.lat2 Attr.at3 Attr.lat3 Attr.at4 Attr.lat4 Attr.at5 Attr.lat5 Attr.at6 Attr.lat6 Attr.at7 Attr.lat7 Attr.at8 Attr.lat8 Attr.at9 Attr.lat9 Attr.sub0_10 Attr.lsub0_10 Attr.len Opt.at0 Opt.lat0 Opt.at1 Opt.lat1 Opt.sub0_2 Opt.lsub0_2 Opt.len Sett.at0 Sett.lat0 Sett.at1 Sett.lat1 Sett.at2 Sett.lat2 Sett.at3 Sett.lat3 Sett.at4 Sett.lat4 Sett.at5 Sett.lat5 Sett.at6 Sett.lat6 Sett.at7 Sett.lat7 Sett.at8 Sett.lat8 Sett.at9 Sett.lat9 Sett.sub0_10 Sett.lsub0_10 Sett.sub0_2 Sett.lsub0_2 Sett.sub2_2 Sett.lsub2_2 Sett.sub4_2 Sett.lsub4_2 Sett.sub6_2 Sett.lsub6_2 Sett.sub8_2 Sett.lsub8_2 Sett.len Post.at0 Post.lat0 Post.at1 Post.lat1 Post.at2 Post.lat2 Post.at3 Post.lat3 Post.at4 Post.lat4 Post.at5 Post.lat5 Post.at6 Post.lat6 Post.at7 Post.lat7 Post.at8 Post.lat8 Post.at9 Post.lat9 Post.at10 Post.lat10 Post.sub0_11 Post.lsub0_11 Post.sub1_10 Post.lsub1_10 Post.len Wcc.at0 Wcc.lat0 Wcc.at1 Wcc.lat1 Wcc.at2 Wcc.lat2 Wcc.at3 Wcc.lat3 Wcc.at4 Wcc.lat4 Wcc.at5 Wcc.lat5 Wcc.at6 Wcc.lat6 Wcc.at7 Wcc.lat7 Wcc.at8 Wcc.lat8 Wcc.at9 Wcc.lat9 Wcc.at10 Wcc.lat10 Wcc.at11 Wcc.lat11 Wcc.at12 Wcc.lat12 Wcc.sub0_13 Wcc.lsub0_13 Wcc.sub0_2 Wcc.lsub0_2 Wcc.sub2_11 Wcc.lsub2_11 Wcc.sub3_10 Wcc.lsub3_10 Wcc.len

def attrZ : Attr := ⟨0, 0, 0, 0, 0, 0, 0, 0, 0, 0⟩
theorem guardAttrR : Tryz.prog.eqGuardType Tryz.prog.depth 25 = false := by kernel_rfl
theorem leafsAttrR : leafs Tryz.prog 8 25 = some (List.replicate 10 (.i .i64)) := by kernel_rfl
theorem fitsAttrR (a : Attr) : fits (List.replicate 10 (.i .i64)) a.vals = true := by rfl
theorem valsAttr {a b : Attr} (h : a.vals = b.vals) : a = b := by
  cases a; cases b; simp_all [Attr.vals]
theorem eqAttrZ (a : Attr) (w : World) : (binOp .eql 25 (.agg a.vals.toArray) (.agg #[.int .i64 0, .int .i64 0, .int .i64 0, .int .i64 0, .int .i64 0, .int .i64 0, .int .i64 0, .int .i64 0, .int .i64 0, .int .i64 0])).run Tryz.prog w = .ok (.bool (decide (a = attrZ))) w := by
  show (binOp .eql 25 (.agg a.vals.toArray) (.agg attrZ.vals.toArray)).run Tryz.prog w = _
  by_cases h : a = attrZ
  · subst h
    rw [eql_same leafsAttrR (by kernel_rfl) w _ _ (fitsAttrR attrZ) rfl]
    simp
  · rw [eql_other leafsAttrR (by kernel_rfl) w _ _ (fitsAttrR a) (fitsAttrR attrZ) fun hh => h (valsAttr hh)]
    simp [h]
attribute [local go_sem ↓] eqAttrZ

attribute [local go_sem] guardAttrR

def Post.ok (p : Post) : Bool := if p.is then p.attr.ok else decide (p.attr = attrZ)
def Wcc.ok (c : Wcc) : Bool := c.before.ok 9223372036854775807 && c.after.ok

set_option maxRecDepth 20000 in
set_option maxHeartbeats 1600000 in
theorem refCheck5_any (a : Attr) (w : World) : Calls Tryz.prog 101 #[.agg a.vals.toArray] w fun e w' => e = .returned (.bool a.ok) ∧ Below w.heap.size w w' := by
  have hB0 : Below w.heap.size w (w.alloc (.cells a.vals.toArray 25)) := (Below.refl _ _).alloc (Nat.le_refl _) _
  go_enter Tryz.func101, Tryz.ntmps101
  go_wp2_with (first | (go_at_call 113; refine (refIn_any _ _ _).mono ?_; rintro e w' ⟨rfl, rfl⟩) | fail)
  all_goals
    go_ret
    refine ⟨ret_bool ?_, hB0⟩
    go_light
    grind [Attr.ok, okN]

set_option maxHeartbeats 1600000 in
theorem post5_any (p : Post) (w : World) (hg : p.good) : Calls Tryz.prog 88 #[.agg p.vals.toArray] w fun e w' => e = .returned (.bool p.ok) ∧ Below w.heap.size w w' := by
  have hB0 : Below w.heap.size w (w.alloc (.cells p.vals.toArray 27)) := (Below.refl _ _).alloc (Nat.le_refl _) _
  cases hi : p.is
  · have HS := Lib.hid (show p.ok = decide (p.attr = attrZ) by simp [Post.ok, hi])
    go_enter Tryz.func88, Tryz.ntmps88
    go_wp2
    go_ret
    exact ⟨ret_bool HS.out.symm, hB0⟩
  · have HS := Lib.hid (show p.ok = p.attr.ok by simp [Post.ok, hi])
    go_enter Tryz.func88, Tryz.ntmps88
    go_wp2_with fail
    refine (check5_any p.attr _ hg).mono ?_
    rintro e w1 ⟨rfl, hb⟩
    have HB := Lib.hid (below_then hB0 hb)
    clear hb hB0
    cases ho : p.attr.ok
    all_goals
      have HO := Lib.hid ho
      clear ho
      go_wp2
      go_ret
      exact ⟨ret_bool (by rw [HS.out, HO.out]; rfl), HB.out⟩

set_option maxHeartbeats 1600000 in
theorem refPost5_any (p : Post) (w : World) : Calls Tryz.prog 73 #[.agg p.vals.toArray] w fun e w' => e = .returned (.bool p.ok) ∧ Below w.heap.size w w' := by
  have hB0 : Below w.heap.size w (w.alloc (.cells p.vals.toArray 27)) := (Below.refl _ _).alloc (Nat.le_refl _) _
  cases hi : p.is
  · have HS := Lib.hid (show p.ok = decide (p.attr = attrZ) by simp [Post.ok, hi])
    go_enter Tryz.func73, Tryz.ntmps73
    go_wp2
    go_ret
    exact ⟨ret_bool HS.out.symm, hB0⟩
  · have HS := Lib.hid (show p.ok = p.attr.ok by simp [Post.ok, hi])
    go_enter Tryz.func73, Tryz.ntmps73
    go_wp2_with fail
    refine (refCheck5_any p.attr _).mono ?_
    rintro e w1 ⟨rfl, hb⟩
    have HB := Lib.hid (below_then hB0 hb)
    clear hb hB0
    go_wp2
    go_ret
    exact ⟨ret_bool HS.out.symm, HB.out⟩

set_option maxHeartbeats 1600000 in
theorem wcc5_any (c : Wcc) (w : World) (hg : c.good) : Calls Tryz.prog 90 #[.agg c.vals.toArray] w fun e w' => e = .returned (.bool c.ok) ∧ Below w.heap.size w w' := by
  have hB0 : Below w.heap.size w (w.alloc (.cells c.vals.toArray 31)) := (Below.refl _ _).alloc (Nat.le_refl _) _
  have hz : w.heap.size < (w.alloc (.cells c.vals.toArray 31)).heap.size := by simp
  go_enter Tryz.func90, Tryz.ntmps90
  go_wp2_with fail
  refine (option_any c.before 9223372036854775807 _).mono ?_
  rintro e w1 ⟨rfl, hb⟩
  have hs := Stb.of hb
  have hB1 := below_then hB0 hb
  clear hb
  cases hk : c.before.ok 9223372036854775807
  · have HS := Lib.hid (show c.ok = false by simp [Wcc.ok, hk])
    go_wp2
    go_ret
    exact ⟨ret_bool HS.out.symm, hB1⟩
  · have HS := Lib.hid (show c.ok = c.after.ok by simp [Wcc.ok, hk])
    clear hk
    go_wp2_with fail
    refine (post5_any c.after _ hg.2).mono ?_
    rintro e w2 ⟨rfl, hb⟩
    have HB := Lib.hid (below_then hB1 hb)
    clear hb
    go_wp2
    go_ret
    exact ⟨ret_bool HS.out.symm, HB.out⟩
set_option maxHeartbeats 1600000 in
theorem refWcc5_any (c : Wcc) (w : World) : Calls Tryz.prog 75 #[.agg c.vals.toArray] w fun e w' => e = .returned (.bool c.ok) ∧ Below w.heap.size w w' := by
  have hB0 : Below w.heap.size w (w.alloc (.cells c.vals.toArray 31)) := (Below.refl _ _).alloc (Nat.le_refl _) _
  have hz : w.heap.size < (w.alloc (.cells c.vals.toArray 31)).heap.size := by simp
  go_enter Tryz.func75, Tryz.ntmps75
  go_wp2_with fail
  refine (refOption_any c.before 9223372036854775807 _).mono ?_
  rintro e w1 ⟨rfl, hb⟩
  have hs := Stb.of hb
  have hB1 := below_then hB0 hb
  clear hb
  cases hk : c.before.ok 9223372036854775807
  · have HS := Lib.hid (show c.ok = false by simp [Wcc.ok, hk])
    go_wp2
    go_ret
    exact ⟨ret_bool HS.out.symm, hB1⟩
  · have HS := Lib.hid (show c.ok = c.after.ok by simp [Wcc.ok, hk])
    clear hk
    go_wp2_with fail
    refine (refPost5_any c.after _).mono ?_
    rintro e w2 ⟨rfl, hb⟩
    have HB := Lib.hid (below_then hB1 hb)
    clear hb
    go_wp2
    go_ret
    exact ⟨ret_bool HS.out.symm, HB.out⟩

/-- what was read, or none -/
def gotR {α : Type} (ok : α → Bool) (none : α) (x : α × Rs) : α × Int := if x.2.e ≠ 0 then (none, x.2.e) else if ok x.1 then (x.1, 0) else (none, 14)
def postZ : Post := ⟨false, attrZ⟩
def rPost (r : Rs) : Post × Rs := if (rBool r).1 then (⟨true, (rAttr (rBool r).2).1⟩, (rAttr (rBool r).2).2) else (postZ, (rBool r).2)
theorem rPost_len {r : Rs} (h : r.s.length ≤ 9223372036854775807) : (rPost r).2.s.length ≤ r.s.length := by
  have h1 := rBool_len h
  unfold rPost
  split
  · have := rAttr_len (r := (rBool r).2) (by omega)
    simp only
    omega
  · exact h1
theorem setAt_post (a : Attr) : setAt (Post.vals ⟨true, attrZ⟩) 1 a.vals = Post.vals ⟨true, a⟩ := rfl
end Go.Proofs.YtapcjojlkeaadaaGreatDoor

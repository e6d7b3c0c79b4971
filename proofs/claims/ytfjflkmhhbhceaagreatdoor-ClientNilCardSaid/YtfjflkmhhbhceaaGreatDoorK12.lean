/-
  Layers 1 and 5, walks: the reference's reader takes options, attributes, what was and is. Conditions: a reader at a block of its own.
-/
import Derived.Test.YtfjflkmhhbhceaaGreatDoorK11
import Derived.Test.YtfjflkmhhbhceaaGreatDoorK10
import Derived.Test.YtfjflkmhhbhceaaGreatDoorK07
namespace Go.Proofs.YtfjflkmhhbhceaaGreatDoor
open Go.RowKit
attribute [local go_sem ↓] Go.wp_at_zero Go.wp_at_succ
attribute [local go_sem] rowAt_ptr rowOf_drew rowOf_drewN rowOf_alloc_past rowOf_new
attribute [local go_sem ↓] ldAttrR

attribute [local go_sem] Attr.at0 Attr.lat0 Attr.at1 Attr.lat1 Attr.at2 Attr.lat2 Attr.at3 Attr.lat3 Attr.at4 Attr.lat4 Attr.at5 Attr.lat5 Attr.at6 Attr.lat6 Attr.at7 Attr.lat7 Attr.at8 Attr.lat8 Attr.at9 Attr.lat9 Attr.sub0_10 Attr.lsub0_10 Attr.len Opt.at0 Opt.lat0 Opt.at1 Opt.lat1 Opt.sub0_2 Opt.lsub0_2 Opt.len Sett.at0 Sett.lat0 Sett.at1 Sett.lat1 Sett.at2 Sett.lat2 Sett.at3 Sett.lat3 Sett.at4 Sett.lat4 Sett.at5 Sett.lat5 Sett.at6 Sett.lat6 Sett.at7 Sett.lat7 Sett.at8 Sett.lat8 Sett.at9 Sett.lat9 Sett.sub0_10 Sett.lsub0_10 Sett.sub0_2 Sett.lsub0_2 Sett.sub2_2 Sett.lsub2_2 Sett.sub4_2 Sett.lsub4_2 Sett.sub6_2 Sett.lsub6_2 Sett.sub8_2 Sett.lsub8_2 Sett.len Post.at0 Post.lat0 Post.at1 Post.lat1 Post.at2 Post.lat2 Post.at3 Post.lat3 Post.at4 Post.lat4 Post.at5 Post.lat5 Post.at6 Post.lat6 Post.at7 Post.lat7 Post.at8 Post.lat8 Post.at9 Post.lat9 Post.at10 Post.lat10 Post.sub0_11 Post.lsub0_11 Post.sub1_10 Post.lsub1_10 Post.len Wcc.at0 Wcc.lat0 Wcc.at1 Wcc.lat1 Wcc.at2 Wcc.lat2 Wcc.at3 Wcc.lat3 Wcc.at4 Wcc.lat4 Wcc.at5 Wcc.lat5 Wcc.at6 Wcc.lat6 Wcc.at7 Wcc.lat7 Wcc.at8 Wcc.lat8 Wcc.at9 Wcc.lat9 Wcc.at10 Wcc.lat10 Wcc.at11 Wcc.lat11 Wcc.at12 Wcc.lat12 Wcc.sub0_13 Wcc.lsub0_13 Wcc.sub0_2 Wcc.lsub0_2 Wcc.sub2_11 Wcc.lsub2_11 Wcc.sub3_10 Wcc.lsub3_10 Wcc.len

set_option maxHeartbeats 1600000 in
theorem refOptR_any (g : Nat) (r : Rs) (w : World) (hR : RdF w g r) :
    Calls Tryz.prog 56 #[.pointer (some ⟨g, 0, none⟩)] w (GaveF g (rOpt r).2 (.agg (optV (rOpt r).1).toArray) w) := by
  have hb := Blk.new w 32 [.bool false, .int .i64 0]
  have hB : Below w.heap.size w (w.alloc (.cells #[.bool false, .int .i64 0] 32)) := (Below.refl _ _).alloc (Nat.le_refl _) _
  have hR1 := hR.stays hB
  have hne : w.heap.size ≠ g := Nat.ne_of_gt hR.lt
  clear hR
  cases hq : (rBool r).1
  · have HN := Lib.hid (show rOpt r = ((false, 0), (rBool r).2) by simp [rOpt, hq])
    go_enter Tryz.func56, Tryz.ntmps56
    go_wp2_with fail
    generalize w.alloc (.cells #[.bool false, .int .i64 0] 32) = w0 at *
    refine (refTruthR_any g r _ hR1).mono ?_
    rintro e w1 ⟨rfl, hQ⟩
    have hb1 := hQ.keeps hb hne
    have HQ := Lib.hid (ReadsF.lay (cs := optV (false, 0)) (ReadsF.behind hB hQ) hb1 rfl hne (Nat.le_refl _))
    clear hQ hb
    go_wp2_with (first | (refine wpList_store_whole (by rfl) 32 _ _ (by rfl) w.heap.size (optV (false, 0)) _ hb1 (by rfl) (by rfl) (by rfl) (by kernel_rfl) (optV_one _) ?_) | fail)
    refine ret_cells w.heap.size 0 (optV (false, 0)) Tryz.results56 Tryz.underlying32 rfl (by kernel_rfl) rfl HQ.out.2.range rfl ?_
    rw [HN.out]
    exact ⟨rfl, HQ.out.1⟩
  · by_cases he : (rU64 (rBool r).2).2.e = 0
    · have HN := Lib.hid (show rOpt r = ((true, (rU64 (rBool r).2).1), (rU64 (rBool r).2).2) by simp [rOpt, hq, he])
      have he' : ((rU64 (rBool r).2).2.e != 0) = false := by simpa using he
      go_enter Tryz.func56, Tryz.ntmps56
      go_wp2_with fail
      generalize w.alloc (.cells #[.bool false, .int .i64 0] 32) = w0 at *
      refine (refTruthR_any g r _ hR1).mono ?_
      rintro e w1 ⟨rfl, hQ⟩
      have hb1 := hQ.keeps hb hne
      go_wp2_with fail
      refine (refU8_any g (rBool r).2 _ hQ.1).mono ?_
      rintro e w2 ⟨rfl, hQ2⟩
      have hb2 := hQ2.keeps hb1 hne
      have hc := ReadsF.err hQ2.1
      have HQ := Lib.hid (ReadsF.lay (cs := optV (true, (rU64 (rBool r).2).1)) (ReadsF.behind hB (hQ.trans hQ2)) hb2 rfl hne (Nat.le_refl _))
      clear hQ hb hb1 hQ2
      go_wp2_with (first | (refine wpList_store_whole (by rfl) 32 _ _ (by rfl) w.heap.size (optV (true, (rU64 (rBool r).2).1)) _ hb2 (by rfl) (by rfl) (by rfl) (by kernel_rfl) (optV_one _) ?_) | fail)
      refine ret_cells w.heap.size 0 (optV (true, (rU64 (rBool r).2).1)) Tryz.results56 Tryz.underlying32 rfl (by kernel_rfl) rfl HQ.out.2.range rfl ?_
      rw [HN.out]
      exact ⟨rfl, HQ.out.1⟩
    · have HN := Lib.hid (show rOpt r = ((false, 0), (rU64 (rBool r).2).2) by simp [rOpt, hq, he])
      have he' : ((rU64 (rBool r).2).2.e != 0) = true := by simpa using he
      go_enter Tryz.func56, Tryz.ntmps56
      go_wp2_with fail
      generalize w.alloc (.cells #[.bool false, .int .i64 0] 32) = w0 at *
      refine (refTruthR_any g r _ hR1).mono ?_
      rintro e w1 ⟨rfl, hQ⟩
      have hb1 := hQ.keeps hb hne
      go_wp2_with fail
      refine (refU8_any g (rBool r).2 _ hQ.1).mono ?_
      rintro e w2 ⟨rfl, hQ2⟩
      have hb2 := hQ2.keeps hb1 hne
      have hc := ReadsF.err hQ2.1
      have HQ := Lib.hid (ReadsF.lay (cs := optV (false, 0)) (ReadsF.behind hB (hQ.trans hQ2)) hb2 rfl hne (Nat.le_refl _))
      clear hQ hb hb1 hQ2
      go_wp2_with (first | (refine wpList_store_whole (by rfl) 32 _ _ (by rfl) w.heap.size (optV (false, 0)) _ hb2 (by rfl) (by rfl) (by rfl) (by kernel_rfl) (optV_one _) ?_) | fail)
      refine ret_cells w.heap.size 0 (optV (false, 0)) Tryz.results56 Tryz.underlying32 rfl (by kernel_rfl) rfl HQ.out.2.range rfl ?_
      rw [HN.out]
      exact ⟨rfl, HQ.out.1⟩


/-- k numbers were read: the reader, the attributes' box, the result's -/
structure RdAF (g : Nat) (r : Rs) (w : World) (k : Nat) (wx : World) : Prop where
  R : ReadsF g (restK r k) w wx
  A : Blk wx (w.heap.size + 1) 43 (attrK r k)
  Z : Blk wx w.heap.size 43 zeroA
  n : g < w.heap.size
theorem RdAF.start (g : Nat) (r : Rs) (w : World) (hR : RdF w g r) : RdAF g r w 0 ((w.alloc (.cells zeroA.toArray 43)).alloc (.cells zeroA.toArray 43)) := by
  have b0 := Blk.new w 43 zeroA
  have B0 : Below w.heap.size w (w.alloc (.cells zeroA.toArray 43)) := (Below.refl _ _).alloc (Nat.le_refl _) _
  have e0 : (w.alloc (.cells zeroA.toArray 43)).heap.size = w.heap.size + 1 := by simp
  generalize w.alloc (.cells zeroA.toArray 43) = w0 at *
  have b1 := Blk.new w0 43 zeroA
  rw [e0] at b1
  exact ⟨ReadsF.behind (B0.alloc B0.size _) (ReadsF.refl (hR.stays (B0.alloc B0.size _))), b1, b0.alloc _, hR.lt⟩
theorem RdAF.alloc {g : Nat} {r : Rs} {w wx : World} {k : Nat} (h : RdAF g r w k wx) (o : Obj) : RdAF g r w k (wx.alloc o) :=
  ⟨h.R.new ((Below.refl _ _).alloc (Nat.le_refl _) o), h.A.alloc o, h.Z.alloc o, h.n⟩
theorem RdAF.step {g : Nat} {r : Rs} {w wx wy : World} {k : Nat} {b : Bool} (h : RdAF g r w k wx) (hk : k < 10) (hb : attrW[k]? = some b) (hQ : ReadsF g (rOne b (restK r k)).2 wx wy) :
    RdAF g r w (k + 1) (wy.setCell ⟨w.heap.size + 1, k, none⟩ (.int .i64 (rOne b (restK r k)).1)) := by
  obtain ⟨e1, e2⟩ := attrK_succ r hk hb
  have hn := h.n
  refine ⟨⟨?_, ?_⟩, ?_, ?_, h.n⟩
  · rw [e2]; exact hQ.1.touch ((Touch.refl (fun i => i = w.heap.size + 1) wy).setCell_ (g := w.heap.size + 1) (o := k) (.inl rfl) _) (by omega)
  · exact (h.R.2.then_ hQ.2).setCell_ (.inr (by omega)) _
  · have := (hQ.keeps h.A (by omega)).set_ k (.int .i64 (rOne b (restK r k)).1)
    rw [e1] at this
    exact this
  · exact (hQ.keeps h.Z (by omega)).far (p := ⟨w.heap.size + 1, k, none⟩) (by simp) _
theorem RdAF.cell {g : Nat} {r : Rs} {w wx wy : World} {k : Nat} {r' : Rs} (h : RdAF g r w k wx) (hk : k < 10) (hQ : ReadsF g r' wx wy) : ∃ v, wy.cell? ⟨w.heap.size + 1, k, none⟩ = some v ∧ wy.frozen? ⟨w.heap.size + 1, k, none⟩ = false := by
  have hn := h.n
  have hb := hQ.keeps h.A (by omega)
  obtain ⟨v, hv⟩ := attrK_cell hb (by omega) hk
  exact ⟨v, hv, hb.frozen _⟩
/-- the pointers' row stands -/
theorem RdAF.row {g : Nat} {r : Rs} {w wx wy : World} {k j h0 : Nat} {T : TypeId} {cs : List Value} {r' : Rs} (_h : RdAF g r w k wx) (hB : Blk wx h0 T cs) (hh : h0 ≠ w.heap.size + 1) (hg : h0 ≠ g) (hQ : ReadsF g r' wx wy) (v : Value) : Blk (wy.setCell ⟨w.heap.size + 1, j, none⟩ v) h0 T cs :=
  (hQ.keeps hB hg).far (p := ⟨w.heap.size + 1, j, none⟩) hh v


set_option maxRecDepth 20000 in
set_option maxHeartbeats 6400000 in
theorem refTake_any (g : Nat) (r : Rs) (w : World) (hR : RdF w g r) :
    Calls Tryz.prog 194 #[.pointer (some ⟨g, 0, none⟩)] w (GaveF g (rAttr r).2 (.agg (rAttr r).1.vals.toArray) w) := by
  have hS := RdAF.start g r w hR
  have hg := hR.lt
  clear hR
  go_enter Tryz.func194, Tryz.ntmps194
  go_wp2_with fail
  change Calls _ _ _ ((w.alloc (.cells zeroA.toArray 43)).alloc (.cells zeroA.toArray 43)) _
  generalize (w.alloc (.cells zeroA.toArray 43)).alloc (.cells zeroA.toArray 43) = W0 at *
  refine (refU4_any g (restK r 0) _ hS.R.1).mono ?_
  rintro e v0 ⟨rfl, hQ⟩
  obtain ⟨ov, hc, hf⟩ := hS.cell (by omega) hQ
  have hS' := hS.step (by omega) (b := false) rfl hQ
  clear hS hQ
  change RdAF g r w 1 _ at hS'
  go_wp2_with fail
  change Calls _ _ _ (v0.setCell ⟨w.heap.size + 1, 0, none⟩ (.int .i64 (rOne false (restK r 0)).1)) _
  generalize v0.setCell ⟨w.heap.size + 1, 0, none⟩ (.int .i64 (rOne false (restK r 0)).1) = W1 at *
  have hS := hS'
  clear hc hf hS'
  refine (refU4_any g (restK r 1) _ hS.R.1).mono ?_
  rintro e v1 ⟨rfl, hQ⟩
  obtain ⟨ov, hc, hf⟩ := hS.cell (by omega) hQ
  have hS' := hS.step (by omega) (b := false) rfl hQ
  clear hS hQ
  change RdAF g r w 2 _ at hS'
  go_wp2_with fail
  change Calls _ _ _ (v1.setCell ⟨w.heap.size + 1, 1, none⟩ (.int .i64 (rOne false (restK r 1)).1)) _
  generalize v1.setCell ⟨w.heap.size + 1, 1, none⟩ (.int .i64 (rOne false (restK r 1)).1) = W2 at *
  have hS := hS'
  clear hc hf hS'
  refine (refU4_any g (restK r 2) _ hS.R.1).mono ?_
  rintro e v2 ⟨rfl, hQ⟩
  obtain ⟨ov, hc, hf⟩ := hS.cell (by omega) hQ
  have hS' := hS.step (by omega) (b := false) rfl hQ
  clear hS hQ
  change RdAF g r w 3 _ at hS'
  go_wp2_with fail
  change Calls _ _ _ (v2.setCell ⟨w.heap.size + 1, 2, none⟩ (.int .i64 (rOne false (restK r 2)).1)) _
  generalize v2.setCell ⟨w.heap.size + 1, 2, none⟩ (.int .i64 (rOne false (restK r 2)).1) = W3 at *
  have hS := hS'
  clear hc hf hS'
  refine (refU4_any g (restK r 3) _ hS.R.1).mono ?_
  rintro e v3 ⟨rfl, hQ⟩
  obtain ⟨ov, hc, hf⟩ := hS.cell (by omega) hQ
  have hS' := hS.step (by omega) (b := false) rfl hQ
  clear hS hQ
  change RdAF g r w 4 _ at hS'
  go_wp2_with fail
  change Calls _ _ _ (v3.setCell ⟨w.heap.size + 1, 3, none⟩ (.int .i64 (rOne false (restK r 3)).1)) _
  generalize v3.setCell ⟨w.heap.size + 1, 3, none⟩ (.int .i64 (rOne false (restK r 3)).1) = W4 at *
  have hS := hS'
  clear hc hf hS'
  refine (refU4_any g (restK r 4) _ hS.R.1).mono ?_
  rintro e v4 ⟨rfl, hQ⟩
  obtain ⟨ov, hc, hf⟩ := hS.cell (by omega) hQ
  have hS' := hS.step (by omega) (b := false) rfl hQ
  clear hS hQ
  change RdAF g r w 5 _ at hS'
  go_wp2_with fail
  change Calls _ _ _ (v4.setCell ⟨w.heap.size + 1, 4, none⟩ (.int .i64 (rOne false (restK r 4)).1)) _
  generalize v4.setCell ⟨w.heap.size + 1, 4, none⟩ (.int .i64 (rOne false (restK r 4)).1) = W5 at *
  have hS := hS'
  clear hc hf hS'
  refine (refU8_any g (restK r 5) _ hS.R.1).mono ?_
  rintro e v5 ⟨rfl, hQ⟩
  obtain ⟨ov, hc, hf⟩ := hS.cell (by omega) hQ
  have hS' := hS.step (by omega) (b := true) rfl hQ
  clear hS hQ
  change RdAF g r w 6 _ at hS'
  go_wp2_with fail
  change Calls _ _ _ (v5.setCell ⟨w.heap.size + 1, 5, none⟩ (.int .i64 (rOne true (restK r 5)).1)) _
  generalize v5.setCell ⟨w.heap.size + 1, 5, none⟩ (.int .i64 (rOne true (restK r 5)).1) = W6 at *
  have hS := hS'
  clear hc hf hS'
  refine (refU4_any g (restK r 6) _ hS.R.1).mono ?_
  rintro e v6 ⟨rfl, hQ⟩
  obtain ⟨ov, hc, hf⟩ := hS.cell (by omega) hQ
  have hS' := hS.step (by omega) (b := false) rfl hQ
  clear hS hQ
  change RdAF g r w 7 _ at hS'
  go_wp2_with fail
  change Calls _ _ _ (v6.setCell ⟨w.heap.size + 1, 6, none⟩ (.int .i64 (rOne false (restK r 6)).1)) _
  generalize v6.setCell ⟨w.heap.size + 1, 6, none⟩ (.int .i64 (rOne false (restK r 6)).1) = W7 at *
  have hS := hS'
  clear hc hf hS'
  refine (refU8_any g (restK r 7) _ hS.R.1).mono ?_
  rintro e v7 ⟨rfl, hQ⟩
  obtain ⟨ov, hc, hf⟩ := hS.cell (by omega) hQ
  have hS' := hS.step (by omega) (b := true) rfl hQ
  clear hS hQ
  change RdAF g r w 8 _ at hS'
  go_wp2_with fail
  change Calls _ _ _ (v7.setCell ⟨w.heap.size + 1, 7, none⟩ (.int .i64 (rOne true (restK r 7)).1)) _
  generalize v7.setCell ⟨w.heap.size + 1, 7, none⟩ (.int .i64 (rOne true (restK r 7)).1) = W8 at *
  have hS := hS'
  clear hc hf hS'
  refine (refU8_any g (restK r 8) _ hS.R.1).mono ?_
  rintro e v8 ⟨rfl, hQ⟩
  obtain ⟨ov, hc, hf⟩ := hS.cell (by omega) hQ
  have hS' := hS.step (by omega) (b := true) rfl hQ
  clear hS hQ
  change RdAF g r w 9 _ at hS'
  go_wp2_with fail
  change Calls _ _ _ (v8.setCell ⟨w.heap.size + 1, 8, none⟩ (.int .i64 (rOne true (restK r 8)).1)) _
  generalize v8.setCell ⟨w.heap.size + 1, 8, none⟩ (.int .i64 (rOne true (restK r 8)).1) = W9 at *
  have hS := hS'
  clear hc hf hS'
  refine (refU8_any g (restK r 9) _ hS.R.1).mono ?_
  rintro e v9 ⟨rfl, hQ⟩
  obtain ⟨ov, hc, hf⟩ := hS.cell (by omega) hQ
  have hS' := hS.step (by omega) (b := true) rfl hQ
  clear hS hQ
  change RdAF g r w 10 _ at hS'
  obtain ⟨e1, e2⟩ := attrK_ten r
  have hA := hS'.A
  have hR := hS'.R
  rw [e1] at hA
  rw [e2] at hR
  have hZ := hS'.Z
  have rA : rowOf (v9.setCell ⟨w.heap.size + 1, 9, none⟩ (.int .i64 (rU64 (restK r 9)).1)) (w.heap.size + 1) 0 10 = some (rAttr r).1.vals.toArray := hA.row 0 10 (by simp [Attr.len])
  have HQ := Lib.hid (ReadsF.lay (cs := (rAttr r).1.vals) hR hZ rfl (by omega) (Nat.le_refl _))
  clear hS' hA hR e1 e2
  go_wp2_with (first | (refine wpList_store_whole (by rfl) 43 _ _ (by rfl) w.heap.size (rAttr r).1.vals _ hZ (by rfl) (by rfl) (by rfl) (by kernel_rfl) (Attr.one _) ?_) | fail)
  refine ret_cells w.heap.size 0 (rAttr r).1.vals Tryz.results194 Tryz.underlying43 rfl (by kernel_rfl) rfl HQ.out.2.range rfl ?_
  exact ⟨rfl, HQ.out.1⟩
end Go.Proofs.YtfjflkmhhbhceaaGreatDoor

/-
  Layer 1, walks: what strings.Trim leaves of a text whose noughts are cut off; a text, and what fills it up, are taken. Conditions: sizes.
-/
namespace Go.Proofs.YtfjflkmhhbhceaaGreatDoor
open Go.RowKit
attribute [local go_sem ↓] Go.wp_at_zero Go.wp_at_succ
attribute [local go_sem] rowAt_ptr rowOf_drew rowOf_drewN rowOf_alloc_past rowOf_new
attribute [local go_sem] bs_get

theorem last_at {l : List UInt8} {k : Nat} (hk : k < l.length) : (l.take (k + 1)).getLast? = some l[k] := by
  rw [List.take_succ_eq_append_getElem hk, List.getLast?_append]; simp
theorem drop_zeros {l : List UInt8} {k : Nat} (hk : k < l.length) (h0 : l[k] = 0) (h : ∀ x ∈ l.drop (k + 1), x = 0) : ∀ x ∈ l.drop k, x = 0 := by
  intro x hx
  rw [List.drop_eq_getElem_cons hk] at hx
  rcases List.mem_cons.1 hx with rfl | hx
  · exact h0
  · exact h x hx
def TrimR (l : List UInt8) (w : World) (e : Ending) (w' : World) : Prop := ∃ m z, e = .returned (.string (bs m)) ∧ l = m ++ z ∧ (∀ x ∈ z, x = 0) ∧ (∀ x, m.getLast? = some x → x ≠ 0) ∧ w = w'
def TrimL (l : List UInt8) (w : World) (e : Ending) (w' : World) : Prop := ∃ m z, e = .returned (.string (bs m)) ∧ l = z ++ m ∧ (∀ x ∈ z, x = 0) ∧ (∀ x, m.head? = some x → x ≠ 0) ∧ w = w'
def strLen : Value → Nat
  | .string b => b.size
  | _ => 0
theorem strLen_bs (l : List UInt8) : strLen (.string (bs l)) = l.length := rfl
set_option maxRecDepth 20000 in
set_option maxHeartbeats 800000 in
theorem trimRight_any (l : List UInt8) (w : World) (hl : l.length ≤ 9223372036854775807) :
    Calls Tryz.prog 201 #[.string (bs l), .int .u8 0] w (TrimR l w) := by
  go_enter Tryz.func201, Tryz.ntmps201
  go_wp2
  go_loop [0] (fun s => ∃ k : Nat, k ≤ l.length ∧ s = .string (bs (l.take k)) ∧ ∀ x ∈ l.drop k, x = 0) (fun s => strLen s)
  case atStart => exact ⟨l.length, Nat.le_refl _, by rw [List.take_length], by simp⟩
  case round =>
    obtain ⟨k, hk, rfl, hz⟩ := hrel
    have hsz : (bs (l.take k)).size = k := by rw [bs_size, List.length_take]; omega
    have HZ := Lib.hid hz
    clear hz
    match k, hk, hsz with
    | 0, hk, hsz =>
      go_wp2
      go_ret
      exact ⟨[], l, rfl, rfl, by simpa using HZ.out, by simp, rfl⟩
    | k + 1, hk, hsz =>
      have hlt : k < l.length := by omega
      have hb := l[k].toNat_lt
      have hlen : (l.take (k + 1)).length = k + 1 := by rw [List.length_take]; omega
      have hlen2 : (l.take k).length = k := by rw [List.length_take]; omega
      have htt : (l.take (k + 1)).take k = l.take k := by rw [List.take_take]; congr 1; omega
      have hk1 : (0 : Int) < ((k + 1 : Nat) : Int) := by omega
      have hidx : ((k + 1 : Nat) : Int) - 1 = (k : Int) := by omega
      by_cases h0 : l[k] = 0
      · have h1 : ((l[k].toNat : Int) == 0) = true := by rw [h0]; rfl
        have HS := Lib.hid (drop_zeros hlt h0 HZ.out)
        clear h0 HZ
        go_wp2
        go_round
        case rel => exact ⟨k, by omega, by rw [bs_take, htt], HS.out⟩
        case measure => rw [bs_take, htt, strLen_bs, strLen_bs, hlen, hlen2]; omega
      · have h1 : ((l[k].toNat : Int) == 0) = false := by
          rw [beq_eq_false_iff_ne]; intro e; apply h0; apply UInt8.toNat_inj.1; simpa using e
        have HS := Lib.hid (show ∀ x, (l.take (k + 1)).getLast? = some x → x ≠ 0 from fun x hx => by
          rw [last_at hlt] at hx; injection hx with hx; subst hx; exact h0)
        clear h0
        go_wp2
        go_ret
        exact ⟨l.take (k + 1), l.drop (k + 1), rfl, (List.take_append_drop _ _).symm, HZ.out, HS.out, rfl⟩

theorem take_zeros {l : List UInt8} {k : Nat} (hk : k < l.length) (h0 : l[k] = 0) (h : ∀ x ∈ l.take k, x = 0) : ∀ x ∈ l.take (k + 1), x = 0 := by
  intro x hx
  rw [List.take_succ_eq_append_getElem hk] at hx
  rcases List.mem_append.1 hx with hx | hx
  · exact h x hx
  · simp at hx; subst hx; exact h0
set_option maxRecDepth 20000 in
set_option maxHeartbeats 800000 in
theorem trimLeft_any (l : List UInt8) (w : World) (hl : l.length ≤ 9223372036854775807) :
    Calls Tryz.prog 200 #[.string (bs l), .int .u8 0] w (TrimL l w) := by
  go_enter Tryz.func200, Tryz.ntmps200
  go_wp2
  go_loop [0] (fun s => ∃ k : Nat, k ≤ l.length ∧ s = .string (bs (l.drop k)) ∧ ∀ x ∈ l.take k, x = 0) (fun s => strLen s)
  case atStart => exact ⟨0, Nat.zero_le _, rfl, by simp⟩
  case round =>
    obtain ⟨k, hk, rfl, hz⟩ := hrel
    have HZ := Lib.hid hz
    clear hz
    by_cases hlt : k < l.length
    · have hb := l[k].toNat_lt
      have hdr : l.drop k = l[k] :: l.drop (k + 1) := List.drop_eq_getElem_cons hlt
      have hlen2 : (l.drop (k + 1)).length = l.length - (k + 1) := List.length_drop
      have hlen : (l[k] :: l.drop (k + 1)).length = l.length - k := by rw [List.length_cons, hlen2]; omega
      have hsz : (bs (l[k] :: l.drop (k + 1))).size = l.length - k := hlen
      have hpos : (0 : Int) < ((l.length - k : Nat) : Int) := by omega
      have hbig : ((l.length - k : Nat) : Int) ≤ 9223372036854775807 := by omega
      have HD := Lib.hid hdr
      rw [hdr]
      by_cases h0 : l[k] = 0
      · have h1 : ((l[k].toNat : Int) == 0) = true := by rw [h0]; rfl
        have HS := Lib.hid (take_zeros hlt h0 HZ.out)
        clear h0 HZ hdr
        have hcut : (bs (l.drop k)).extract 1 (l.length - k) = bs (l.drop (k + 1)) := by
          have := bs_drop (l.drop k) 1
          rw [List.length_drop, List.drop_drop] at this
          exact this
        have HC := Lib.hid hcut
        clear hcut
        go_wp2
        go_round
        case rel => exact ⟨k + 1, by omega, by rw [HC.out], HS.out⟩
        case measure => rw [HC.out, strLen_bs, strLen_bs, hlen, hlen2]; omega
      · have h1 : ((l[k].toNat : Int) == 0) = false := by
          rw [beq_eq_false_iff_ne]; intro e; apply h0; apply UInt8.toNat_inj.1; simpa using e
        have HS := Lib.hid (show ∀ x, (l.drop k).head? = some x → x ≠ 0 from fun x hx => by
          rw [hdr] at hx; simp only [List.head?_cons, Option.some.injEq] at hx; exact fun e => h0 (hx.trans e))
        clear h0 hdr
        go_wp2
        go_ret
        exact ⟨l.drop k, l.take k, rfl, (List.take_append_drop _ _).symm, HZ.out, HS.out, rfl⟩
    · have hdr : l.drop k = [] := List.drop_of_length_le (by omega)
      have htk : l.take k = l := List.take_of_length_le (by omega)
      rw [htk] at HZ
      rw [hdr]
      clear htk hdr hlt
      go_wp2
      go_ret
      exact ⟨[], l, rfl, by simp, HZ.out, by simp, rfl⟩

def Trimmed (l : List UInt8) (w : World) (e : Ending) (w' : World) : Prop := ∃ m, e = .returned (.string (bs m)) ∧ (m = [] ↔ l.all (· == 0) = true) ∧ Below w.heap.size w w'
theorem trimmed_iff {l m m1 z1 z2 : List UInt8} (h1 : l = m1 ++ z1) (h2 : m1 = z2 ++ m) (hz1 : ∀ x ∈ z1, x = 0) (hz2 : ∀ x ∈ z2, x = 0) (hm : ∀ x, m.head? = some x → x ≠ 0) : m = [] ↔ l.all (· == 0) = true := by
  subst h1 h2
  rw [List.all_eq_true]
  constructor
  · rintro rfl
    intro x hx
    simp only [List.append_nil, List.mem_append] at hx
    rcases hx with hx | hx
    · simpa using hz2 x hx
    · simpa using hz1 x hx
  · intro h
    cases m with
    | nil => rfl
    | cons a m =>
      have := h a (by simp)
      exact absurd (by simpa using this) (hm a rfl)
set_option maxRecDepth 20000 in
set_option maxHeartbeats 800000 in
theorem trim_any (l : List UInt8) (w : World) (hl : l.length ≤ 9223372036854775807) :
    Calls Tryz.prog 187 #[.string (bs l), .string (bs [0])] w (Trimmed l w) := by
  cases l with
  | nil =>
    go_enter Tryz.func187, Tryz.ntmps187
    go_wp2
    go_ret
    exact ⟨[], rfl, by simp, Below.refl _ _⟩
  | cons a t =>
    have hlen : (a :: t).length = t.length + 1 := rfl
    go_enter Tryz.func187, Tryz.ntmps187
    go_wp2_with fail
    have HL := Lib.hid hl
    generalize a :: t = l at *
    go_region_held3 (fun W => Stb w W) (first | exact Stb.start | assumption) (first
      | (go_at_call 201; refine (trimRight_any l _ HL.out).mono ?_; rintro e w' ⟨m1, z1, rfl, h1, hz1, hm1, rfl⟩; have H1 := Lib.hid h1; clear h1)
      | (go_at_call 200; refine (trimLeft_any m1 _ (by have h := HL.out; rw [H1.out, List.length_append] at h; omega)).mono ?_; rintro e w' ⟨m, z2, rfl, h2, hz2, hm, rfl⟩; have H2 := Lib.hid h2; clear h2))
    all_goals
      have HI := Lib.hid (trimmed_iff H1.out H2.out hz1 hz2 hm)
      clear hz1 hz2 hm hm1 H1 H2
      go_wp2
      go_ret
      exact ⟨m, rfl, HI.out, (Below.refl _ _).drew⟩
end Go.Proofs.YtfjflkmhhbhceaaGreatDoor


/-
  Layer 1, walks: a text of so many bytes, and what fills it up, are taken; texts with their length; what is left. Conditions: sizes.
-/
namespace Go.Proofs.YtfjflkmhhbhceaaGreatDoor
open Go.RowKit
attribute [local go_sem ↓] Go.wp_at_zero Go.wp_at_succ
attribute [local go_sem] rowAt_ptr rowOf_drew rowOf_drewN rowOf_alloc_past rowOf_new

theorem callPadded1 (args : Array Value) (w : World) : (callFunc 185 args).run Tryz.prog w = .ok (.enter 185 args) w := by kernel_rfl
theorem callPadded2 (args : Array Value) (w : World) : (callFunc 186 args).run Tryz.prog w = .ok (.enter 186 args) w := by kernel_rfl
/-- the first bytes are taken -/
def rTake1 (n : Nat) (r : Rs) : List UInt8 × Rs := if r.e ≠ 0 then ([], r) else if r.s.length < n then ([], Rs.fail 10) else (r.s.take n, ⟨r.s.drop n, 0⟩)
/-- the noughts behind them are taken -/
def rTake2 (p : Nat) (r : Rs) : Rs := if r.e ≠ 0 then r else if r.s.length < p then Rs.fail 10 else if (r.s.take p).all (· == 0) then ⟨r.s.drop p, 0⟩ else Rs.fail 11
theorem rPadded_eq (n : Nat) (r : Rs) : rPadded n r = (if (rTake2 (padn n) (rTake1 n r).2).e ≠ 0 then [] else (rTake1 n r).1, rTake2 (padn n) (rTake1 n r).2) := by
  unfold rPadded rTake1 rTake2
  by_cases h1 : r.e ≠ 0
  · simp [h1]
  · rw [if_neg h1, if_neg h1]
    by_cases h2 : r.s.length < n
    · simp [h2, Rs.fail]
    · rw [if_neg h2, if_neg h2]
      simp only [ne_eq, not_true_eq_false, if_false]
      by_cases h3 : (r.s.drop n).length < padn n
      · rw [if_pos h3, if_pos h3]; simp [Rs.fail]
      · rw [if_neg h3, if_neg h3]
        by_cases h4 : ((r.s.drop n).take (padn n)).all (· == 0) = true
        · rw [if_pos h4, if_pos h4]; simp
        · rw [if_neg h4, if_neg h4]; simp [Rs.fail]

theorem padded1_any (b : Nat) (s old : List UInt8) (w : World) (hB : Blk w b 9 [.string (bs old)]) :
    Calls Tryz.prog 185 #[.string (bs s), .pointer (some ⟨b, 0, none⟩)] w fun e w' => e = .returned (.tuple #[]) ∧ (Blk w' b 9 [.string (bs s)] ∧ Touch (fun k => k = b) w w') := by
  have hc := hB.cell
  have hf := hB.frozen
  have HS := Lib.hid (hB.set_ 0 (.string (bs s)))
  have HT := Lib.hid ((Touch.refl (fun k => k = b) w).setCell_ (g := b) (o := 0) (.inl rfl) (.string (bs s)))
  clear hB
  go_enter Tryz.func185, Tryz.ntmps185
  go_wp2
  go_end0
  exact ⟨rfl, HS.out, HT.out⟩
theorem padded2_any (h g : Nat) (s : List UInt8) (r : Rs) (w : World) (hH : Blk w h 167 [.pointer (some ⟨g, 0, none⟩)]) (hR : Rd w g r) (hl : s.length ≤ 9223372036854775807) :
    Calls Tryz.prog 186 #[.string (bs s), .pointer (some ⟨h, 0, none⟩)] w fun e w' => e = .returned (.tuple #[]) ∧ Reads g (if s.all (· == 0) = true then r else Rs.fail 11) w w' := by
  go_enter Tryz.func186, Tryz.ntmps186
  go_wp2_with fail
  refine (trim_any s _ hl).mono ?_
  rintro e w1 ⟨m, rfl, hm, hb⟩
  have hH1 := hH.stays hb
  have hR1 := hR.stays hb
  have hc := hH1.cell
  have HB := Lib.hid hb
  clear hH hR hb
  cases m with
  | nil =>
    have HA := Lib.hid (hm.1 rfl)
    clear hm
    go_wp2
    go_end0
    exact ⟨rfl, by first | exact Reads.behind HB.out (Reads.refl hR1) | (rw [if_pos HA.out]; exact Reads.behind HB.out (Reads.refl hR1))⟩
  | cons a m =>
    have HA := Lib.hid (fun e => by simpa using hm.2 e : ¬ s.all (· == 0) = true)
    clear hm
    go_wp2_with fail
    refine (rFail_any g r 11 _ hR1).mono ?_
    rintro e w2 ⟨rfl, hQ⟩
    have HQ := Lib.hid (Reads.behind HB.out hQ)
    clear hQ
    go_wp2
    go_end0
    exact ⟨rfl, by first | exact HQ.out | (rw [if_neg HA.out]; exact HQ.out)⟩

theorem padTake1_any (g b n : Nat) (r : Rs) (w : World) (hR : Rd w g r) (hB : Blk w b 9 [.string (bs [])]) (hl : r.s.length ≤ 9223372036854775807) :
    Calls Tryz.prog 171 #[.pointer (some ⟨g, 0, none⟩), .int .i64 n, .func (.func 185) #[] #[.pointer (some ⟨b, 0, none⟩)]] w fun e w' =>
      e = .returned (.tuple #[]) ∧ Rd w' g (rTake1 n r).2 ∧ Blk w' b 9 [.string (bs (rTake1 n r).1)] ∧ Touch (fun k => k = g ∨ k = b) w w' := by
  have hne : b ≠ g := Blk.ne_ hB hR.1 (by decide)
  by_cases he : r.e ≠ 0
  · rw [show rTake1 n r = ([], r) by simp [rTake1, he]]
    refine (take_err g r n _ w hR he).mono ?_
    rintro e w1 ⟨rfl, rfl⟩
    exact ⟨rfl, hR, hB, Touch.refl _ _⟩
  · obtain ⟨s, e⟩ := r
    simp only [ne_eq, Decidable.not_not] at he hl
    subst he
    by_cases hs : s.length < n
    · rw [show rTake1 n ⟨s, 0⟩ = ([], Rs.fail 10) by simp [rTake1, hs]]
      refine (take_short g s n _ w hR hs).mono ?_
      rintro e w1 ⟨rfl, hQ⟩
      exact ⟨rfl, hQ.1, hQ.keeps hB hne, hQ.2.mono fun _ _ h => .inl h⟩
    · rw [show rTake1 n ⟨s, 0⟩ = (s.take n, ⟨s.drop n, 0⟩) by simp [rTake1, hs]]
      refine (take_ok g s n 185 #[.pointer (some ⟨b, 0, none⟩)] w hR (by omega) hl callPadded1 (fun w1 hQ => padded1_any b (s.take n) [] w1 (hQ.keeps hB hne))).mono ?_
      rintro e w2 ⟨w1, rfl, hQ, hb2, hT2⟩
      exact ⟨rfl, hQ.1.touch hT2 (fun h => hne h.symm), hb2, (hQ.2.mono fun _ _ h => .inl h).then_ (hT2.mono fun _ _ h => .inr h)⟩
theorem padTake2_any (g h n : Nat) (r : Rs) (w : World) (hR : Rd w g r) (hH : Blk w h 167 [.pointer (some ⟨g, 0, none⟩)]) (hl : r.s.length ≤ 9223372036854775807) :
    Calls Tryz.prog 171 #[.pointer (some ⟨g, 0, none⟩), .int .i64 n, .func (.func 186) #[] #[.pointer (some ⟨h, 0, none⟩)]] w fun e w' =>
      e = .returned (.tuple #[]) ∧ Reads g (rTake2 n r) w w' := by
  have hne : h ≠ g := Blk.ne_ hH hR.1 (by decide)
  by_cases he : r.e ≠ 0
  · rw [show rTake2 n r = r by simp [rTake2, he]]
    refine (take_err g r n _ w hR he).mono ?_
    rintro e w1 ⟨rfl, rfl⟩
    exact ⟨rfl, Reads.refl hR⟩
  · obtain ⟨s, e⟩ := r
    simp only [ne_eq, Decidable.not_not] at he hl
    subst he
    by_cases hs : s.length < n
    · rw [show rTake2 n ⟨s, 0⟩ = Rs.fail 10 by simp [rTake2, hs]]
      exact take_short g s n _ w hR hs
    · rw [show rTake2 n ⟨s, 0⟩ = if (s.take n).all (· == 0) = true then ⟨s.drop n, 0⟩ else Rs.fail 11 by simp [rTake2, hs]]
      refine (take_ok g s n 186 #[.pointer (some ⟨h, 0, none⟩)] w hR (by omega) hl callPadded2 (fun w1 hQ => padded2_any h g (s.take n) ⟨s.drop n, 0⟩ w1 (hQ.keeps hH hne) hQ.1 (by rw [List.length_take]; omega))).mono ?_
      rintro e w2 ⟨w1, rfl, hQ, hQ2⟩
      exact ⟨rfl, hQ.trans hQ2⟩
theorem rTake1_len {n : Nat} {r : Rs} (_h : r.s.length ≤ 9223372036854775807) : (rTake1 n r).2.s.length ≤ r.s.length := by
  unfold rTake1; split
  · exact Nat.le_refl _
  · split
    · simp [Rs.fail]
    · simp
theorem rTake2_len {n : Nat} {r : Rs} (_h : r.s.length ≤ 9223372036854775807) : (rTake2 n r).s.length ≤ r.s.length := by
  unfold rTake2; split
  · exact Nat.le_refl _
  · split
    · simp [Rs.fail]
    · split
      · simp
      · simp [Rs.fail]
theorem rPadded_len {n : Nat} {r : Rs} (h : r.s.length ≤ 9223372036854775807) : (rPadded n r).2.s.length ≤ r.s.length := by
  rw [rPadded_eq]; exact Nat.le_trans (rTake2_len (Nat.le_trans (rTake1_len h) h)) (rTake1_len h)

set_option maxRecDepth 20000 in
set_option maxHeartbeats 800000 in
theorem padded_any (g n : Nat) (r : Rs) (w : World) (hR : Rd w g r) (hn : (n : Int) ≤ 9223372036854775807) (hl : r.s.length ≤ 9223372036854775807) :
    Calls Tryz.prog 174 #[.pointer (some ⟨g, 0, none⟩), .int .i64 n] w (Gave g (rPadded n r).2 (.string (bs (rPadded n r).1)) w) := by
  have hH0 := Blk.new w 167 [.pointer (some ⟨g, 0, none⟩)]
  have hB0 := Blk.new (w.alloc (.cells #[.pointer (some ⟨g, 0, none⟩)] 167)) 9 [.string (bs [])]
  have hH1 := hH0.alloc (.cells #[.string (bs [])] 9)
  have hL0 : Below w.heap.size w (w.alloc (.cells #[.pointer (some ⟨g, 0, none⟩)] 167)) := (Below.refl _ _).alloc (Nat.le_refl _) _
  have hL1 := hL0.alloc hL0.size (.cells #[.string (bs [])] 9)
  have hs1 : (w.alloc (.cells #[.pointer (some ⟨g, 0, none⟩)] 167)).heap.size = w.heap.size + 1 := by simp
  rw [hs1] at hB0
  have hR1 := hR.stays hL1
  have hlt := hR.lt
  have hP := Lib.hid (rPadded_eq n r)
  have hc0 := hH1.cell
  clear hH0 hL0 hs1 hR
  go_enter Tryz.func174, Tryz.ntmps174
  go_wp2_with fail
  refine (padTake1_any g (w.heap.size + 1) n r _ hR1 hB0 hl).mono ?_
  rintro e w1 ⟨rfl, hR2, hB2, hT2⟩
  have hH2 := hH1.touch hT2 (by intro h; omega)
  have hc2 := hH2.cell
  have hT0 : Touch (fun k => k = g) w w1 := (Touch.of_below hL1 _).trans hT2 (fun i hi h => by omega)
  have hl2 := Nat.le_trans (rTake1_len (n := n) hl) hl
  have HT0 := Lib.hid hT0
  clear hT0 hT2 hc0 hH1 hB0 hR1
  generalize rTake1 n r = a at *
  have hpad := padn_lt n
  have hpd := fun W => pad_any n W hn
  simp only [Int.toNat_natCast] at hpd
  have HPD := Lib.hid hpd
  clear hpd
  go_wp2_with fail
  go_region_held3 (fun W => W.cell? ⟨w.heap.size, 0, none⟩ = some (.pointer (some ⟨g, 0, none⟩))) (first | exact hc2 0 | assumption) (first
    | (go_at_call 184; refine (HPD.out _).mono ?_; rintro e w' ⟨rfl, rfl⟩)
    | (go_at_call 171; refine (padTake2_any g w.heap.size (padn n) a.2 _ (show Rd w1.drew g a.2 from hR2) (show Blk w1.drew _ _ _ from hH2) hl2).mono ?_; rintro e w3 ⟨rfl, hQ⟩; have hH3 := hQ.keeps (show Blk w1.drew _ _ _ from hH2) (by omega); have hc3 := hH3.cell 0))
  all_goals
    have hT3 := HT0.out.drew.then_ hQ.2
    have hB3 := hQ.keeps (show Blk w1.drew _ _ _ from hB2) (by omega)
    have hR3 := hQ.1
    have hcB := hB3.cell
    have hcH := hH3.cell
    have HT := Lib.hid hT3
    clear hT3 hQ hB2 hH2 hR2 hc2 hc3 hH3 hB3
    generalize rTake2 (padn n) a.2 = b at *
    have HR := Lib.hid hR3
    go_wp2_with fail
    refine (rErr_any g b _ hR3).mono ?_
    rintro e w4 ⟨rfl, rfl⟩
    by_cases hb : b.e = 0
    · have hb2 : (b.e != 0) = false := by simpa using hb
      have HF := Lib.hid (show rPadded n r = (a.1, b) by rw [hP.out, if_neg (by simpa using hb)])
      clear hb hR3
      go_wp2
      go_ret
      rw [HF.out]
      exact ⟨rfl, HR.out, HT.out⟩
    · have hb2 : (b.e != 0) = true := by simpa using hb
      have HF := Lib.hid (show rPadded n r = ([], b) by rw [hP.out, if_pos hb])
      clear hb hR3
      go_wp2
      go_ret
      rw [HF.out]
      exact ⟨rfl, HR.out, HT.out⟩

set_option maxHeartbeats 800000 in
theorem rFixed_any (g : Nat) (n : Int) (r : Rs) (w : World) (hR : Rd w g r) (hn : n ≤ 9223372036854775807) (hl : r.s.length ≤ 9223372036854775807) :
    Calls Tryz.prog 170 #[.pointer (some ⟨g, 0, none⟩), .int .i64 n] w (Gave g (rFixed n r).2 (.string (bs (rFixed n r).1)) w) := by
  by_cases he : r.e = 0
  · have he2 : (r.e != 0) = false := by simpa using he
    by_cases hn0 : n < 0
    · have HF := Lib.hid (show rFixed n r = ([], Rs.fail 2) by simp [rFixed, he, hn0])
      have HR := Lib.hid hR
      clear he hR
      go_enter Tryz.func170, Tryz.ntmps170
      go_wp2_with fail
      refine (rErr_any g r _ HR.out).mono ?_
      rintro e w1 ⟨rfl, rfl⟩
      go_wp2_with fail
      refine (rFail_any g r 2 _ HR.out).mono ?_
      rintro e w2 ⟨rfl, hQ⟩
      have HQ := Lib.hid hQ
      clear hQ
      go_wp2
      go_ret
      rw [HF.out]
      exact ⟨rfl, HQ.out⟩
    · obtain ⟨m, rfl⟩ := Int.eq_ofNat_of_zero_le (show 0 ≤ n by omega)
      have HF := Lib.hid (show rFixed m r = rPadded m r by unfold rFixed; rw [if_neg (by simpa using he), if_neg hn0]; rfl)
      have HR := Lib.hid hR
      clear he hR
      go_enter Tryz.func170, Tryz.ntmps170
      go_wp2_with fail
      refine (rErr_any g r _ HR.out).mono ?_
      rintro e w1 ⟨rfl, rfl⟩
      go_wp2_with fail
      refine (padded_any g m r _ HR.out hn hl).mono ?_
      rintro e w2 ⟨rfl, hQ⟩
      have HQ := Lib.hid hQ
      clear hQ
      go_wp2
      go_ret
      rw [HF.out]
      exact ⟨rfl, HQ.out⟩
  · have he2 : (r.e != 0) = true := by simpa using he
    have HF := Lib.hid (show rFixed n r = ([], r) by simp [rFixed, he])
    have HR := Lib.hid hR
    clear he hR
    go_enter Tryz.func170, Tryz.ntmps170
    go_wp2_with fail
    refine (rErr_any g r _ HR.out).mono ?_
    rintro e w1 ⟨rfl, rfl⟩
    go_wp2
    go_ret
    rw [HF.out]
    exact ⟨rfl, Reads.refl HR.out⟩
theorem rU32_lt {r : Rs} (h : r.s.length ≤ 9223372036854775807) : (rU32 r).1 < 4294967296 := (rNum_lt (k := 4) h).1

set_option maxHeartbeats 800000 in
theorem rOpaque_any (g : Nat) (most : Int) (r : Rs) (w : World) (hR : Rd w g r) (hl : r.s.length ≤ 9223372036854775807) :
    Calls Tryz.prog 142 #[.pointer (some ⟨g, 0, none⟩), .int .i64 most] w (Gave g (rOpaque most r).2 (.string (bs (rOpaque most r).1)) w) := by
  have hl2 := Nat.le_trans (rU32_len hl) hl
  have hlt := rU32_lt hl
  have hu := rU32_any g r w hR hl
  have HO := Lib.hid (show rOpaque most r = if (rU32 r).2.e ≠ 0 then ([], (rU32 r).2) else if most < ((rU32 r).1 : Int) then ([], Rs.fail 4) else rPadded (rU32 r).1 (rU32 r).2 from rfl)
  generalize rU32 r = x at *
  obtain ⟨m, r2⟩ := x
  simp only at HO hl2 hlt hu
  have HU := Lib.hid hu
  clear hu hR
  go_enter Tryz.func142, Tryz.ntmps142
  go_wp2_with fail
  refine HU.out.mono ?_
  rintro e w1 ⟨rfl, hQ1⟩
  have HQ1 := Lib.hid hQ1
  clear hQ1 HU
  go_wp2_with fail
  refine (rErr_any g r2 _ HQ1.out.1).mono ?_
  rintro e w2 ⟨rfl, rfl⟩
  by_cases he : r2.e = 0
  · have he2 : (r2.e != 0) = false := by simpa using he
    by_cases hm : most < (m : Int)
    · have HF := Lib.hid (show rOpaque most r = ([], Rs.fail 4) by rw [HO.out, if_neg (by simpa using he), if_pos hm])
      clear he
      go_wp2_with fail
      refine (rFail_any g r2 4 _ HQ1.out.1).mono ?_
      rintro e w3 ⟨rfl, hQ⟩
      have HQ := Lib.hid (HQ1.out.trans hQ)
      clear hQ
      go_wp2
      go_ret
      rw [HF.out]
      exact ⟨rfl, HQ.out⟩
    · have HF := Lib.hid (show rOpaque most r = rPadded m r2 by rw [HO.out, if_neg (by simpa using he), if_neg hm])
      clear he
      go_wp2_with fail
      refine (padded_any g m r2 _ HQ1.out.1 (by omega) hl2).mono ?_
      rintro e w3 ⟨rfl, hQ⟩
      have HQ := Lib.hid (HQ1.out.trans hQ)
      clear hQ
      go_wp2
      go_ret
      rw [HF.out]
      exact ⟨rfl, HQ.out⟩
  · have he2 : (r2.e != 0) = true := by simpa using he
    have HF := Lib.hid (show rOpaque most r = ([], r2) by rw [HO.out, if_pos he])
    clear he
    go_wp2
    go_ret
    rw [HF.out]
    exact ⟨rfl, HQ1.out⟩

theorem rLeft_any (g : Nat) (r : Rs) (w : World) (hR : Rd w g r) : Calls Tryz.prog 137 #[.pointer (some ⟨g, 0, none⟩)] w fun e w' => e = .returned (.int .i64 (rLeft r)) ∧ w = w' := by
  have hc := hR.1.cell
  have hsz := bs_size r.s
  by_cases he : r.e = 0
  · have he2 : (r.e != 0) = false := by simpa using he
    have HF := Lib.hid (show rLeft r = r.s.length by simp [rLeft, he])
    have HR := Lib.hid hR
    clear he hR
    go_enter Tryz.func137, Tryz.ntmps137
    go_wp2_with fail
    refine (rErr_any g r _ HR.out).mono ?_
    rintro e w1 ⟨rfl, rfl⟩
    go_wp2
    go_ret
    rw [HF.out]
    exact ⟨rfl, rfl⟩
  · have he2 : (r.e != 0) = true := by simpa using he
    have HF := Lib.hid (show rLeft r = 0 by simp [rLeft, he])
    have HR := Lib.hid hR
    clear he hR
    go_enter Tryz.func137, Tryz.ntmps137
    go_wp2_with fail
    refine (rErr_any g r _ HR.out).mono ?_
    rintro e w1 ⟨rfl, rfl⟩
    go_wp2
    go_ret
    rw [HF.out]
    exact ⟨rfl, rfl⟩
theorem rDone_any (g : Nat) (r : Rs) (w : World) (hR : Rd w g r) : Calls Tryz.prog 104 #[.pointer (some ⟨g, 0, none⟩)] w fun e w' => e = .returned (.int .i64 (rDone r)) ∧ w = w' := by
  have hc := hR.1.cell
  have hsz := bs_size r.s
  by_cases he : r.e = 0
  · have he2 : (r.e != 0) = false := by simpa using he
    have HF := Lib.hid (show rDone r = if 0 < r.s.length then 12 else 0 by simp [rDone, he])
    have HR := Lib.hid hR
    clear he hR
    by_cases hs : 0 < r.s.length
    all_goals
      go_enter Tryz.func104, Tryz.ntmps104
      go_wp2_with fail
      refine (rErr_any g r _ HR.out).mono ?_
      rintro e w1 ⟨rfl, rfl⟩
      go_wp2
      go_ret
      rw [HF.out]
      first
        | (rw [if_pos hs]; exact ⟨rfl, rfl⟩)
        | (rw [if_neg hs]; exact ⟨rfl, rfl⟩)
  · have he2 : (r.e != 0) = true := by simpa using he
    have HF := Lib.hid (show rDone r = r.e by simp [rDone, he])
    have HR := Lib.hid hR
    clear he hR
    go_enter Tryz.func104, Tryz.ntmps104
    go_wp2_with fail
    refine (rErr_any g r _ HR.out).mono ?_
    rintro e w1 ⟨rfl, rfl⟩
    go_wp2
    go_ret
    rw [HF.out]
    exact ⟨rfl, rfl⟩
/-- a new reader -/
theorem readNew_any (s : List UInt8) (w : World) : Calls Tryz.prog 94 #[.string (bs s)] w fun e w' => e = .returned (.pointer (some ⟨w.heap.size, 0, none⟩)) ∧ Rd w' w.heap.size ⟨s, 0⟩ ∧ Below w.heap.size w w' := by
  have hB := Blk.new w 200 [.string (bs s), .int .i64 0]
  have hb : Below w.heap.size w (w.alloc (.cells #[.string (bs s), .int .i64 0] 200)) := (Below.refl _ _).alloc (Nat.le_refl _) _
  have HB := Lib.hid hB
  go_enter Tryz.func94, Tryz.ntmps94
  go_wp2
  go_ret
  exact ⟨rfl, ⟨HB.out, fun h => absurd rfl h⟩, hb⟩
end Go.Proofs.YtfjflkmhhbhceaaGreatDoor

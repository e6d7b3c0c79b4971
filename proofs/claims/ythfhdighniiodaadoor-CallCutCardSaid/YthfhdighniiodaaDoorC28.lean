/-
  Layer 7 in plain words: what is to be set comes back (NOT BUILT YET: whnf does not end somewhere below).
-/
import Derived.Test.YthfhdighniiodaaDoorC27
import Derived.Test.YthfhdighniiodaaDoorC19
import Derived.Deep.Cut
namespace Go.Proofs.YthfhdighniiodaaDoor
open Go.RowKit

theorem opt_back (o : Opt) (most : Int) (rest : List UInt8) (h : o.ok most = true) (hm : most ≤ 9223372036854775807) : rOpt ⟨o.bytes ++ rest, 0⟩ = ((o.is, o.n.toNat), ⟨rest, 0⟩) ∧ optOf (o.is, o.n.toNat) = o := by
  obtain ⟨i, n⟩ := o
  cases i
  · obtain rfl : n = 0 := by simpa [Opt.ok] using h
    exact ⟨rOpt_back false 0 rest (by simp) (by omega), rfl⟩
  · have h2 : 0 ≤ n ∧ n ≤ most := by simpa [Opt.ok, okN] using h
    refine ⟨(rOpt_back true n rest (fun _ => h2.1) (by omega)).trans (by simp), ?_⟩
    unfold optOf
    rw [Int.toNat_of_nonneg h2.1]
theorem set5 (a b c d e : Opt) : setOpt (setOpt (setOpt (setOpt (setOpt settZ a 0) b 1) c 2) d 3) e 4 = ⟨a, b, c, d, e⟩ := rfl
theorem settK_next {r0 r r' : Rs} {s : Sett} {o : Bool × Nat} (k : Nat) (h : settK k r0 = (s, r)) (ho : rOpt r = (o, r')) : settK (k + 1) r0 = (setOpt s (optOf o) k, r') := by
  rw [settK, h, ho]
theorem rSett_back (s : Sett) (rest : List UInt8) (h : s.ok = true) : rSett ⟨s.bytes ++ rest, 0⟩ = (s, ⟨rest, 0⟩) := by
  simp only [Sett.ok, Bool.and_eq_true] at h
  obtain ⟨h1, h2, h3, h4, h5⟩ := h
  have e1 := opt_back s.mode _ (s.uid.bytes ++ (s.gid.bytes ++ (s.size.bytes ++ (s.time.bytes ++ rest)))) h1 (by omega)
  have e2 := opt_back s.uid _ (s.gid.bytes ++ (s.size.bytes ++ (s.time.bytes ++ rest))) h2 (by omega)
  have e3 := opt_back s.gid _ (s.size.bytes ++ (s.time.bytes ++ rest)) h3 (by omega)
  have e4 := opt_back s.size _ (s.time.bytes ++ rest) h4 (by omega)
  have e5 := opt_back s.time _ rest h5 (by omega)
  have hb : s.bytes ++ rest = s.mode.bytes ++ (s.uid.bytes ++ (s.gid.bytes ++ (s.size.bytes ++ (s.time.bytes ++ rest)))) := by
    unfold Sett.bytes; simp only [List.append_assoc]
  rw [hb]
  clear h1 h2 h3 h4 h5 hb
  have k1 := settK_next 0 (r0 := ⟨s.mode.bytes ++ (s.uid.bytes ++ (s.gid.bytes ++ (s.size.bytes ++ (s.time.bytes ++ rest)))), 0⟩) (s := settZ) rfl e1.1
  have k5 := settK_next 4 (settK_next 3 (settK_next 2 (settK_next 1 k1 e2.1) e3.1) e4.1) e5.1
  rw [e1.2, e2.2, e3.2, e4.2, e5.2, set5] at k5
  exact k5
theorem cTk_s (z : Call) (r : Rs) : cTk 115 z r = ({ z with set := (gotR Sett.ok settZ (rSett r)).1 }, (rSett r).2) := rfl
theorem cTkOk_s (r : Rs) : cTkOk 115 r = ((gotR Sett.ok settZ (rSett r)).2 == 0) := rfl
theorem cBytes_s (x : Call) : cBytes x 115 = x.set.bytes := rfl
theorem cCopy_s (z x : Call) : cCopy z x 115 = { z with set := x.set } := rfl
theorem gotR_ok {s : Sett} {r : Rs} (hm : s.ok = true) (hr : r.e = 0) : gotR Sett.ok settZ (s, r) = (s, 0) := by
  unfold gotR
  rw [if_neg (by simpa using hr), if_pos hm]
theorem cTk_back_s (x z : Call) (rest : List UInt8) (hm : x.set.ok = true) : cTk 115 z ⟨cBytes x 115 ++ rest, 0⟩ = (cCopy z x 115, ⟨rest, 0⟩) ∧ cTkOk 115 ⟨cBytes x 115 ++ rest, 0⟩ = true := by
  have e := rSett_back x.set rest hm
  rw [cTk_s, cTkOk_s, cBytes_s, cCopy_s, e, gotR_ok hm rfl]
  exact ⟨rfl, rfl⟩
end Go.Proofs.YthfhdighniiodaaDoor

/-
  Layer 5, walks: what the reference gets. Conditions: a reader at a block of its own; texts are machine texts.
-/
namespace Go.Proofs.YthfhdighniiodaaDoor
open Go.RowKit
attribute [local go_sem ↓] Go.wp_at_zero Go.wp_at_succ
attribute [local go_sem] rowAt_ptr rowOf_drew rowOf_drewN rowOf_alloc_past rowOf_new
attribute [local go_sem ↓] ldAttrR ldOpt ldSet

attribute [local go_sem] Attr.at0 Attr.lat0 Attr.at1 Attr.lat1 Attr.at2 Attr.lat2 Attr.at3 Attr.lat3 Attr.at4 Attr.lat4 Attr.at5 Attr.lat5 Attr.at6 Attr.lat6 Attr.at7 Attr.lat7 Attr.at8 Attr.lat8 Attr.at9 Attr.lat9 Attr.sub0_10 Attr.lsub0_10 Attr.len Opt.at0 Opt.lat0 Opt.at1 Opt.lat1 Opt.sub0_2 Opt.lsub0_2 Opt.len Sett.at0 Sett.lat0 Sett.at1 Sett.lat1 Sett.at2 Sett.lat2 Sett.at3 Sett.lat3 Sett.at4 Sett.lat4 Sett.at5 Sett.lat5 Sett.at6 Sett.lat6 Sett.at7 Sett.lat7 Sett.at8 Sett.lat8 Sett.at9 Sett.lat9 Sett.sub0_10 Sett.lsub0_10 Sett.sub0_2 Sett.lsub0_2 Sett.sub2_2 Sett.lsub2_2 Sett.sub4_2 Sett.lsub4_2 Sett.sub6_2 Sett.lsub6_2 Sett.sub8_2 Sett.lsub8_2 Sett.len Post.at0 Post.lat0 Post.at1 Post.lat1 Post.at2 Post.lat2 Post.at3 Post.lat3 Post.at4 Post.lat4 Post.at5 Post.lat5 Post.at6 Post.lat6 Post.at7 Post.lat7 Post.at8 Post.lat8 Post.at9 Post.lat9 Post.at10 Post.lat10 Post.sub0_11 Post.lsub0_11 Post.sub1_10 Post.lsub1_10 Post.len Wcc.at0 Wcc.lat0 Wcc.at1 Wcc.lat1 Wcc.at2 Wcc.lat2 Wcc.at3 Wcc.lat3 Wcc.at4 Wcc.lat4 Wcc.at5 Wcc.lat5 Wcc.at6 Wcc.lat6 Wcc.at7 Wcc.lat7 Wcc.at8 Wcc.lat8 Wcc.at9 Wcc.lat9 Wcc.at10 Wcc.lat10 Wcc.at11 Wcc.lat11 Wcc.at12 Wcc.lat12 Wcc.sub0_13 Wcc.lsub0_13 Wcc.sub0_2 Wcc.lsub0_2 Wcc.sub2_11 Wcc.lsub2_11 Wcc.sub3_10 Wcc.lsub3_10 Wcc.len optV

theorem infoAttrR : (Tryd.prog.info? 42).map (fun i => (i.zero, i.size)) = some (some (.agg attrZ.vals.toArray), 10) := by kernel_rfl
theorem ReadsF.drew {g : Nat} {r : Rs} {w wx : World} (h : ReadsF g r w wx) : ReadsF g r w wx.drew := by
  obtain ⟨⟨S, a, hB, k⟩, hT⟩ := h
  exact ⟨⟨S, a, hB.drew, k⟩, hT.drew⟩

set_option maxRecDepth 20000 in
set_option maxHeartbeats 4800000 in
theorem refGetSett_any (g : Nat) (r : Rs) (w : World) (hR : RdF w g r) :
    Calls Tryd.prog 84 #[.pointer (some ⟨g, 0, none⟩)] w (GaveF g (rSett r).2 (gotV (gotR Sett.ok settZ (rSett r)).1.vals (gotR Sett.ok settZ (rSett r)).2) w) := by
  obtain ⟨hbr, hbp, hB, hsz⟩ := chain2_blks w settZ.vals settZ.vals 55 55
  have hR1 := hR.stays hB
  have hQ1 := ReadsF.behind hB (ReadsF.refl hR1)
  have hne : w.heap.size ≠ g := Nat.ne_of_gt hR.lt
  have hne1 : w.heap.size + 1 ≠ g := by have := hR.lt; omega
  clear hR hR1
  go_enter Tryd.func84, Tryd.ntmps84
  go_wp2_with fail
  change Calls _ _ _ ((w.alloc (.cells settZ.vals.toArray 55)).alloc (.cells settZ.vals.toArray 55)) _
  generalize (w.alloc (.cells settZ.vals.toArray 55)).alloc (.cells settZ.vals.toArray 55) = W0 at *
  refine (refOptR_any g r _ hQ1.1).mono ?_
  rintro e v0 ⟨he, hQ⟩
  obtain ⟨x0, hx0⟩ : ∃ x, x = rOpt r := ⟨_, rfl⟩
  rw [← hx0] at he hQ
  have HX0 := Lib.hid hx0.symm
  clear hx0
  subst he
  obtain ⟨a0, r0⟩ := x0
  simp only at hQ
  have hbr' := Blk.farCells (g := w.heap.size) (b := w.heap.size + 1) (by omega) (optV a0) 0 _ (hQ.keeps hbr hne)
  have hbp0 := hQ.keeps hbp hne1
  have hbp' := hbp0.sets (optV a0) _ 0
  rw [show setAt _ 0 (optV a0) = (setOpt settZ (optOf a0) 0).vals from rfl] at hbp'
  have hq := hQ1.trans hQ
  have hQ' : ReadsF g r0 w (v0.setCells (w.heap.size + 1) 0 (optV a0)) := ⟨hq.1.touch (Touch.setCells (F := fun i => i = w.heap.size + 1) (.inl rfl) _ 0 v0 (Touch.refl _ _)) (fun hh => hne1 hh.symm), Touch.setCells (.inr (by omega)) _ 0 v0 hq.2⟩
  obtain ⟨W0, hW0⟩ : ∃ W, W = v0.setCells (w.heap.size + 1) 0 (optV a0) := ⟨_, rfl⟩
  rw [← hW0] at hbr' hbp' hQ'
  have HW0 := Lib.hid hW0
  clear hbr hbp hQ1 hQ hq hW0
  have hbr := hbr'
  have hbp := hbp'
  have hQ1 := hQ'
  clear hbr' hbp' hQ'
  go_wp2_with (first | (refine wpList_store_part (by rfl) 53 _ _ (by rfl) (w.heap.size + 1) 0 (optV a0) _ hbp0 (by simp [Sett.len, optV]) (by rfl) (by rfl) (by kernel_rfl) (optV_one _) ?_; rw [← HW0.out]) | fail)
  clear hbp0
  refine (refOptR_any g r0 _ hQ1.1).mono ?_
  rintro e v1 ⟨he, hQ⟩
  obtain ⟨x1, hx1⟩ : ∃ x, x = rOpt r0 := ⟨_, rfl⟩
  rw [← hx1] at he hQ
  have HX1 := Lib.hid hx1.symm
  clear hx1
  subst he
  obtain ⟨a1, r1⟩ := x1
  simp only at hQ
  have hbr' := Blk.farCells (g := w.heap.size) (b := w.heap.size + 1) (by omega) (optV a1) 2 _ (hQ.keeps hbr hne)
  have hbp0 := hQ.keeps hbp hne1
  have hbp' := hbp0.sets (optV a1) _ 2
  rw [show setAt _ 2 (optV a1) = (setOpt (setOpt settZ (optOf a0) 0) (optOf a1) 1).vals from rfl] at hbp'
  have hq := hQ1.trans hQ
  have hQ' : ReadsF g r1 w (v1.setCells (w.heap.size + 1) 2 (optV a1)) := ⟨hq.1.touch (Touch.setCells (F := fun i => i = w.heap.size + 1) (.inl rfl) _ 2 v1 (Touch.refl _ _)) (fun hh => hne1 hh.symm), Touch.setCells (.inr (by omega)) _ 2 v1 hq.2⟩
  obtain ⟨W1, hW1⟩ : ∃ W, W = v1.setCells (w.heap.size + 1) 2 (optV a1) := ⟨_, rfl⟩
  rw [← hW1] at hbr' hbp' hQ'
  have HW1 := Lib.hid hW1
  clear hbr hbp hQ1 hQ hq hW1
  have hbr := hbr'
  have hbp := hbp'
  have hQ1 := hQ'
  clear hbr' hbp' hQ'
  go_wp2_with (first | (refine wpList_store_part (by rfl) 53 _ _ (by rfl) (w.heap.size + 1) 2 (optV a1) _ hbp0 (by simp [Sett.len, optV]) (by rfl) (by rfl) (by kernel_rfl) (optV_one _) ?_; rw [← HW1.out]) | fail)
  clear hbp0
  refine (refOptR_any g r1 _ hQ1.1).mono ?_
  rintro e v2 ⟨he, hQ⟩
  obtain ⟨x2, hx2⟩ : ∃ x, x = rOpt r1 := ⟨_, rfl⟩
  rw [← hx2] at he hQ
  have HX2 := Lib.hid hx2.symm
  clear hx2
  subst he
  obtain ⟨a2, r2⟩ := x2
  simp only at hQ
  have hbr' := Blk.farCells (g := w.heap.size) (b := w.heap.size + 1) (by omega) (optV a2) 4 _ (hQ.keeps hbr hne)
  have hbp0 := hQ.keeps hbp hne1
  have hbp' := hbp0.sets (optV a2) _ 4
  rw [show setAt _ 4 (optV a2) = (setOpt (setOpt (setOpt settZ (optOf a0) 0) (optOf a1) 1) (optOf a2) 2).vals from rfl] at hbp'
  have hq := hQ1.trans hQ
  have hQ' : ReadsF g r2 w (v2.setCells (w.heap.size + 1) 4 (optV a2)) := ⟨hq.1.touch (Touch.setCells (F := fun i => i = w.heap.size + 1) (.inl rfl) _ 4 v2 (Touch.refl _ _)) (fun hh => hne1 hh.symm), Touch.setCells (.inr (by omega)) _ 4 v2 hq.2⟩
  obtain ⟨W2, hW2⟩ : ∃ W, W = v2.setCells (w.heap.size + 1) 4 (optV a2) := ⟨_, rfl⟩
  rw [← hW2] at hbr' hbp' hQ'
  have HW2 := Lib.hid hW2
  clear hbr hbp hQ1 hQ hq hW2
  have hbr := hbr'
  have hbp := hbp'
  have hQ1 := hQ'
  clear hbr' hbp' hQ'
  go_wp2_with (first | (refine wpList_store_part (by rfl) 53 _ _ (by rfl) (w.heap.size + 1) 4 (optV a2) _ hbp0 (by simp [Sett.len, optV]) (by rfl) (by rfl) (by kernel_rfl) (optV_one _) ?_; rw [← HW2.out]) | fail)
  clear hbp0
  refine (refOptR_any g r2 _ hQ1.1).mono ?_
  rintro e v3 ⟨he, hQ⟩
  obtain ⟨x3, hx3⟩ : ∃ x, x = rOpt r2 := ⟨_, rfl⟩
  rw [← hx3] at he hQ
  have HX3 := Lib.hid hx3.symm
  clear hx3
  subst he
  obtain ⟨a3, r3⟩ := x3
  simp only at hQ
  have hbr' := Blk.farCells (g := w.heap.size) (b := w.heap.size + 1) (by omega) (optV a3) 6 _ (hQ.keeps hbr hne)
  have hbp0 := hQ.keeps hbp hne1
  have hbp' := hbp0.sets (optV a3) _ 6
  rw [show setAt _ 6 (optV a3) = (setOpt (setOpt (setOpt (setOpt settZ (optOf a0) 0) (optOf a1) 1) (optOf a2) 2) (optOf a3) 3).vals from rfl] at hbp'
  have hq := hQ1.trans hQ
  have hQ' : ReadsF g r3 w (v3.setCells (w.heap.size + 1) 6 (optV a3)) := ⟨hq.1.touch (Touch.setCells (F := fun i => i = w.heap.size + 1) (.inl rfl) _ 6 v3 (Touch.refl _ _)) (fun hh => hne1 hh.symm), Touch.setCells (.inr (by omega)) _ 6 v3 hq.2⟩
  obtain ⟨W3, hW3⟩ : ∃ W, W = v3.setCells (w.heap.size + 1) 6 (optV a3) := ⟨_, rfl⟩
  rw [← hW3] at hbr' hbp' hQ'
  have HW3 := Lib.hid hW3
  clear hbr hbp hQ1 hQ hq hW3
  have hbr := hbr'
  have hbp := hbp'
  have hQ1 := hQ'
  clear hbr' hbp' hQ'
  go_wp2_with (first | (refine wpList_store_part (by rfl) 53 _ _ (by rfl) (w.heap.size + 1) 6 (optV a3) _ hbp0 (by simp [Sett.len, optV]) (by rfl) (by rfl) (by kernel_rfl) (optV_one _) ?_; rw [← HW3.out]) | fail)
  clear hbp0
  refine (refOptR_any g r3 _ hQ1.1).mono ?_
  rintro e v4 ⟨he, hQ⟩
  obtain ⟨x4, hx4⟩ : ∃ x, x = rOpt r3 := ⟨_, rfl⟩
  rw [← hx4] at he hQ
  have HX4 := Lib.hid hx4.symm
  clear hx4
  subst he
  obtain ⟨a4, r4⟩ := x4
  simp only at hQ
  have hbr' := Blk.farCells (g := w.heap.size) (b := w.heap.size + 1) (by omega) (optV a4) 8 _ (hQ.keeps hbr hne)
  have hbp0 := hQ.keeps hbp hne1
  have hbp' := hbp0.sets (optV a4) _ 8
  rw [show setAt _ 8 (optV a4) = (setOpt (setOpt (setOpt (setOpt (setOpt settZ (optOf a0) 0) (optOf a1) 1) (optOf a2) 2) (optOf a3) 3) (optOf a4) 4).vals from rfl] at hbp'
  have hq := hQ1.trans hQ
  have hQ' : ReadsF g r4 w (v4.setCells (w.heap.size + 1) 8 (optV a4)) := ⟨hq.1.touch (Touch.setCells (F := fun i => i = w.heap.size + 1) (.inl rfl) _ 8 v4 (Touch.refl _ _)) (fun hh => hne1 hh.symm), Touch.setCells (.inr (by omega)) _ 8 v4 hq.2⟩
  obtain ⟨W4, hW4⟩ : ∃ W, W = v4.setCells (w.heap.size + 1) 8 (optV a4) := ⟨_, rfl⟩
  rw [← hW4] at hbr' hbp' hQ'
  have HW4 := Lib.hid hW4
  clear hbr hbp hQ1 hQ hq hW4
  have hbr := hbr'
  have hbp := hbp'
  have hQ1 := hQ'
  clear hbr' hbp' hQ'
  go_upto_region 7 with (first | (refine wpList_store_part (by rfl) 53 _ _ (by rfl) (w.heap.size + 1) 8 (optV a4) _ hbp0 (by simp [Sett.len, optV]) (by rfl) (by rfl) (by kernel_rfl) (optV_one _) ?_; rw [← HW4.out]) | fail)
  clear hbp0
  have HX := Lib.hid (show rSett r = ((setOpt (setOpt (setOpt (setOpt (setOpt settZ (optOf a0) 0) (optOf a1) 1) (optOf a2) 2) (optOf a3) 3) (optOf a4) 4), r4) by simp only [rSett, settK, HX0.out, HX1.out, HX2.out, HX3.out, HX4.out])
  clear HX0 HX1 HX2 HX3 HX4 HW0 HW1 HW2 HW3
  obtain ⟨cv, hcv⟩ : ∃ c, c = (setOpt (setOpt (setOpt (setOpt (setOpt settZ (optOf a0) 0) (optOf a1) 1) (optOf a2) 2) (optOf a3) 3) (optOf a4) 4) := ⟨_, rfl⟩
  rw [← hcv] at HX hbp
  clear hcv
  have hEc := ReadsF.err hQ1.1
  have rp : rowOf W4 (w.heap.size + 1) 0 10 = some cv.vals.toArray := hbp.row 0 10 (by simp [Sett.len])
  by_cases hE : r4.e = 0
  · have hE' : (r4.e != 0) = false := by simpa using hE
    have HE := Lib.hid hE
    clear hE
    go_wp2_with fail
    refine (refSet_any cv _).mono ?_
    rintro e w7 ⟨rfl, hb⟩
    have hs := Stb.of hb
    have hlp := hbp.lt
    have hb7 := hbr.stays hb
    have hQ7 := hQ1.new hb
    clear hb hQ1
    cases ho : cv.ok
    · have HN := Lib.hid (show gotR Sett.ok settZ (cv, r4) = (settZ, 14) by simp [gotR, HE.out, ho])
      have HQ := Lib.hid (ReadsF.lay (cs := settZ.vals) hQ7 hb7 rfl hne (Nat.le_refl _))
      clear ho hQ7
      go_wp2_with (first | (refine wpList_store_whole (by rfl) 55 _ _ (by rfl) w.heap.size settZ.vals _ hb7 (by rfl) (by rfl) (by rfl) (by kernel_rfl) (Sett.one _) ?_) | fail)
      refine ret_cells2 w.heap.size 0 settZ.vals (.int .i64 14) Tryd.results84 Tryd.underlying55 rfl (by kernel_rfl) rfl rfl HQ.out.2.range rfl ?_
      rw [HX.out, HN.out]
      exact ⟨rfl, HQ.out.1⟩
    · have HN := Lib.hid (show gotR Sett.ok settZ (cv, r4) = (cv, 0) by simp [gotR, HE.out, ho])
      have HQ := Lib.hid (ReadsF.lay (cs := cv.vals) hQ7 hb7 rfl hne (Nat.le_refl _))
      clear ho hQ7
      go_wp2_with (first | (refine wpList_store_whole (by rfl) 55 _ _ (by rfl) w.heap.size cv.vals _ hb7 (by rfl) (by rfl) (by rfl) (by kernel_rfl) (Sett.one _) ?_) | fail)
      refine ret_cells2 w.heap.size 0 cv.vals (.int .i64 0) Tryd.results84 Tryd.underlying55 rfl (by kernel_rfl) rfl rfl HQ.out.2.range rfl ?_
      rw [HX.out, HN.out]
      exact ⟨rfl, HQ.out.1⟩
  · have hE' : (r4.e != 0) = true := by simpa using hE
    have HN := Lib.hid (show gotR Sett.ok settZ (cv, r4) = (settZ, r4.e) by simp [gotR, hE])
    have hc := hbr.cell
    have hf := hbr.frozen
    have HQ := Lib.hid (ReadsF.lay (cs := settZ.vals) hQ1 hbr rfl hne (Nat.le_refl _))
    clear hE hQ1
    go_wp2
    go_region
    change Exit.then _ _ _ _ ((W4.setCells w.heap.size 0 settZ.vals).drew)
    go_wp2
    refine ret_cells2 w.heap.size 0 settZ.vals (.int .i64 r4.e) Tryd.results84 Tryd.underlying55 rfl (by kernel_rfl) rfl rfl HQ.out.2.drew.range rfl ?_
    rw [HX.out, HN.out]
    exact ⟨rfl, HQ.out.1.drew⟩

end Go.Proofs.YthfhdighniiodaaDoor

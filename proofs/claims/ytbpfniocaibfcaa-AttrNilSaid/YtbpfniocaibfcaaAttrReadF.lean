/-
  Layer 5, walks: what was ahead and behind, and what is to be set, are got. Conditions: a reader at a block of its own; texts are machine texts.
-/
import Derived.Test.YtbpfniocaibfcaaAttrReadE
import Derived.Test.YtbpfniocaibfcaaAttrWalkC
namespace Go.Proofs.Ytbpfniocaibfcaa
open Go.RowKit
attribute [local go_sem ↓] Go.wp_at_zero Go.wp_at_succ
attribute [local go_sem] rowAt_ptr rowOf_drew rowOf_drewN rowOf_alloc_past rowOf_new
attribute [local go_sem ↓] ldAttrR ldOpt ldSet ldPost ldWcc

attribute [local go_sem] Attr.at0 Attr.lat0 Attr.at1 Attr.lat1 Attr.at2 Attr.lat2 Attr.at3 Attr.lat3 Attr.at4 Attr.lat4 Attr.at5 Attr.lat5 Attr.at6 Attr.lat6 Attr.at7 Attr.lat7 Attr.at8 Attr.lat8 Attr.at9 Attr.lat9 Attr.sub0_10 Attr.lsub0_10 Attr.len Opt.at0 Opt.lat0 Opt.at1 Opt.lat1 Opt.sub0_2 Opt.lsub0_2 Opt.len Sett.at0 Sett.lat0 Sett.at1 Sett.lat1 Sett.at2 Sett.lat2 Sett.at3 Sett.lat3 Sett.at4 Sett.lat4 Sett.at5 Sett.lat5 Sett.at6 Sett.lat6 Sett.at7 Sett.lat7 Sett.at8 Sett.lat8 Sett.at9 Sett.lat9 Sett.sub0_10 Sett.lsub0_10 Sett.sub0_2 Sett.lsub0_2 Sett.sub2_2 Sett.lsub2_2 Sett.sub4_2 Sett.lsub4_2 Sett.sub6_2 Sett.lsub6_2 Sett.sub8_2 Sett.lsub8_2 Sett.len Post.at0 Post.lat0 Post.at1 Post.lat1 Post.at2 Post.lat2 Post.at3 Post.lat3 Post.at4 Post.lat4 Post.at5 Post.lat5 Post.at6 Post.lat6 Post.at7 Post.lat7 Post.at8 Post.lat8 Post.at9 Post.lat9 Post.at10 Post.lat10 Post.sub0_11 Post.lsub0_11 Post.sub1_10 Post.lsub1_10 Post.len Wcc.at0 Wcc.lat0 Wcc.at1 Wcc.lat1 Wcc.at2 Wcc.lat2 Wcc.at3 Wcc.lat3 Wcc.at4 Wcc.lat4 Wcc.at5 Wcc.lat5 Wcc.at6 Wcc.lat6 Wcc.at7 Wcc.lat7 Wcc.at8 Wcc.lat8 Wcc.at9 Wcc.lat9 Wcc.at10 Wcc.lat10 Wcc.at11 Wcc.lat11 Wcc.at12 Wcc.lat12 Wcc.sub0_13 Wcc.lsub0_13 Wcc.sub0_2 Wcc.lsub0_2 Wcc.sub2_11 Wcc.lsub2_11 Wcc.sub3_10 Wcc.lsub3_10 Wcc.len optV

theorem setAt_wcc (o : Opt) (p : Post) : setAt (Wcc.vals ⟨o, postZ⟩) 2 p.vals = Wcc.vals ⟨o, p⟩ := rfl
set_option maxHeartbeats 3200000 in
theorem getWcc_any (g : Nat) (r : Rs) (w : World) (hR : Rd w g r) (hl : r.s.length ≤ 9223372036854775807) :
    Calls Try.prog 29 #[.pointer (some ⟨g, 0, none⟩)] w (Gave g (rWcc r).2 (gotV (gotR Wcc.ok wccZ (rWcc r)).1.vals (gotR Wcc.ok wccZ (rWcc r)).2) w) := by
  have hb := Blk.new w 61 wccZ.vals
  have hB : Below w.heap.size w (w.alloc (.cells wccZ.vals.toArray 61)) := (Below.refl _ _).alloc (Nat.le_refl _) _
  have hR1 := hR.stays hB
  have hne : w.heap.size ≠ g := Nat.ne_of_gt hR.lt
  have hgl := hR.lt
  have hl2 := rOpt_len hl
  have hg := rWcc_good hl
  clear hR
  go_enter Try.func29, Try.ntmps29
  go_wp2_with fail
  change Calls _ _ _ (w.alloc (.cells wccZ.vals.toArray 61)) _
  generalize w.alloc (.cells wccZ.vals.toArray 61) = w0 at *
  refine (rOpt_any g r _ hR1 hl).mono ?_
  rintro e w1 ⟨he, hQ⟩
  obtain ⟨x, hx⟩ : ∃ x, x = rOpt r := ⟨_, rfl⟩
  rw [← hx] at he hQ hl2
  have HX := Lib.hid hx
  clear hx
  subst he
  obtain ⟨⟨o1, o2⟩, rr⟩ := x
  simp only at hQ hl2
  have hb1 := (hQ.keeps hb hne).alloc (.cells (Wcc.vals ⟨optOf (o1, o2), postZ⟩).toArray 61)
  have hp1 := Blk.new w1 61 (Wcc.vals ⟨optOf (o1, o2), postZ⟩)
  have hQ1 := (Reads.behind hB hQ).new ((Below.refl _ _).alloc (Nat.le_refl _) (.cells (Wcc.vals ⟨optOf (o1, o2), postZ⟩).toArray 61))
  have hne1 : w1.heap.size ≠ g := by have := hQ.1.lt; omega
  have hlt2 : w.heap.size < w1.heap.size := (hQ.keeps hb hne).lt
  have hne2 : w.heap.size ≠ w1.heap.size := by omega
  have hR2 := hQ1.1
  clear hQ hb
  go_wp2_with fail
  change Calls _ _ _ (w1.alloc (.cells (Wcc.vals ⟨optOf (o1, o2), postZ⟩).toArray 61)) _
  generalize w1.alloc (.cells (Wcc.vals ⟨optOf (o1, o2), postZ⟩).toArray 61) = w2 at *
  refine (posted_any g rr _ hR2 (by omega)).mono ?_
  rintro e w3 ⟨he, hQ3⟩
  obtain ⟨p, hp⟩ : ∃ p, p = rPost rr := ⟨_, rfl⟩
  rw [← hp] at he hQ3
  have HP := Lib.hid hp
  clear hp
  subst he
  obtain ⟨pv, rs⟩ := p
  simp only at hQ3
  have hb3 := hQ3.keeps hb1 hne
  have hp3 := hQ3.keeps hp1 hne1
  have hQ4 := hQ1.trans hQ3
  have hp4 := hp3.sets pv.vals _ 2
  rw [setAt_wcc] at hp4
  have hb4 := Blk.farCells (g := w.heap.size) hne2 pv.vals 2 _ hb3
  have hQ5 : Reads g rs w (w3.setCells w1.heap.size 2 pv.vals) := ⟨hQ4.1.touch (Touch.setCells (F := fun k => k = w1.heap.size) (.inl rfl) _ 2 w3 (Touch.refl _ _)) (fun hh => hne1 hh.symm), Touch.setCells (.inr (by omega)) _ 2 w3 hQ4.2⟩
  have rp : rowOf (w3.setCells w1.heap.size 2 pv.vals) w1.heap.size 0 13 = some (Wcc.vals ⟨optOf (o1, o2), pv⟩).toArray := hp4.row 0 13 (by simp [Wcc.len])
  obtain ⟨w4, hw4⟩ : ∃ w4, w4 = w3.setCells w1.heap.size 2 pv.vals := ⟨_, rfl⟩
  rw [← hw4] at rp hb4 hQ5
  have HW4 := Lib.hid hw4
  clear hQ1 hQ3 hQ4 hp4 hb1 hb3 hp1 hR2 hw4
  go_wp2_with (first | (refine wpList_store_part (by rfl) 57 _ _ (by rfl) w1.heap.size 2 pv.vals _ hp3 (by simp [Post.len, Wcc.len]) (by rfl) (by rfl) (by kernel_rfl) (Post.one _) ?_; rw [← HW4.out]) | fail)
  have hw : rWcc r = (⟨optOf (o1, o2), pv⟩, rs) := by unfold rWcc; rw [← HX.out]; simp only; rw [← HP.out]
  rw [hw] at hg
  refine (gotWcc_any g rs ⟨optOf (o1, o2), pv⟩ _ hQ5.1 hg).mono ?_
  rintro e w5 ⟨he, hb⟩
  have hb5 := hb4.stays hb
  have hQ6 := hQ5.new hb
  obtain ⟨y, hy⟩ : ∃ y, y = gotR Wcc.ok wccZ (⟨optOf (o1, o2), pv⟩, rs) := ⟨_, rfl⟩
  rw [← hy] at he
  have HY := Lib.hid hy
  have HWW := Lib.hid hw
  clear hy hw hb hb4 hQ5 rp
  subst he
  unfold gotV
  obtain ⟨y1, y2⟩ := y
  have HQ := Lib.hid (Reads.lay (cs := y1.vals) hQ6 hb5 rfl hne (Nat.le_refl _))
  clear hQ6
  go_wp2_with (first | (refine wpList_store_whole (by rfl) 61 _ _ (by rfl) w.heap.size y1.vals _ hb5 (by rfl) (by rfl) (by rfl) (by kernel_rfl) (Wcc.one _) ?_) | fail)
  refine ret_cells2 w.heap.size 0 y1.vals (.int .i64 y2) Try.results29 Try.underlying61 rfl (by kernel_rfl) rfl rfl HQ.out.2.range rfl ?_
  rw [HWW.out, ← HY.out]
  exact ⟨rfl, HQ.out.1⟩

/-- the first k options are read -/
def setOpt (s : Sett) (o : Opt) : Nat → Sett
  | 0 => { s with mode := o }
  | 1 => { s with uid := o }
  | 2 => { s with gid := o }
  | 3 => { s with size := o }
  | _ => { s with time := o }
def settK : Nat → Rs → Sett × Rs
  | 0, r => (settZ, r)
  | k + 1, r => (setOpt (settK k r).1 (optOf (rOpt (settK k r).2).1) k, (rOpt (settK k r).2).2)
def rSett (r : Rs) : Sett × Rs := settK 5 r
theorem settK_step (r : Rs) {k : Nat} (hk : k < 5) : setAt (settK k r).1.vals (2 * k) (optV (rOpt (settK k r).2).1) = (settK (k + 1) r).1.vals ∧ (settK (k + 1) r).2 = (rOpt (settK k r).2).2 := by
  match k, hk with
  | 0, _ | 1, _ | 2, _ | 3, _ | 4, _ => exact ⟨rfl, rfl⟩
theorem settK_len (r : Rs) (k : Nat) (h : r.s.length ≤ 9223372036854775807) : (settK k r).2.s.length ≤ 9223372036854775807 := by
  induction k with
  | zero => exact h
  | succ k ih => exact Nat.le_trans (rOpt_len ih) ih
theorem rSett_good {r : Rs} (h : r.s.length ≤ 9223372036854775807) : (rSett r).1.good :=
  ⟨rOpt_good h, rOpt_good (settK_len r 1 h), rOpt_good (settK_len r 2 h), rOpt_good (settK_len r 3 h), rOpt_good (settK_len r 4 h)⟩

set_option maxRecDepth 20000 in
set_option maxHeartbeats 3200000 in
theorem getSett_any (g : Nat) (r : Rs) (w : World) (hR : Rd w g r) (hl : r.s.length ≤ 9223372036854775807) :
    Calls Try.prog 30 #[.pointer (some ⟨g, 0, none⟩)] w (Gave g (rSett r).2 (gotV (gotR Sett.ok settZ (rSett r)).1.vals (gotR Sett.ok settZ (rSett r)).2) w) := by
  obtain ⟨b0, b1, hB, hsz⟩ := chain2_blks w settZ.vals settZ.vals 44 44
  have hR1 := hR.stays hB
  have hne : w.heap.size ≠ g := Nat.ne_of_gt hR.lt
  have hne1 : w.heap.size + 1 ≠ g := by have := hR.lt; omega
  have hgl := hR.lt
  have hlk := fun k => settK_len r k hl
  have HL := Lib.hid hlk
  have HG := Lib.hid (rSett_good hl)
  clear hR hlk
  go_enter Try.func30, Try.ntmps30
  go_wp2_with fail
  change Calls _ _ _ ((w.alloc (.cells settZ.vals.toArray 44)).alloc (.cells settZ.vals.toArray 44)) _
  generalize (w.alloc (.cells settZ.vals.toArray 44)).alloc (.cells settZ.vals.toArray 44) = W0 at *
  refine (options_any _ _).mono ?_
  rintro e w1 ⟨h, rfl, hp, hb, hh⟩
  have hP0 : Blk w1 w.heap.size 44 settZ.vals := b0.stays hb
  have hP1 : Blk w1 (w.heap.size + 1) 44 (settK 0 r).1.vals := b1.stays hb
  have hQ : Reads g (settK 0 r).2 w w1 := Reads.behind (below_then hB hb) (Reads.refl (hR1.stays hb))
  clear hb b0 b1 hR1 hB
  go_wp2
  go_loopw [9] (fun i wr => ∃ k : Nat, k ≤ 5 ∧ i = .int .i64 k ∧ Reads g (settK k r).2 w wr ∧ Blk wr w.heap.size 44 settZ.vals ∧ Blk wr (w.heap.size + 1) 44 (settK k r).1.vals ∧ Blk wr h 91 (optPtrs (w.heap.size + 1))) (fun i _ => 5 - (intOf i).toNat)
  case atStart => exact ⟨0, by omega, rfl, hQ, hP0, hP1, hp⟩
  case round =>
    clear hQ hP0 hP1 hp
    obtain ⟨k, hk, rfl, hQ, hP0, hP1, hp⟩ := hrel
    by_cases hlt : k < 5
    · have hc := optPtr_at hp hlt
      go_wp2_with fail
      refine (rOpt_any g (settK k r).2 _ hQ.1 (HL.out k)).mono ?_
      rintro e w4 ⟨rfl, hQ4⟩
      have hp0 := hQ4.keeps hP0 hne
      have hp1 := hQ4.keeps hP1 hne1
      have hpp := hQ4.keeps hp (by omega)
      obtain ⟨e1, e2⟩ := settK_step r hlt
      have hs1 := hp1.sets (optV (rOpt (settK k r).2).1) _ (2 * k)
      rw [e1] at hs1
      have hs0 := Blk.farCells (g := w.heap.size) (b := w.heap.size + 1) (by omega) (optV (rOpt (settK k r).2).1) (2 * k) _ hp0
      have hsp := Blk.farCells (g := h) (b := w.heap.size + 1) (by omega) (optV (rOpt (settK k r).2).1) (2 * k) _ hpp
      have hq := hQ.trans hQ4
      have hsq : Reads g (settK (k + 1) r).2 w (w4.setCells (w.heap.size + 1) (2 * k) (optV (rOpt (settK k r).2).1)) := by
        rw [e2]
        exact ⟨hq.1.touch (Touch.setCells (F := fun i => i = w.heap.size + 1) (.inl rfl) _ (2 * k) w4 (Touch.refl _ _)) (fun hh => hne1 hh.symm), Touch.setCells (.inr (by omega)) _ (2 * k) w4 hq.2⟩
      obtain ⟨x, hx⟩ : ∃ x, x = (rOpt (settK k r).2).1 := ⟨_, rfl⟩
      rw [← hx] at hs1 hs0 hsp hsq ⊢
      have hlo : 2 * k + (optV x).length ≤ (settK k r).1.vals.length := by simp [optV, Sett.len]; omega
      have HS := Lib.hid (And.intro hsq (And.intro hs0 (And.intro hs1 hsp)))
      clear hs1 hs0 hsp hsq hx hq hp0 hpp hQ hQ4 hP0 hP1 hp hc e1 e2
      go_wp2_with (first | (refine wpList_store_part (by rfl) 42 _ _ (by rfl) (w.heap.size + 1) (2 * k) (optV x) _ hp1 hlo (by rfl) (by rfl) (by kernel_rfl) (optV_one _) ?_) | fail)
      go_roundw
      case rel => exact ⟨k + 1, by omega, by go_num, HS.out⟩
      case measure => simp [intOf]; omega
    · obtain rfl : k = 5 := by omega
      obtain ⟨x, hx⟩ : ∃ x, x = rSett r := ⟨_, rfl⟩
      have hQ5 : Reads g (rSett r).2 w wr := hQ
      have hP5 : Blk wr (w.heap.size + 1) 44 (rSett r).1.vals := hP1
      have hg := HG.out
      rw [← hx] at hQ5 hP5 hg
      have HX := Lib.hid hx
      have rs : rowOf wr (w.heap.size + 1) 0 10 = some x.1.vals.toArray := hP5.row 0 10 (by simp [Sett.len])
      clear hx hQ hP1 hp
      go_wp2_with fail
      refine (gotSett_any g x.2 x.1 _ hQ5.1 hg).mono ?_
      rintro e w5 ⟨he, hb⟩
      have hb5 := hP0.stays hb
      have hQ6 := hQ5.new hb
      obtain ⟨y, hy⟩ : ∃ y, y = gotR Sett.ok settZ (x.1, x.2) := ⟨_, rfl⟩
      rw [← hy] at he
      have HY := Lib.hid hy
      clear hy hb hP5 hQ5 rs hP0
      subst he
      unfold gotV
      obtain ⟨y1, y2⟩ := y
      have HQ := Lib.hid (Reads.lay (cs := y1.vals) hQ6 hb5 rfl hne (Nat.le_refl _))
      clear hQ6
      go_wp2_with (first | (refine wpList_store_whole (by rfl) 44 _ _ (by rfl) w.heap.size y1.vals _ hb5 (by rfl) (by rfl) (by rfl) (by kernel_rfl) (Sett.one _) ?_) | fail)
      refine ret_cells2 w.heap.size 0 y1.vals (.int .i64 y2) Try.results30 Try.underlying44 rfl (by kernel_rfl) rfl rfl HQ.out.2.range rfl ?_
      have h2 := HQ.out.1
      rw [HX.out] at h2 HY
      rw [← HY.out]
      exact ⟨rfl, h2⟩
end Go.Proofs.Ytbpfniocaibfcaa

/-
  Layer 7, walks: the call of bytes. Condition: a machine text.
-/
import Derived.Test.YtfjflkmhhbhceaaGreatDoorK28
import Derived.Deep.Cut
namespace Go.Proofs.YtfjflkmhhbhceaaGreatDoor
open Go.RowKit
attribute [local go_sem ↓] Go.wp_at_zero Go.wp_at_succ
attribute [local go_sem] rowAt_ptr rowOf_drew rowOf_drewN rowOf_alloc_past rowOf_new
attribute [local go_sem ↓] ldSet ldOpt ldCall

attribute [local go_sem] Call.at0 Call.lat0 Call.at1 Call.lat1 Call.at2 Call.lat2 Call.at3 Call.lat3 Call.at4 Call.lat4 Call.at5 Call.lat5 Call.at6 Call.lat6 Call.at7 Call.lat7 Call.at8 Call.lat8 Call.at9 Call.lat9 Call.at10 Call.lat10 Call.at11 Call.lat11 Call.at12 Call.lat12 Call.at13 Call.lat13 Call.at14 Call.lat14 Call.at15 Call.lat15 Call.at16 Call.lat16 Call.at17 Call.lat17 Call.at18 Call.lat18 Call.at19 Call.lat19 Call.at20 Call.lat20 Call.at21 Call.lat21 Call.at22 Call.lat22 Call.at23 Call.lat23 Call.sub0_24 Call.lsub0_24 Call.sub9_10 Call.lsub9_10 Call.sub9_2 Call.lsub9_2 Call.sub11_2 Call.lsub11_2 Call.sub13_2 Call.lsub13_2 Call.sub15_2 Call.lsub15_2 Call.sub17_2 Call.lsub17_2 Call.sub19_2 Call.lsub19_2 Call.len Sett.at0 Sett.lat0 Sett.at1 Sett.lat1 Sett.at2 Sett.lat2 Sett.at3 Sett.lat3 Sett.at4 Sett.lat4 Sett.at5 Sett.lat5 Sett.at6 Sett.lat6 Sett.at7 Sett.lat7 Sett.at8 Sett.lat8 Sett.at9 Sett.lat9 Sett.sub0_10 Sett.lsub0_10 Sett.sub0_2 Sett.lsub0_2 Sett.sub2_2 Sett.lsub2_2 Sett.sub4_2 Sett.lsub4_2 Sett.sub6_2 Sett.lsub6_2 Sett.sub8_2 Sett.lsub8_2 Sett.len Opt.at0 Opt.lat0 Opt.at1 Opt.lat1 Opt.sub0_2 Opt.lsub0_2 Opt.len

/-- the first k letters' fields are taken -/
def cSt (l : List UInt8) (z : Call) (r : Rs) (k : Nat) : Call × Rs := (l.take k).foldl (fun x c => cTk c.toNat x.1 x.2) (z, r)
theorem cSt_succ (l : List UInt8) (z : Call) (r : Rs) (k : Nat) (hk : k < l.length) : cSt l z r (k + 1) = cTk l[k].toNat (cSt l z r k).1 (cSt l z r k).2 := by
  unfold cSt
  rw [List.take_add_one, List.getElem?_eq_getElem hk, List.foldl_append]
  rfl
theorem cOpaque_len {n : Int} {r : Rs} (h : r.s.length ≤ 9223372036854775807) : (rOpaque n r).2.s.length ≤ r.s.length := by
  unfold rOpaque; split
  · exact rU32_len h
  · split
    · simp [Rs.fail]
    · exact Nat.le_trans (rPadded_len (Nat.le_trans (rU32_len h) h)) (rU32_len h)
theorem ite_of {α : Type} (P : α → Prop) {c : Prop} [Decidable c] {a b : α} (ha : P a) (hb : P b) : P (if c then a else b) := by split <;> assumption
theorem cTk_le (c : Nat) (z : Call) {r : Rs} {M : Nat} (ho : ∀ n, (rOpaque n r).2.s.length ≤ M) (h8 : (rU64 r).2.s.length ≤ M) (h4 : (rU32 r).2.s.length ≤ M) (hs : (rSett r).2.s.length ≤ M) (hg : (rOpt r).2.s.length ≤ M) (h : r.s.length ≤ M) : (cTk c z r).2.s.length ≤ M := by
  unfold cTk
  exact (ite_of (fun x : Call × Rs => x.2.s.length ≤ M) (ho _) (ite_of (fun x : Call × Rs => x.2.s.length ≤ M) (ho _) (ite_of (fun x : Call × Rs => x.2.s.length ≤ M) (ho _) (ite_of (fun x : Call × Rs => x.2.s.length ≤ M) (ho _) (ite_of (fun x : Call × Rs => x.2.s.length ≤ M) (ho _) (ite_of (fun x : Call × Rs => x.2.s.length ≤ M) (ho _) (ite_of (fun x : Call × Rs => x.2.s.length ≤ M) h8 (ite_of (fun x : Call × Rs => x.2.s.length ≤ M) h8 (ite_of (fun x : Call × Rs => x.2.s.length ≤ M) h8 (ite_of (fun x : Call × Rs => x.2.s.length ≤ M) h4 (ite_of (fun x : Call × Rs => x.2.s.length ≤ M) h4 (ite_of (fun x : Call × Rs => x.2.s.length ≤ M) hs (ite_of (fun x : Call × Rs => x.2.s.length ≤ M) hg h)))))))))))))
theorem cTk_len (c : Nat) (z : Call) {r : Rs} (h : r.s.length ≤ 9223372036854775807) : (cTk c z r).2.s.length ≤ 9223372036854775807 :=
  cTk_le c z (fun n => Nat.le_trans (cOpaque_len (n := n) h) h) (Nat.le_trans (rU64_len h) h) (Nat.le_trans (rU32_len h) h) (settK_len r 5 h) (Nat.le_trans (rOpt_len h) h) h
theorem cSt_len (l : List UInt8) (z : Call) {r : Rs} (h : r.s.length ≤ 9223372036854775807) (k : Nat) (hk : k ≤ l.length) : (cSt l z r k).2.s.length ≤ 9223372036854775807 := by
  induction k with
  | zero => exact h
  | succ k ih => rw [cSt_succ _ _ _ _ (by omega)]; exact cTk_len _ _ (ih (by omega))
/-- may the field of the letter be -/
def cStOk (l : List UInt8) (z : Call) (r : Rs) (k : Nat) : Bool := cTkOk (l.getD k 0).toNat (cSt l z r k).2
/-- the call of bytes, or the error -/
def cGet (p : Int) (s : List UInt8) : Call × Int :=
  if cThere p = false then (callZ, 22)
  else if (∀ k, k < (cFields p).length → cStOk (cFields p) { callZ with proc := p } ⟨s, 0⟩ k = true) ∧ rDone (cSt (cFields p) { callZ with proc := p } ⟨s, 0⟩ (cFields p).length).2 = 0
  then ((cSt (cFields p) { callZ with proc := p } ⟨s, 0⟩ (cFields p).length).1, 0) else (callZ, 14)
/-- what holds while a call is taken -/
structure Getting (w0 : World) (q g h b : Nat) (l : List UInt8) (z : Call) (r : Rs) (k : Nat) (W : World) : Prop where
  Z : Blk W q 36 callZ.vals
  R : Rd W g (cSt l z r k).2
  H : Blk W h 167 [.pointer (some ⟨g, 0, none⟩)]
  C : Blk W b 36 (cSt l z r k).1.vals
  B : Below w0.heap.size w0 W

end Go.Proofs.YtfjflkmhhbhceaaGreatDoor

/-
  Layer 5, walks: what the reference gets. Conditions: a reader at a block of its own; texts are machine texts.
-/
namespace Go.Proofs.YtfjflkmhhbhceaaGreatDoor
open Go.RowKit
attribute [local go_sem ↓] Go.wp_at_zero Go.wp_at_succ
attribute [local go_sem] rowAt_ptr rowOf_drew rowOf_drewN rowOf_alloc_past rowOf_new
attribute [local go_sem ↓] ldAttrR ldOpt ldSet ldPost ldWcc

attribute [local go_sem] Attr.at0 Attr.lat0 Attr.at1 Attr.lat1 Attr.at2 Attr.lat2 Attr.at3 Attr.lat3 Attr.at4 Attr.lat4 Attr.at5 Attr.lat5 Attr.at6 Attr.lat6 Attr.at7 Attr.lat7 Attr.at8 Attr.lat8 Attr.at9 Attr.lat9 Attr.sub0_10 Attr.lsub0_10 Attr.len Opt.at0 Opt.lat0 Opt.at1 Opt.lat1 Opt.sub0_2 Opt.lsub0_2 Opt.len Sett.at0 Sett.lat0 Sett.at1 Sett.lat1 Sett.at2 Sett.lat2 Sett.at3 Sett.lat3 Sett.at4 Sett.lat4 Sett.at5 Sett.lat5 Sett.at6 Sett.lat6 Sett.at7 Sett.lat7 Sett.at8 Sett.lat8 Sett.at9 Sett.lat9 Sett.sub0_10 Sett.lsub0_10 Sett.sub0_2 Sett.lsub0_2 Sett.sub2_2 Sett.lsub2_2 Sett.sub4_2 Sett.lsub4_2 Sett.sub6_2 Sett.lsub6_2 Sett.sub8_2 Sett.lsub8_2 Sett.len Post.at0 Post.lat0 Post.at1 Post.lat1 Post.at2 Post.lat2 Post.at3 Post.lat3 Post.at4 Post.lat4 Post.at5 Post.lat5 Post.at6 Post.lat6 Post.at7 Post.lat7 Post.at8 Post.lat8 Post.at9 Post.lat9 Post.at10 Post.lat10 Post.sub0_11 Post.lsub0_11 Post.sub1_10 Post.lsub1_10 Post.len Wcc.at0 Wcc.lat0 Wcc.at1 Wcc.lat1 Wcc.at2 Wcc.lat2 Wcc.at3 Wcc.lat3 Wcc.at4 Wcc.lat4 Wcc.at5 Wcc.lat5 Wcc.at6 Wcc.lat6 Wcc.at7 Wcc.lat7 Wcc.at8 Wcc.lat8 Wcc.at9 Wcc.lat9 Wcc.at10 Wcc.lat10 Wcc.at11 Wcc.lat11 Wcc.at12 Wcc.lat12 Wcc.sub0_13 Wcc.lsub0_13 Wcc.sub0_2 Wcc.lsub0_2 Wcc.sub2_11 Wcc.lsub2_11 Wcc.sub3_10 Wcc.lsub3_10 Wcc.len optV

theorem infoAttrR : (Tryz.prog.info? 43).map (fun i => (i.zero, i.size)) = some (some (.agg attrZ.vals.toArray), 10) := by kernel_rfl
theorem infoPostR : (Tryz.prog.info? 45).map (fun i => (i.zero, i.size)) = some (some (.agg postZ.vals.toArray), 11) := by kernel_rfl
theorem ReadsF.drew {g : Nat} {r : Rs} {w wx : World} (h : ReadsF g r w wx) : ReadsF g r w wx.drew := by
  obtain ⟨⟨S, a, hB, k⟩, hT⟩ := h
  exact ⟨⟨S, a, hB.drew, k⟩, hT.drew⟩

set_option maxHeartbeats 1600000 in
theorem refGetPost_any (g : Nat) (r : Rs) (w : World) (hR : RdF w g r) :
    Calls Tryz.prog 152 #[.pointer (some ⟨g, 0, none⟩)] w (GaveF g (rPost r).2 (gotV (gotR Post.ok postZ (rPost r)).1.vals (gotR Post.ok postZ (rPost r)).2) w) := by
  have hb := Blk.new w 45 postZ.vals
  have hB : Below w.heap.size w (w.alloc (.cells postZ.vals.toArray 45)) := (Below.refl _ _).alloc (Nat.le_refl _) _
  have hR1 := hR.stays hB
  have hne : w.heap.size ≠ g := Nat.ne_of_gt hR.lt
  have hgl := hR.lt
  clear hR
  go_enter Tryz.func152, Tryz.ntmps152
  go_wp2_with fail
  change Calls _ _ _ (w.alloc (.cells postZ.vals.toArray 45)) _
  generalize w.alloc (.cells postZ.vals.toArray 45) = w0 at *
  refine (postedF_any g r _ hR1).mono ?_
  rintro e w1 ⟨he, hQ⟩
  obtain ⟨x, hx⟩ : ∃ x, x = rPost r := ⟨_, rfl⟩
  rw [← hx] at he hQ
  have HX := Lib.hid hx.symm
  clear hx
  subst he
  obtain ⟨av, rr⟩ := x
  simp only at hQ
  have hbr := (hQ.keeps hb hne).alloc (.cells av.vals.toArray 45)
  have hbp := Blk.new w1 45 av.vals
  have hQ1 := (ReadsF.behind hB hQ).new ((Below.refl _ _).alloc (Nat.le_refl _) (.cells av.vals.toArray 45))
  clear hQ hb
  obtain ⟨w2, hw2⟩ : ∃ w2, w2 = w1.alloc (.cells av.vals.toArray 45) := ⟨_, rfl⟩
  rw [← hw2] at hbr hbp hQ1
  have HW2 := Lib.hid hw2
  clear hw2
  go_upto_region 2 with (first | (refine wpList_new_struct (by rfl) (by rfl) 45 (by rfl) _ _ (by rfl) av.vals infoPostR (by rfl) (by rfl) (Post.one _) (by rfl) (by rfl) ?_; rw [← HW2.out]) | fail)
  have hEc := ReadsF.err hQ1.1
  have rp : rowOf w2 (w1.heap.size) 0 11 = some av.vals.toArray := hbp.row 0 11 (by simp [Post.len])
  by_cases hE : rr.e = 0
  · have hE' : (rr.e != 0) = false := by simpa using hE
    have HE := Lib.hid hE
    clear hE
    go_wp2_with fail
    refine (refPost5_any av _).mono ?_
    rintro e w7 ⟨rfl, hb⟩
    have hs := Stb.of hb
    have hlp := hbp.lt
    have hb7 := hbr.stays hb
    have hQ7 := hQ1.new hb
    clear hb hQ1
    cases ho : av.ok
    · have HN := Lib.hid (show gotR Post.ok postZ (av, rr) = (postZ, 14) by simp [gotR, HE.out, ho])
      have HQ := Lib.hid (ReadsF.lay (cs := postZ.vals) hQ7 hb7 rfl hne (Nat.le_refl _))
      clear ho hQ7
      go_wp2_with (first | (refine wpList_store_whole (by rfl) 45 _ _ (by rfl) w.heap.size postZ.vals _ hb7 (by rfl) (by rfl) (by rfl) (by kernel_rfl) (Post.one _) ?_) | fail)
      refine ret_cells2 w.heap.size 0 postZ.vals (.int .i64 14) Tryz.results152 Tryz.underlying45 rfl (by kernel_rfl) rfl rfl HQ.out.2.range rfl ?_
      rw [HX.out, HN.out]
      exact ⟨rfl, HQ.out.1⟩
    · have HN := Lib.hid (show gotR Post.ok postZ (av, rr) = (av, 0) by simp [gotR, HE.out, ho])
      have HQ := Lib.hid (ReadsF.lay (cs := av.vals) hQ7 hb7 rfl hne (Nat.le_refl _))
      clear ho hQ7
      go_wp2_with (first | (refine wpList_store_whole (by rfl) 45 _ _ (by rfl) w.heap.size av.vals _ hb7 (by rfl) (by rfl) (by rfl) (by kernel_rfl) (Post.one _) ?_) | fail)
      refine ret_cells2 w.heap.size 0 av.vals (.int .i64 0) Tryz.results152 Tryz.underlying45 rfl (by kernel_rfl) rfl rfl HQ.out.2.range rfl ?_
      rw [HX.out, HN.out]
      exact ⟨rfl, HQ.out.1⟩
  · have hE' : (rr.e != 0) = true := by simpa using hE
    have HN := Lib.hid (show gotR Post.ok postZ (av, rr) = (postZ, rr.e) by simp [gotR, hE])
    have hc := hbr.cell
    have hf := hbr.frozen
    have HQ := Lib.hid (ReadsF.lay (cs := postZ.vals) hQ1 hbr rfl hne (Nat.le_refl _))
    clear hE hQ1
    go_wp2
    go_region
    change Exit.then _ _ _ _ ((w2.setCells w.heap.size 0 postZ.vals).drew)
    go_wp2
    refine ret_cells2 w.heap.size 0 postZ.vals (.int .i64 rr.e) Tryz.results152 Tryz.underlying45 rfl (by kernel_rfl) rfl rfl HQ.out.2.drew.range rfl ?_
    rw [HX.out, HN.out]
    exact ⟨rfl, HQ.out.1.drew⟩

set_option maxRecDepth 20000 in
set_option maxHeartbeats 4800000 in
theorem refGetWcc_any (g : Nat) (r : Rs) (w : World) (hR : RdF w g r) :
    Calls Tryz.prog 153 #[.pointer (some ⟨g, 0, none⟩)] w (GaveF g (rWcc r).2 (gotV (gotR Wcc.ok wccZ (rWcc r)).1.vals (gotR Wcc.ok wccZ (rWcc r)).2) w) := by
  obtain ⟨hbr, hbp, hB, hsz⟩ := chain2_blks w wccZ.vals wccZ.vals 47 47
  have hR1 := hR.stays hB
  have hQ1 := ReadsF.behind hB (ReadsF.refl hR1)
  have hne : w.heap.size ≠ g := Nat.ne_of_gt hR.lt
  have hne1 : w.heap.size + 1 ≠ g := by have := hR.lt; omega
  clear hR hR1
  go_enter Tryz.func153, Tryz.ntmps153
  go_wp2_with fail
  change Calls _ _ _ ((w.alloc (.cells wccZ.vals.toArray 47)).alloc (.cells wccZ.vals.toArray 47)) _
  generalize (w.alloc (.cells wccZ.vals.toArray 47)).alloc (.cells wccZ.vals.toArray 47) = W0 at *
  refine (refOptR_any g r _ hQ1.1).mono ?_
  rintro e v0 ⟨he, hQ⟩
  obtain ⟨x0, hx0⟩ : ∃ x, x = rOpt r := ⟨_, rfl⟩
  rw [← hx0] at he hQ
  have HX0 := Lib.hid hx0.symm
  clear hx0
  subst he
  obtain ⟨a0, r0⟩ := x0
  simp only at hQ
  have hbr' := Blk.farCells (g := w.heap.size) (b := w.heap.size + 1) (by omega) (optV a0) 0 _ (hQ.keeps hbr hne)
  have hbp0 := hQ.keeps hbp hne1
  have hbp' := hbp0.sets (optV a0) _ 0
  rw [show setAt _ 0 (optV a0) = (Wcc.mk (optOf a0) postZ).vals from rfl] at hbp'
  have hq := hQ1.trans hQ
  have hQ' : ReadsF g r0 w (v0.setCells (w.heap.size + 1) 0 (optV a0)) := ⟨hq.1.touch (Touch.setCells (F := fun i => i = w.heap.size + 1) (.inl rfl) _ 0 v0 (Touch.refl _ _)) (fun hh => hne1 hh.symm), Touch.setCells (.inr (by omega)) _ 0 v0 hq.2⟩
  obtain ⟨W0, hW0⟩ : ∃ W, W = v0.setCells (w.heap.size + 1) 0 (optV a0) := ⟨_, rfl⟩
  rw [← hW0] at hbr' hbp' hQ'
  have HW0 := Lib.hid hW0
  clear hbr hbp hQ1 hQ hq hW0
  have hbr := hbr'
  have hbp := hbp'
  have hQ1 := hQ'
  clear hbr' hbp' hQ'
  go_wp2_with (first | (refine wpList_store_part (by rfl) 32 _ _ (by rfl) (w.heap.size + 1) 0 (optV a0) _ hbp0 (by simp [Wcc.len, optV]) (by rfl) (by rfl) (by kernel_rfl) (optV_one _) ?_; rw [← HW0.out]) | fail)
  clear hbp0
  refine (postedF_any g r0 _ hQ1.1).mono ?_
  rintro e v1 ⟨he, hQ⟩
  obtain ⟨x1, hx1⟩ : ∃ x, x = rPost r0 := ⟨_, rfl⟩
  rw [← hx1] at he hQ
  have HX1 := Lib.hid hx1.symm
  clear hx1
  subst he
  obtain ⟨a1, r1⟩ := x1
  simp only at hQ
  have hbr' := Blk.farCells (g := w.heap.size) (b := w.heap.size + 1) (by omega) a1.vals 2 _ (hQ.keeps hbr hne)
  have hbp0 := hQ.keeps hbp hne1
  have hbp' := hbp0.sets a1.vals _ 2
  rw [show setAt _ 2 a1.vals = (Wcc.mk (optOf a0) a1).vals from rfl] at hbp'
  have hq := hQ1.trans hQ
  have hQ' : ReadsF g r1 w (v1.setCells (w.heap.size + 1) 2 a1.vals) := ⟨hq.1.touch (Touch.setCells (F := fun i => i = w.heap.size + 1) (.inl rfl) _ 2 v1 (Touch.refl _ _)) (fun hh => hne1 hh.symm), Touch.setCells (.inr (by omega)) _ 2 v1 hq.2⟩
  obtain ⟨W1, hW1⟩ : ∃ W, W = v1.setCells (w.heap.size + 1) 2 a1.vals := ⟨_, rfl⟩
  rw [← hW1] at hbr' hbp' hQ'
  have HW1 := Lib.hid hW1
  clear hbr hbp hQ1 hQ hq hW1
  have hbr := hbr'
  have hbp := hbp'
  have hQ1 := hQ'
  clear hbr' hbp' hQ'
  go_upto_region 4 with (first | (refine wpList_store_part (by rfl) 45 _ _ (by rfl) (w.heap.size + 1) 2 a1.vals _ hbp0 (by simp [Wcc.len, Post.len]) (by rfl) (by rfl) (by kernel_rfl) (Post.one _) ?_; rw [← HW1.out]) | fail)
  clear hbp0
  have HX := Lib.hid (show rWcc r = (Wcc.mk (optOf a0) a1, r1) by unfold rWcc; rw [HX0.out]; simp only; rw [HX1.out])
  clear HX0 HX1 HW0
  obtain ⟨cv, hcv⟩ : ∃ c, c = Wcc.mk (optOf a0) a1 := ⟨_, rfl⟩
  rw [← hcv] at HX hbp
  clear hcv
  have hEc := ReadsF.err hQ1.1
  have rp : rowOf W1 (w.heap.size + 1) 0 13 = some cv.vals.toArray := hbp.row 0 13 (by simp [Wcc.len])
  by_cases hE : r1.e = 0
  · have hE' : (r1.e != 0) = false := by simpa using hE
    have HE := Lib.hid hE
    clear hE
    go_wp2_with fail
    refine (refWcc5_any cv _).mono ?_
    rintro e w7 ⟨rfl, hb⟩
    have hs := Stb.of hb
    have hlp := hbp.lt
    have hb7 := hbr.stays hb
    have hQ7 := hQ1.new hb
    clear hb hQ1
    cases ho : cv.ok
    · have HN := Lib.hid (show gotR Wcc.ok wccZ (cv, r1) = (wccZ, 14) by simp [gotR, HE.out, ho])
      have HQ := Lib.hid (ReadsF.lay (cs := wccZ.vals) hQ7 hb7 rfl hne (Nat.le_refl _))
      clear ho hQ7
      go_wp2_with (first | (refine wpList_store_whole (by rfl) 47 _ _ (by rfl) w.heap.size wccZ.vals _ hb7 (by rfl) (by rfl) (by rfl) (by kernel_rfl) (Wcc.one _) ?_) | fail)
      refine ret_cells2 w.heap.size 0 wccZ.vals (.int .i64 14) Tryz.results153 Tryz.underlying47 rfl (by kernel_rfl) rfl rfl HQ.out.2.range rfl ?_
      rw [HX.out, HN.out]
      exact ⟨rfl, HQ.out.1⟩
    · have HN := Lib.hid (show gotR Wcc.ok wccZ (cv, r1) = (cv, 0) by simp [gotR, HE.out, ho])
      have HQ := Lib.hid (ReadsF.lay (cs := cv.vals) hQ7 hb7 rfl hne (Nat.le_refl _))
      clear ho hQ7
      go_wp2_with (first | (refine wpList_store_whole (by rfl) 47 _ _ (by rfl) w.heap.size cv.vals _ hb7 (by rfl) (by rfl) (by rfl) (by kernel_rfl) (Wcc.one _) ?_) | fail)
      refine ret_cells2 w.heap.size 0 cv.vals (.int .i64 0) Tryz.results153 Tryz.underlying47 rfl (by kernel_rfl) rfl rfl HQ.out.2.range rfl ?_
      rw [HX.out, HN.out]
      exact ⟨rfl, HQ.out.1⟩
  · have hE' : (r1.e != 0) = true := by simpa using hE
    have HN := Lib.hid (show gotR Wcc.ok wccZ (cv, r1) = (wccZ, r1.e) by simp [gotR, hE])
    have hc := hbr.cell
    have hf := hbr.frozen
    have HQ := Lib.hid (ReadsF.lay (cs := wccZ.vals) hQ1 hbr rfl hne (Nat.le_refl _))
    clear hE hQ1
    go_wp2
    go_region
    change Exit.then _ _ _ _ ((W1.setCells w.heap.size 0 wccZ.vals).drew)
    go_wp2
    refine ret_cells2 w.heap.size 0 wccZ.vals (.int .i64 r1.e) Tryz.results153 Tryz.underlying47 rfl (by kernel_rfl) rfl rfl HQ.out.2.drew.range rfl ?_
    rw [HX.out, HN.out]
    exact ⟨rfl, HQ.out.1.drew⟩

set_option maxRecDepth 20000 in
set_option maxHeartbeats 4800000 in
theorem refGetSett_any (g : Nat) (r : Rs) (w : World) (hR : RdF w g r) :
    Calls Tryz.prog 57 #[.pointer (some ⟨g, 0, none⟩)] w (GaveF g (rSett r).2 (gotV (gotR Sett.ok settZ (rSett r)).1.vals (gotR Sett.ok settZ (rSett r)).2) w) := by
  obtain ⟨hbr, hbp, hB, hsz⟩ := chain2_blks w settZ.vals settZ.vals 34 34
  have hR1 := hR.stays hB
  have hQ1 := ReadsF.behind hB (ReadsF.refl hR1)
  have hne : w.heap.size ≠ g := Nat.ne_of_gt hR.lt
  have hne1 : w.heap.size + 1 ≠ g := by have := hR.lt; omega
  clear hR hR1
  go_enter Tryz.func57, Tryz.ntmps57
  go_wp2_with fail
  change Calls _ _ _ ((w.alloc (.cells settZ.vals.toArray 34)).alloc (.cells settZ.vals.toArray 34)) _
  generalize (w.alloc (.cells settZ.vals.toArray 34)).alloc (.cells settZ.vals.toArray 34) = W0 at *
  refine (refOptR_any g r _ hQ1.1).mono ?_
  rintro e v0 ⟨he, hQ⟩
  obtain ⟨x0, hx0⟩ : ∃ x, x = rOpt r := ⟨_, rfl⟩
  rw [← hx0] at he hQ
  have HX0 := Lib.hid hx0.symm
  clear hx0
  subst he
  obtain ⟨a0, r0⟩ := x0
  simp only at hQ
  have hbr' := Blk.farCells (g := w.heap.size) (b := w.heap.size + 1) (by omega) (optV a0) 0 _ (hQ.keeps hbr hne)
  have hbp0 := hQ.keeps hbp hne1
  have hbp' := hbp0.sets (optV a0) _ 0
  rw [show setAt _ 0 (optV a0) = (setOpt settZ (optOf a0) 0).vals from rfl] at hbp'
  have hq := hQ1.trans hQ
  have hQ' : ReadsF g r0 w (v0.setCells (w.heap.size + 1) 0 (optV a0)) := ⟨hq.1.touch (Touch.setCells (F := fun i => i = w.heap.size + 1) (.inl rfl) _ 0 v0 (Touch.refl _ _)) (fun hh => hne1 hh.symm), Touch.setCells (.inr (by omega)) _ 0 v0 hq.2⟩
  obtain ⟨W0, hW0⟩ : ∃ W, W = v0.setCells (w.heap.size + 1) 0 (optV a0) := ⟨_, rfl⟩
  rw [← hW0] at hbr' hbp' hQ'
  have HW0 := Lib.hid hW0
  clear hbr hbp hQ1 hQ hq hW0
  have hbr := hbr'
  have hbp := hbp'
  have hQ1 := hQ'
  clear hbr' hbp' hQ'
  go_wp2_with (first | (refine wpList_store_part (by rfl) 32 _ _ (by rfl) (w.heap.size + 1) 0 (optV a0) _ hbp0 (by simp [Sett.len, optV]) (by rfl) (by rfl) (by kernel_rfl) (optV_one _) ?_; rw [← HW0.out]) | fail)
  clear hbp0
  refine (refOptR_any g r0 _ hQ1.1).mono ?_
  rintro e v1 ⟨he, hQ⟩
  obtain ⟨x1, hx1⟩ : ∃ x, x = rOpt r0 := ⟨_, rfl⟩
  rw [← hx1] at he hQ
  have HX1 := Lib.hid hx1.symm
  clear hx1
  subst he
  obtain ⟨a1, r1⟩ := x1
  simp only at hQ
  have hbr' := Blk.farCells (g := w.heap.size) (b := w.heap.size + 1) (by omega) (optV a1) 2 _ (hQ.keeps hbr hne)
  have hbp0 := hQ.keeps hbp hne1
  have hbp' := hbp0.sets (optV a1) _ 2
  rw [show setAt _ 2 (optV a1) = (setOpt (setOpt settZ (optOf a0) 0) (optOf a1) 1).vals from rfl] at hbp'
  have hq := hQ1.trans hQ
  have hQ' : ReadsF g r1 w (v1.setCells (w.heap.size + 1) 2 (optV a1)) := ⟨hq.1.touch (Touch.setCells (F := fun i => i = w.heap.size + 1) (.inl rfl) _ 2 v1 (Touch.refl _ _)) (fun hh => hne1 hh.symm), Touch.setCells (.inr (by omega)) _ 2 v1 hq.2⟩
  obtain ⟨W1, hW1⟩ : ∃ W, W = v1.setCells (w.heap.size + 1) 2 (optV a1) := ⟨_, rfl⟩
  rw [← hW1] at hbr' hbp' hQ'
  have HW1 := Lib.hid hW1
  clear hbr hbp hQ1 hQ hq hW1
  have hbr := hbr'
  have hbp := hbp'
  have hQ1 := hQ'
  clear hbr' hbp' hQ'
  go_wp2_with (first | (refine wpList_store_part (by rfl) 32 _ _ (by rfl) (w.heap.size + 1) 2 (optV a1) _ hbp0 (by simp [Sett.len, optV]) (by rfl) (by rfl) (by kernel_rfl) (optV_one _) ?_; rw [← HW1.out]) | fail)
  clear hbp0
  refine (refOptR_any g r1 _ hQ1.1).mono ?_
  rintro e v2 ⟨he, hQ⟩
  obtain ⟨x2, hx2⟩ : ∃ x, x = rOpt r1 := ⟨_, rfl⟩
  rw [← hx2] at he hQ
  have HX2 := Lib.hid hx2.symm
  clear hx2
  subst he
  obtain ⟨a2, r2⟩ := x2
  simp only at hQ
  have hbr' := Blk.farCells (g := w.heap.size) (b := w.heap.size + 1) (by omega) (optV a2) 4 _ (hQ.keeps hbr hne)
  have hbp0 := hQ.keeps hbp hne1
  have hbp' := hbp0.sets (optV a2) _ 4
  rw [show setAt _ 4 (optV a2) = (setOpt (setOpt (setOpt settZ (optOf a0) 0) (optOf a1) 1) (optOf a2) 2).vals from rfl] at hbp'
  have hq := hQ1.trans hQ
  have hQ' : ReadsF g r2 w (v2.setCells (w.heap.size + 1) 4 (optV a2)) := ⟨hq.1.touch (Touch.setCells (F := fun i => i = w.heap.size + 1) (.inl rfl) _ 4 v2 (Touch.refl _ _)) (fun hh => hne1 hh.symm), Touch.setCells (.inr (by omega)) _ 4 v2 hq.2⟩
  obtain ⟨W2, hW2⟩ : ∃ W, W = v2.setCells (w.heap.size + 1) 4 (optV a2) := ⟨_, rfl⟩
  rw [← hW2] at hbr' hbp' hQ'
  have HW2 := Lib.hid hW2
  clear hbr hbp hQ1 hQ hq hW2
  have hbr := hbr'
  have hbp := hbp'
  have hQ1 := hQ'
  clear hbr' hbp' hQ'
  go_wp2_with (first | (refine wpList_store_part (by rfl) 32 _ _ (by rfl) (w.heap.size + 1) 4 (optV a2) _ hbp0 (by simp [Sett.len, optV]) (by rfl) (by rfl) (by kernel_rfl) (optV_one _) ?_; rw [← HW2.out]) | fail)
  clear hbp0
  refine (refOptR_any g r2 _ hQ1.1).mono ?_
  rintro e v3 ⟨he, hQ⟩
  obtain ⟨x3, hx3⟩ : ∃ x, x = rOpt r2 := ⟨_, rfl⟩
  rw [← hx3] at he hQ
  have HX3 := Lib.hid hx3.symm
  clear hx3
  subst he
  obtain ⟨a3, r3⟩ := x3
  simp only at hQ
  have hbr' := Blk.farCells (g := w.heap.size) (b := w.heap.size + 1) (by omega) (optV a3) 6 _ (hQ.keeps hbr hne)
  have hbp0 := hQ.keeps hbp hne1
  have hbp' := hbp0.sets (optV a3) _ 6
  rw [show setAt _ 6 (optV a3) = (setOpt (setOpt (setOpt (setOpt settZ (optOf a0) 0) (optOf a1) 1) (optOf a2) 2) (optOf a3) 3).vals from rfl] at hbp'
  have hq := hQ1.trans hQ
  have hQ' : ReadsF g r3 w (v3.setCells (w.heap.size + 1) 6 (optV a3)) := ⟨hq.1.touch (Touch.setCells (F := fun i => i = w.heap.size + 1) (.inl rfl) _ 6 v3 (Touch.refl _ _)) (fun hh => hne1 hh.symm), Touch.setCells (.inr (by omega)) _ 6 v3 hq.2⟩
  obtain ⟨W3, hW3⟩ : ∃ W, W = v3.setCells (w.heap.size + 1) 6 (optV a3) := ⟨_, rfl⟩
  rw [← hW3] at hbr' hbp' hQ'
  have HW3 := Lib.hid hW3
  clear hbr hbp hQ1 hQ hq hW3
  have hbr := hbr'
  have hbp := hbp'
  have hQ1 := hQ'
  clear hbr' hbp' hQ'
  go_wp2_with (first | (refine wpList_store_part (by rfl) 32 _ _ (by rfl) (w.heap.size + 1) 6 (optV a3) _ hbp0 (by simp [Sett.len, optV]) (by rfl) (by rfl) (by kernel_rfl) (optV_one _) ?_; rw [← HW3.out]) | fail)
  clear hbp0
  refine (refOptR_any g r3 _ hQ1.1).mono ?_
  rintro e v4 ⟨he, hQ⟩
  obtain ⟨x4, hx4⟩ : ∃ x, x = rOpt r3 := ⟨_, rfl⟩
  rw [← hx4] at he hQ
  have HX4 := Lib.hid hx4.symm
  clear hx4
  subst he
  obtain ⟨a4, r4⟩ := x4
  simp only at hQ
  have hbr' := Blk.farCells (g := w.heap.size) (b := w.heap.size + 1) (by omega) (optV a4) 8 _ (hQ.keeps hbr hne)
  have hbp0 := hQ.keeps hbp hne1
  have hbp' := hbp0.sets (optV a4) _ 8
  rw [show setAt _ 8 (optV a4) = (setOpt (setOpt (setOpt (setOpt (setOpt settZ (optOf a0) 0) (optOf a1) 1) (optOf a2) 2) (optOf a3) 3) (optOf a4) 4).vals from rfl] at hbp'
  have hq := hQ1.trans hQ
  have hQ' : ReadsF g r4 w (v4.setCells (w.heap.size + 1) 8 (optV a4)) := ⟨hq.1.touch (Touch.setCells (F := fun i => i = w.heap.size + 1) (.inl rfl) _ 8 v4 (Touch.refl _ _)) (fun hh => hne1 hh.symm), Touch.setCells (.inr (by omega)) _ 8 v4 hq.2⟩
  obtain ⟨W4, hW4⟩ : ∃ W, W = v4.setCells (w.heap.size + 1) 8 (optV a4) := ⟨_, rfl⟩
  rw [← hW4] at hbr' hbp' hQ'
  have HW4 := Lib.hid hW4
  clear hbr hbp hQ1 hQ hq hW4
  have hbr := hbr'
  have hbp := hbp'
  have hQ1 := hQ'
  clear hbr' hbp' hQ'
  go_upto_region 7 with (first | (refine wpList_store_part (by rfl) 32 _ _ (by rfl) (w.heap.size + 1) 8 (optV a4) _ hbp0 (by simp [Sett.len, optV]) (by rfl) (by rfl) (by kernel_rfl) (optV_one _) ?_; rw [← HW4.out]) | fail)
  clear hbp0
  have HX := Lib.hid (show rSett r = ((setOpt (setOpt (setOpt (setOpt (setOpt settZ (optOf a0) 0) (optOf a1) 1) (optOf a2) 2) (optOf a3) 3) (optOf a4) 4), r4) by simp only [rSett, settK, HX0.out, HX1.out, HX2.out, HX3.out, HX4.out])
  clear HX0 HX1 HX2 HX3 HX4 HW0 HW1 HW2 HW3
  obtain ⟨cv, hcv⟩ : ∃ c, c = (setOpt (setOpt (setOpt (setOpt (setOpt settZ (optOf a0) 0) (optOf a1) 1) (optOf a2) 2) (optOf a3) 3) (optOf a4) 4) := ⟨_, rfl⟩
  rw [← hcv] at HX hbp
  clear hcv
  have hEc := ReadsF.err hQ1.1
  have rp : rowOf W4 (w.heap.size + 1) 0 10 = some cv.vals.toArray := hbp.row 0 10 (by simp [Sett.len])
  by_cases hE : r4.e = 0
  · have hE' : (r4.e != 0) = false := by simpa using hE
    have HE := Lib.hid hE
    clear hE
    go_wp2_with fail
    refine (refSet_any cv _).mono ?_
    rintro e w7 ⟨rfl, hb⟩
    have hs := Stb.of hb
    have hlp := hbp.lt
    have hb7 := hbr.stays hb
    have hQ7 := hQ1.new hb
    clear hb hQ1
    cases ho : cv.ok
    · have HN := Lib.hid (show gotR Sett.ok settZ (cv, r4) = (settZ, 14) by simp [gotR, HE.out, ho])
      have HQ := Lib.hid (ReadsF.lay (cs := settZ.vals) hQ7 hb7 rfl hne (Nat.le_refl _))
      clear ho hQ7
      go_wp2_with (first | (refine wpList_store_whole (by rfl) 34 _ _ (by rfl) w.heap.size settZ.vals _ hb7 (by rfl) (by rfl) (by rfl) (by kernel_rfl) (Sett.one _) ?_) | fail)
      refine ret_cells2 w.heap.size 0 settZ.vals (.int .i64 14) Tryz.results57 Tryz.underlying34 rfl (by kernel_rfl) rfl rfl HQ.out.2.range rfl ?_
      rw [HX.out, HN.out]
      exact ⟨rfl, HQ.out.1⟩
    · have HN := Lib.hid (show gotR Sett.ok settZ (cv, r4) = (cv, 0) by simp [gotR, HE.out, ho])
      have HQ := Lib.hid (ReadsF.lay (cs := cv.vals) hQ7 hb7 rfl hne (Nat.le_refl _))
      clear ho hQ7
      go_wp2_with (first | (refine wpList_store_whole (by rfl) 34 _ _ (by rfl) w.heap.size cv.vals _ hb7 (by rfl) (by rfl) (by rfl) (by kernel_rfl) (Sett.one _) ?_) | fail)
      refine ret_cells2 w.heap.size 0 cv.vals (.int .i64 0) Tryz.results57 Tryz.underlying34 rfl (by kernel_rfl) rfl rfl HQ.out.2.range rfl ?_
      rw [HX.out, HN.out]
      exact ⟨rfl, HQ.out.1⟩
  · have hE' : (r4.e != 0) = true := by simpa using hE
    have HN := Lib.hid (show gotR Sett.ok settZ (cv, r4) = (settZ, r4.e) by simp [gotR, hE])
    have hc := hbr.cell
    have hf := hbr.frozen
    have HQ := Lib.hid (ReadsF.lay (cs := settZ.vals) hQ1 hbr rfl hne (Nat.le_refl _))
    clear hE hQ1
    go_wp2
    go_region
    change Exit.then _ _ _ _ ((W4.setCells w.heap.size 0 settZ.vals).drew)
    go_wp2
    refine ret_cells2 w.heap.size 0 settZ.vals (.int .i64 r4.e) Tryz.results57 Tryz.underlying34 rfl (by kernel_rfl) rfl rfl HQ.out.2.drew.range rfl ?_
    rw [HX.out, HN.out]
    exact ⟨rfl, HQ.out.1.drew⟩

end Go.Proofs.YtfjflkmhhbhceaaGreatDoor

/-
  Layer 22: the law LookChecks, walked. Condition: the library's table and errors are laid; slices are no longer than their room.
-/
import Derived.Test.YtgifmpobokaejaaGreatDoorM42
import Derived.Test.YtgifmpobokaejaaGreatDoorM44
import Derived.Test.YtgifmpobokaejaaGreatDoorM46
import Derived.Test.YtgifmpobokaejaaGreatDoorM45
import Derived.StillTailTactics
namespace Go.Proofs.YtgifmpobokaejaaGreatDoor
open Go.RowKit
open Go.RowKit
attribute [local go_sem ↓] Go.wp_at_zero Go.wp_at_succ
attribute [local go_sem] rowAt_ptr rowOf_drew rowOf_drewN rowOf_alloc_past rowOf_new
attribute [local go_sem ↓] ldNode22 ldTree22 ldAttrR ldLim22

theorem stText22B {ρ : Operand → Value} {w : World} {dst : Option Tmp} {ty : TypeId} {pos : String} {after : Array Edge} {g : Option (Nat × Bool)} {x y : Operand} (hx : ptrAt (ρ x) = true) (hy : oneV22 (ρ y) = true) (ht : w.there (blkAt (ρ x)) (offAt (ρ x)) 1) :
    (execOp ρ ⟨dst, .store 9 x y, ty, pos, after, g⟩).run Tryz.prog w = .ok .skip (putsW w (blkAt (ρ x)) (offAt (ρ x)) [ρ y]) := stSlice22 (by kernel_rfl) hx hy ht
attribute [local go_sem ↓] stText22B

attribute [local go_sem] ptrAt blkAt offAt oneV22

theorem Copy.treeW {w w0 : World} {F : Nat → Prop} {ms : List Nd} {ps : List (Nd × List Entry)} {t u : Tr} (h : Copy w F ms ps) (hT : TreeH w0 t ps) (s : ByteArray) (h0 : 0 < ms.length) (hu : u.ns = ms.set 0 { ms[0] with data := s }) (hA : At w 15 u.na (u.ns.map Nd.vals)) :
    TreeW w u (withE (ms.set 0 { ms[0] with data := s }) ps) := by
  have hsl : (ms.set 0 { ms[0] with data := s }).length = ps.length := by rw [List.length_set]; exact h.len
  have hl := withE_len hsl
  have hmem : ∀ q ∈ withE (ms.set 0 { ms[0] with data := s }) ps, ∃ (j : Nat) (h1 : j < ms.length) (h2 : j < ps.length), q.1.ea = ms[j].ea ∧ q.1.en = ms[j].en ∧ q.2 = ps[j].2 := fun q hq => by
    obtain ⟨j, hj, rfl⟩ := List.getElem_of_mem hq
    have h2 : j < ps.length := by rw [hl] at hj; exact hj
    have h1 : j < ms.length := by rw [h.len]; exact h2
    refine ⟨j, h1, h2, ?_⟩
    rw [withE_at hj (by rw [List.length_set]; exact h1) h2, List.getElem_set]
    split
    · rename_i e
      subst e
      exact ⟨rfl, rfl, rfl⟩
    · exact ⟨rfl, rfl, rfl⟩
  refine ⟨by rw [hu, withE_fst hsl], hA, fun q hq => ?_, by rw [hu, List.length_set, h.len]; have := hT.few.1; rw [hT.ns, List.length_map] at this; exact this, fun q hq => ?_⟩
  · obtain ⟨j, h1, h2, e1, e2, e3⟩ := hmem q hq
    rw [e1, e2, e3]
    exact ⟨(h.head j h1 h2).2.2.2.2.2.trans (hT.ents _ (List.getElem_mem h2)).1, (h.ents j h1 h2).1⟩
  · obtain ⟨j, h1, h2, e1, e2, e3⟩ := hmem q hq
    rw [e3]
    exact (hT.rows ps[j] (List.getElem_mem h2)).1
theorem Copy.other {w : World} {F : Nat → Prop} {ms : List Nd} {ps : List (Nd × List Entry)} {t u : Tr} (h : Copy w F ms ps) (s : ByteArray) (h0 : 0 < ms.length) (hs : s.size ≠ ms[0].data.size) : ¬ SameT u (withE (ms.set 0 { ms[0] with data := s }) ps) t ps := by
  intro hS
  have hp : 0 < ps.length := by rw [← h.len]; exact h0
  have hsl : (ms.set 0 { ms[0] with data := s }).length = ps.length := by rw [List.length_set]; exact h.len
  have h1 := hS.2.2.2.2 0 (by rw [withE_len hsl]; exact hp) hp
  rw [withE_at (by rw [withE_len hsl]; exact hp) (by rw [List.length_set]; exact h0) hp, List.getElem_set_self] at h1
  have h2 : dataL ({ ms[0] with data := s } : Nd) = dataL ps[0].1 := h1.2.1
  have h3 := congrArg List.length h2
  rw [dataL_len, dataL_len, ← (h.head 0 h0 hp).2.1] at h3
  exact hs h3
theorem bool_iff {P : Prop} {b : Bool} (h : b = true ↔ P) : ∃ c : Bool, (c = true ↔ P) ∧ b = c := ⟨b, h, rfl⟩
theorem bool_same {P : Prop} {b c : Bool} (h1 : b = true ↔ P) (h2 : c = true ↔ P) : b = c := by
  cases b <;> cases c <;> simp_all
set_option maxRecDepth 20000 in
set_option maxHeartbeats 6400000 in
theorem lookChecksLaw_any (t u : Tr) (ps qs : List (Nd × List Entry)) (w : World) (hT : OpenT w t ps) (hU : OpenT w u qs) (hnc : t.ns.length ≤ t.nc) (hec : ∀ p ∈ ps, p.2.length ≤ p.1.ec) (hL : LookLaid w) :
    Calls Tryz.prog 6 #[t.val, u.val] w fun e w' => e = .returned (.bool true) ∧ Below w.heap.size w w' := by
  obtain ⟨bT, bU, hB, hs⟩ := chain2_blks w t.vals u.vals 26 26
  obtain ⟨w1, hw1⟩ : ∃ V, V = (w.alloc (.cells t.vals.toArray 26)).alloc (.cells u.vals.toArray 26) := ⟨_, rfl⟩
  rw [← hw1] at bT bU hB hs
  have rT : rowOf w1 w.heap.size 0 6 = some t.vals.toArray := bT.row 0 6 (by rw [Tr.len]; omega)
  have rU : rowOf w1 (w.heap.size + 1) 0 6 = some u.vals.toArray := bU.row 0 6 (by rw [Tr.len]; omega)
  have hlT := bT.lt
  have hlU := bU.lt
  have HW1 := Lib.hid hw1
  have HT := Lib.hid (hT.below hB)
  have HU := Lib.hid (hU.below hB)
  have HL := Lib.hid (hL.below hB)
  have HB := Lib.hid hB
  have HCap := Lib.hid (And.intro hnc hec)
  have HbT := Lib.hid bT
  have KLT := Lib.hid (refLarge22_any t ps w1 HT.out.ns HT.out.len HT.out.at_ HT.out.ents HT.out.good)
  have KLU := Lib.hid (fun W (h : Below w1.heap.size w1 W) => refLarge22_any u qs W HU.out.ns HU.out.len (HU.out.at_.below h) (HU.out.ents.below h) HU.out.good)
  have KN := Lib.hid (fun W (h : Below w1.heap.size w1 W) => known22_any W (HL.out.below h))
  clear hw1 bT bU hs hT hU hL hB hnc hec
  unfold Tr.val at KLT KLU ⊢
  go_enter Tryz.func6, Tryz.ntmps6
  go_upto_region 1 with fail
  change Code.wp _ _ _ _ ((w.alloc (.cells t.vals.toArray 26)).alloc (.cells u.vals.toArray 26))
  rw [← HW1.out]
  go_wp2_with fail
  refine KLT.out.mono ?_
  rintro e w2 ⟨b, rfl, hfew, hb⟩
  have H2 := Lib.hid hb
  replace rT := (rowOf_below hb hlT 0 6).trans rT
  replace rU := (rowOf_below hb hlU 0 6).trans rU
  have hlT2 := Nat.lt_of_lt_of_le hlT hb.size
  have hlU2 := Nat.lt_of_lt_of_le hlU hb.size
  clear hb KLT HW1
  cases b
  case true =>
    go_wp2_with fail
    refine (KN.out _ H2.out).mono ?_
    rintro e w3 ⟨rfl, hb⟩
    have HF := Lib.hid (below_then (below_then HB.out H2.out) hb)
    clear hb
    go_wp2
    go_ret
    exact ⟨rfl, HF.out⟩
  have HFT := Lib.hid (hfew rfl)
  clear hfew
  go_wp2_with fail
  refine (KLU.out _ H2.out).mono ?_
  rintro e w3 ⟨b, rfl, hfew, hb⟩
  have H3 := Lib.hid (below_then H2.out hb)
  replace rT := (rowOf_below hb hlT2 0 6).trans rT
  replace rU := (rowOf_below hb hlU2 0 6).trans rU
  have hlT3 := Nat.lt_of_lt_of_le hlT2 hb.size
  have hlU3 := Nat.lt_of_lt_of_le hlU2 hb.size
  clear hb KLU
  cases b
  case true =>
    go_wp2_with fail
    refine (KN.out _ H3.out).mono ?_
    rintro e w4 ⟨rfl, hb⟩
    have HF := Lib.hid (below_then (below_then HB.out H3.out) hb)
    clear hb
    go_wp2
    go_ret
    exact ⟨rfl, HF.out⟩
  have HTH := Lib.hid (HT.out.tree HFT.out)
  have HUH := Lib.hid (HU.out.tree (hfew rfl))
  have HGD := Lib.hid HT.out.good
  clear hfew HT HU HFT
  have KC := Lib.hid (lookClone_any t ps w3 (HTH.out.below H3.out))
  unfold Tr.val at KC
  go_wp2_with fail
  refine KC.out.mono ?_
  rintro e w4 ⟨c, g, rfl, hcl, hcn, hcg, hC, hcA, hcR, hb⟩
  replace rT := (rowOf_below hb hlT3 0 6).trans rT
  replace rU := (rowOf_below hb hlU3 0 6).trans rU
  have hlT4 := Nat.lt_of_lt_of_le hlT3 hb.size
  have hlU4 := Nat.lt_of_lt_of_le hlU3 hb.size
  have hb5 : Below w4.heap.size w4 (w4.alloc (.cells c.vals.toArray 26)) := (Below.refl _ _).alloc (Nat.le_refl _) _
  have bC := Blk.new w4 26 c.vals
  go_upto_region 4 with (first | (refine wpList_new_struct (by rfl) (by rfl) 26 (by rfl) _ _ (by rfl) c.vals infoTree22 (by rfl) (by rfl) (Tr.one22 _) (by rfl) (by rfl) ?_) | fail)
  obtain ⟨w5, hw5⟩ : ∃ V, V = w4.alloc (.cells c.vals.toArray 26) := ⟨_, rfl⟩
  rw [← hw5] at bC hb5 ⊢
  replace rT := (rowOf_below hb5 hlT4 0 6).trans rT
  replace rU := (rowOf_below hb5 hlU4 0 6).trans rU
  have rC : rowOf w5 w4.heap.size 0 6 = some c.vals.toArray := bC.row 0 6 (by rw [Tr.len]; omega)
  have c5 : w5.cell? ⟨w4.heap.size, 5, none⟩ = some (.slice c.na c.ns.length c.nc) := bC.cell 5
  have hlT5 := Nat.lt_of_lt_of_le hlT4 hb5.size
  have hlU5 := Nat.lt_of_lt_of_le hlU4 hb5.size
  have hlC5 := bC.lt
  have H4 := Lib.hid (below_then H3.out hb)
  have H5 := Lib.hid (below_then H4.out hb5)
  have HC5 := Lib.hid (hC.below hb5)
  have HR5 := Lib.hid (hcR.stays hb5)
  have HTH5 := Lib.hid (HTH.out.below H5.out)
  have HUH5 := Lib.hid (HUH.out.below H5.out)
  have HCH5 := Lib.hid (HC5.out.tree HTH5.out rfl HR5.out.rows)
  have HCS := Lib.hid (HC5.out.same (t := t) (u := c) hcl hcn hcg)
  have HCA := Lib.hid hcA
  have HbC := Lib.hid bC
  have hg3 := fun p (h : c.na = some p) => (hcR.lt p.block (by rw [h]; rfl))
  have HG3 := Lib.hid hg3
  clear hw5 hb hb5 hC hcR hcl hcn hcg hcA bC KC hg3
  -- what the checks and comparisons tell
  have KG : ∃ (v : Int) (b : Bool), ((v = 0 ∧ b = true) ∨ (v = 14 ∧ b = false)) ∧ (∀ W, Below w5.heap.size w5 W → Calls Tryz.prog 23 #[.agg t.vals.toArray] W fun e w' => e = .returned (.int .i64 v) ∧ Below W.heap.size W w') ∧
      (∀ W, Below w5.heap.size w5 W → Calls Tryz.prog 9 #[.agg t.vals.toArray] W fun e w' => e = .returned (.bool b) ∧ Below W.heap.size W w') := by
    by_cases hP : TreeOk (comesG t.ns) t ps
    · refine ⟨0, true, .inl ⟨rfl, rfl⟩, fun W h => ?_, fun W h => ?_⟩
      · refine (lookCheck_iff t ps W (HTH5.out.below h) HGD.out HCap.out.1 HCap.out.2).mono ?_
        rintro e w' ⟨v, rfl, -, hv, hbel⟩
        exact ⟨by rw [hv.2 hP], hbel⟩
      · refine (refCheck22_iff t ps W (HTH5.out.below h)).mono ?_
        rintro e w' ⟨b, rfl, hb, hbel⟩
        exact ⟨by rw [hb.2 ((TreeOk.iff HTH5.out.ns).1 hP)], hbel⟩
    · refine ⟨14, false, .inr ⟨rfl, rfl⟩, fun W h => ?_, fun W h => ?_⟩
      · refine (lookCheck_iff t ps W (HTH5.out.below h) HGD.out HCap.out.1 HCap.out.2).mono ?_
        rintro e w' ⟨v, rfl, hv0, hv, hbel⟩
        rcases hv0 with hv0 | hv0
        · exact absurd (hv.1 hv0) hP
        · exact ⟨by rw [hv0], hbel⟩
      · refine (refCheck22_iff t ps W (HTH5.out.below h)).mono ?_
        rintro e w' ⟨b, rfl, hb, hbel⟩
        cases b
        · exact ⟨rfl, hbel⟩
        · exact absurd ((TreeOk.iff HTH5.out.ns).2 (hb.1 rfl)) hP
  have KS : ∃ b : Bool, (∀ W, Below w5.heap.size w5 W → Calls Tryz.prog 25 #[.agg t.vals.toArray, .agg u.vals.toArray] W fun e w' => e = .returned (.bool b) ∧ Below W.heap.size W w') ∧
      (∀ W, Below w5.heap.size w5 W → Calls Tryz.prog 21 #[.agg t.vals.toArray, .agg u.vals.toArray] W fun e w' => e = .returned (.bool b) ∧ Below W.heap.size W w') := by
    by_cases hP : SameT t ps u qs
    · refine ⟨true, fun W h => ?_, fun W h => ?_⟩
      · refine (lookSame_iff t u ps qs W (HTH5.out.below h).weak (HUH5.out.below h).weak).mono ?_
        rintro e w' ⟨b, rfl, hb, hbel⟩
        exact ⟨by rw [hb.2 hP], hbel⟩
      · refine (refSame22_iff t u ps qs W (HTH5.out.below h) (HUH5.out.below h)).mono ?_
        rintro e w' ⟨b, rfl, hb, hbel⟩
        exact ⟨by rw [hb.2 hP], hbel⟩
    · refine ⟨false, fun W h => ?_, fun W h => ?_⟩
      · refine (lookSame_iff t u ps qs W (HTH5.out.below h).weak (HUH5.out.below h).weak).mono ?_
        rintro e w' ⟨b, rfl, hb, hbel⟩
        cases b
        · exact ⟨rfl, hbel⟩
        · exact absurd (hb.1 rfl) hP
      · refine (refSame22_iff t u ps qs W (HTH5.out.below h) (HUH5.out.below h)).mono ?_
        rintro e w' ⟨b, rfl, hb, hbel⟩
        cases b
        · exact ⟨rfl, hbel⟩
        · exact absurd (hb.1 rfl) hP
  have KX := Lib.hid (fun W (h : Below w5.heap.size w5 W) => (show Calls Tryz.prog 21 #[.agg c.vals.toArray, .agg t.vals.toArray] W fun e w' => e = .returned (.bool true) ∧ Below W.heap.size W w' by
    refine (refSame22_iff c t _ ps W (HCH5.out.below h) (HTH5.out.below h)).mono ?_
    rintro e w' ⟨b, rfl, hb, hbel⟩
    exact ⟨by rw [hb.2 HCS.out], hbel⟩))
  obtain ⟨vG, bD, hvb, kG, kD⟩ := KG
  obtain ⟨bS, kS, kR⟩ := KS
  have KG := Lib.hid kG
  have KD := Lib.hid kD
  have KS := Lib.hid kS
  have KR := Lib.hid kR
  clear kG kD kS kR
  -- the region that draws, cut behind
  go_frame
  go_cut [35] from 15 (fun v wx => v = .bool false ∧ Stb w5 wx)
  case first =>
    rcases hvb with ⟨rfl, rfl⟩ | ⟨rfl, rfl⟩ <;> cases bS
    all_goals
      go_region_held3 (fun W => Stb w5 W) (first | exact Stb.start | assumption | (exact Stb.alloc (by assumption) _) | (exact Stb.call (by assumption) (by assumption))) (first
        | (go_at_call 23; refine (KG.out _ (Stb.below (by assumption))).mono ?_; rintro e wg ⟨rfl, hbg⟩)
        | (go_at_call 9; refine (KD.out _ (Stb.below (by assumption))).mono ?_; rintro e wd ⟨rfl, hbd⟩)
        | (go_at_call 25; refine (KS.out _ (Stb.below (by assumption))).mono ?_; rintro e ws ⟨rfl, hbs⟩)
        | (go_at_call_of 21 (u.vals.toArray); refine (KR.out _ (Stb.below (by assumption))).mono ?_; rintro e wr ⟨rfl, hbr⟩)
        | (go_at_call_of 21 (c.vals.toArray); refine (KX.out _ (Stb.below (by assumption))).mono ?_; rintro e wx ⟨rfl, hbx⟩))
      all_goals
        have hst := (by assumption : Stb w5 _)
        go_wp2
        go_meet
        case rel => exact ⟨rfl, hst⟩
  obtain ⟨rfl, hst⟩ := hcut
  have hb := hst.below
  replace rT := (rowOf_below hb hlT5 0 6).trans rT
  replace rC := (rowOf_below hb hlC5 0 6).trans rC
  replace c5 := (hb.cell (p := ⟨w4.heap.size, 5, none⟩) hlC5).trans c5
  have H6 := Lib.hid (H5.out.trans (hb.mono H5.out.size))
  have HC6 := Lib.hid (HC5.out.below hb)
  have HR6 := Lib.hid (HR5.out.stays hb)
  have HTH6 := Lib.hid (HTH5.out.below hb)
  have HBC6 := Lib.hid (HbC.out.stays hb)
  have hlT6 := Nat.lt_of_lt_of_le hlT5 hb.size
  have hlC6 := Nat.lt_of_lt_of_le hlC5 hb.size
  clear hst hb rU KG KD KS KR KX HC5 HR5 HTH5 HUH5 HCH5 HbC
  by_cases h0 : 0 < c.ns.length
  case neg =>
    have h0i : ¬ (0 : Int) < (c.ns.length : Int) := by omega
    go_wp2_with fail
    refine (KN.out _ H6.out).mono ?_
    rintro e w9 ⟨rfl, hb⟩
    have HF := Lib.hid (below_then HB.out (below_then H6.out hb))
    clear hb
    go_wp2
    go_ret
    exact ⟨rfl, HF.out⟩
  have h0i : (0 : Int) < (c.ns.length : Int) := by omega
  have hcells := rowCell8 Nd.len (by decide) HR6.out.rows h0
  obtain ⟨b1, o1, hna, hb1, -, cc⟩ := hcells
  have e1 := HCA.out _ hna
  injection e1 with e2 e3 _
  subst e2 e3
  have c10 : wc.cell? ⟨b1, 10, none⟩ = some (.string (bs (dataL c.ns[0]))) := by
    rw [← dataL_is]
    have := cc 10 _ rfl
    simp only [Nat.zero_mul, Nat.zero_add] at this
    exact this
  have hth : wc.there b1 10 1 := by
    have h := HR6.out
    rw [hna] at h
    exact h.thereAt (by rw [List.length_map]) 10 1 (by omega)
  rw [hna] at c5
  have hdl : (dataL c.ns[0]).length ≤ 2000 := by
    obtain ⟨e1, e2, -⟩ := HC6.out.head 0 h0 (by have := HC6.out.len; omega)
    rw [dataL_len, e2]
    refine HTH6.out.few.2 _ ?_
    rw [HTH6.out.ns]
    exact List.mem_map_of_mem (List.getElem_mem _)
  have hsz := bs_size (dataL c.ns[0])
  have hcl : ¬ 9223372036854775807 < (dataL c.ns[0]).length + 1 := by omega
  have HDL := Lib.hid (show bs (dataL c.ns[0]) = c.ns[0].data from (dataL_is _).symm)
  generalize dataL c.ns[0] = dl at *
  go_upto_region 7 with fail
  go_still_tail 10, (by kernel_rfl)
  change wpList _ _ _ _ _ wc.drew
  have hth1 : wc.drew.there b1 10 1 := hth
  go_upto_region 8 with fail
  obtain ⟨V, hV⟩ : ∃ V, V = putsW wc.drew b1 10 [Value.string (bs dl ++ { data := #[120] })] := ⟨_, rfl⟩
  rw [← hV]
  rw [putsW_eq] at hV
  obtain ⟨hbl1, hbl2⟩ : w3.heap.size ≤ b1 ∧ b1 < w4.heap.size := HG3.out _ hna
  have hw13 := H3.out.size
  have hw1w : w.heap.size < w1.heap.size := HbT.out.lt
  have H7 := Lib.hid (show Below w1.heap.size w1 V by rw [hV]; exact Below.setCells (by omega) _ _ _ (bdN H6.out 1))
  have rT7 : rowOf V w.heap.size 0 6 = some t.vals.toArray := (HbT.out.stays H7.out).row 0 6 (by rw [Tr.len]; omega)
  have bC7 : Blk V w4.heap.size 26 c.vals := by rw [hV]; exact Blk.farCells (b := b1) (by omega) _ _ _ (Blk.drew HBC6.out)
  have rC7 : rowOf V w4.heap.size 0 6 = some c.vals.toArray := bC7.row 0 6 (by rw [Tr.len]; omega)
  obtain ⟨s, hs⟩ : ∃ s : ByteArray, s = bs dl ++ { data := #[120] } := ⟨_, rfl⟩
  have hsx : s.size ≠ c.ns[0].data.size := by
    rw [hs, ← HDL.out]
    intro h
    rw [ByteArray.size_append] at h
    have h1 : (⟨#[120]⟩ : ByteArray).size = 1 := rfl
    omega
  obtain ⟨u', hu'⟩ : ∃ u' : Tr, u' = { c with ns := c.ns.set 0 { c.ns[0] with data := s } } := ⟨_, rfl⟩
  have hu'v : u'.vals = c.vals := by rw [hu']; unfold Tr.vals; simp only [List.length_set]
  have hA7 : At V 15 u'.na (u'.ns.map Nd.vals) := by
    have h := (HR6.out.stays ((Below.refl wc.heap.size wc).drew))
    rw [hna, split_at h0] at h
    have h2 := h.putData (by rw [← split_at h0]) s (o := 10) (by rw [List.length_take]; omega)
    rw [hs, ← hV] at h2
    have e : u'.ns = c.ns.take 0 ++ { c.ns[0] with data := s } :: c.ns.drop (0 + 1) := by
      rw [hu']
      exact set_at h0 _
    have e2 : u'.na = some ⟨b1, 0, none⟩ := by rw [hu']; exact hna
    rw [e, e2, hs]
    exact h2.rows
  have hTW := (Copy.sets (g := b1) (o := 10) (cs := [Value.string (bs dl ++ { data := #[120] })]) (HC6.out.below ((Below.refl wc.heap.size wc).drew)) rfl).treeW HTH6.out s h0 (show u'.ns = c.ns.set 0 { c.ns[0] with data := s } by rw [hu']) (by rw [← hV]; exact hA7)
  rw [← hV] at hTW
  have hNo := HC6.out.other (t := t) (u := u') s h0 hsx
  have KL := Lib.hid (show Calls Tryz.prog 25 #[.agg c.vals.toArray, .agg t.vals.toArray] V fun e w' => e = .returned (.bool false) ∧ Below V.heap.size V w' by
    rw [← hu'v]
    refine (lookSame_iff u' t _ ps V hTW (HTH.out.below H7.out).weak).mono ?_
    rintro e w' ⟨b, rfl, hb, hbel⟩
    cases b
    · exact ⟨rfl, hbel⟩
    · exact absurd (hb.1 rfl) hNo)
  clear hTW hNo hA7 hu'v hu' hsx hs hV bC7 hcl hsz hdl hth hth1 c10 cc hb1 hna c5 rT rC
  go_wp2_with fail
  refine KL.out.mono ?_
  rintro e w8 ⟨rfl, hb8⟩
  have H8 := Lib.hid (below_then H7.out hb8)
  clear hb8 rT7 rC7
  go_wp2_with fail
  refine (KN.out _ H8.out).mono ?_
  rintro e w9 ⟨rfl, hb⟩
  have HF := Lib.hid (below_then HB.out (below_then H8.out hb))
  clear hb
  go_wp2
  go_ret
  exact ⟨rfl, HF.out⟩
end Go.Proofs.YtgifmpobokaejaaGreatDoor

/-
  Layer 17, walks: the document's Get (written by wip/tools/genrecget.py). Condition: the text is no longer than 10^18.
-/
import Derived.Test.YthfhdighniiodaaDoorR25
import Derived.Test.YthfhdighniiodaaDoorR27
import Derived.Test.YthfhdighniiodaaDoorR11
import Derived.Test.YthfhdighniiodaaDoorR21
namespace Go.Proofs.YthfhdighniiodaaDoor
open Go.RowKit
attribute [local go_sem ↓] Go.wp_at_zero Go.wp_at_succ
attribute [local go_sem] rowAt_ptr rowOf_drew rowOf_drewN rowOf_alloc_past rowOf_new
attribute [local go_sem ↓] ldAttrR ldChange

attribute [local go_sem] Change.at0 Change.lat0 Change.at1 Change.lat1 Change.at2 Change.lat2 Change.at3 Change.lat3 Change.at4 Change.lat4 Change.at5 Change.lat5 Change.at6 Change.lat6 Change.at7 Change.lat7 Change.at8 Change.lat8 Change.at9 Change.lat9 Change.at10 Change.lat10 Change.at11 Change.lat11 Change.at12 Change.lat12 Change.at13 Change.lat13 Change.at14 Change.lat14 Change.at15 Change.lat15 Change.at16 Change.lat16 Change.at17 Change.lat17 Change.sub0_18 Change.lsub0_18 Change.sub6_10 Change.lsub6_10 Change.len Attr.at0 Attr.lat0 Attr.at1 Attr.lat1 Attr.at2 Attr.lat2 Attr.at3 Attr.lat3 Attr.at4 Attr.lat4 Attr.at5 Attr.lat5 Attr.at6 Attr.lat6 Attr.at7 Attr.lat7 Attr.at8 Attr.lat8 Attr.at9 Attr.lat9 Attr.sub0_10 Attr.lsub0_10 Attr.len

theorem RdF.new17 (w : World) (s : List UInt8) (h : s.length ≤ 1000000000000000000) : RdF (w.alloc (.cells #[.string (bs s), .int .i64 0, .int .i64 0] 105)) w.heap.size ⟨s, 0⟩ :=
  ⟨s, 0, Blk.new _ _ _, Nat.zero_le _, h, fun _ => rfl, fun h => absurd rfl h⟩
theorem RdF.below17 {w w' : World} {g B : Nat} {r : Rs} (h : RdF w g r) (hb : Below B w w') (hg : g < B) : RdF w' g r := by
  obtain ⟨S, a, h, k⟩ := h
  exact ⟨S, a, h.below hb hg, k⟩
theorem RdF.len17 {w : World} {g : Nat} {r : Rs} (h : RdF w g r) : r.s.length ≤ 9223372036854775807 := by
  obtain ⟨S, a, h, h1, h2, h3, h4⟩ := h
  by_cases he : r.e = 0
  · rw [h3 he, List.length_drop]; omega
  · rw [h4 he]; simp
theorem rowL_touch17 {w w' : World} {B sz g : Nat} {e : TypeId} {v : Value} {xs : List Change} (h : RowL Change.vals w B e sz v xs) (ht : Touch (fun k => k = g) w w') (hn : ∀ k, v.ownBlock = some k → k ≠ g) : RowL Change.vals w' B e sz v xs :=
  RowS.touch h ht hn

set_option maxRecDepth 20000 in
set_option maxHeartbeats 600000 in
theorem refGet17_any (s : List UInt8) (w : World) (hl : s.length ≤ 1000000000000000000) :
    Calls Tryd.prog 26 #[.string (bs s)] w fun e w' => ∃ v, e = .returned (.tuple #[v, .bool (dGetR s).2]) ∧ ((dGetR s).2 = true → RowL Change.vals w' w.heap.size 44 18 v (dGetR s).1) ∧ Below w.heap.size w w' := by
  obtain ⟨i0, hi, hz0, hsize, hby⟩ := info_parts infoChange17
  have hs1 : (w.alloc (.cells #[.string (bs s), .int .i64 0, .int .i64 0] 105)).heap.size = w.heap.size + 1 := by simp
  have hR1 := RdF.new17 w s hl
  have hB1 : Below w.heap.size w (w.alloc (.cells #[.string (bs s), .int .i64 0, .int .i64 0] 105)) := (Below.refl _ _).alloc (Nat.le_refl _) _
  obtain ⟨w1, hw1⟩ : ∃ u, u = w.alloc (.cells #[.string (bs s), .int .i64 0, .int .i64 0] 105) := ⟨_, rfl⟩
  rw [← hw1] at hs1 hR1 hB1
  have HW := Lib.hid hw1
  clear hw1
  have HBAD := Lib.hid (fun k => dGetR_bad (s := s) (k := k))
  have HGOOD := Lib.hid (fun x => dGetR_good (s := s) (x := x))
  have HERR := Lib.hid (show (rU32 ⟨s, 0⟩).2.e ≠ 0 ∨ 16 < (rU32 ⟨s, 0⟩).1 → (dGetR s).2 = false from fun h => by unfold dGetR; rw [if_pos h])
  have HU := Lib.hid (refU4_any w.heap.size ⟨s, 0⟩ w1 hR1)
  generalize dGetR s = D at *
  generalize rU32 ⟨s, 0⟩ = y at *
  obtain ⟨n, r0⟩ := y
  simp only at HBAD HGOOD HERR HU
  go_enter Tryd.func26, Tryd.ntmps26
  go_wp2_with fail
  change Calls _ _ _ (w.alloc (.cells #[.string (bs s), .int .i64 0, .int .i64 0] 105)) _
  rw [← HW.out]
  refine HU.out.mono ?_
  rintro e w2 ⟨rfl, hQ⟩
  have hR2 := hQ.1
  have hB2 := hB1.trans (hQ.below (B := w.heap.size) (Nat.le_refl _) hB1.size)
  have hs2 : w.heap.size + 1 ≤ w2.heap.size := hs1 ▸ hQ.2.size
  have hE := ReadsF.err hR2
  clear hQ hR1 hB1 hs1 HU HW
  by_cases he : r0.e = 0
  · rw [he] at hE
    by_cases h16 : (16 : Int) < (n : Int)
    · have HV := Lib.hid (HERR.out (.inr (by omega)))
      clear HBAD HGOOD HERR
      go_wp2
      go_ret2
      rw [HV.out]
      exact ⟨_, rfl, (fun h => by cases h), hB2⟩
    · have hn16 : n ≤ 16 := by omega
      have hI := Lib.hid (And.intro hR2 (And.intro hB2 hs2))
      clear HERR hR2 hB2 hs2
      go_wp2
      clear hE
      go_loopw [6, 7] (fun v iv wr => ∃ (k : Nat) (xs : List Change) (q : Rs), k ≤ n ∧ iv = .int .i64 k ∧ dSome r0 k = some (xs, q) ∧ RowL Change.vals wr (w.heap.size + 1) 44 18 v xs ∧ RdF wr w.heap.size q ∧ w.heap.size + 1 ≤ wr.heap.size ∧ Below w.heap.size w wr) (fun _ iv _ => n - (intOf iv).toNat)
      case atStart => exact ⟨0, [], r0, Nat.zero_le _, rfl, rfl, RowS.none_, hI.out.1, hI.out.2.2, hI.out.2.1⟩
      case round =>
        clear hI
        obtain ⟨k, xs, q, hk, rfl, hd, hRow, hR, hsw, hB⟩ := hrel
        by_cases hlt : k < n
        · have hxl := dSome_len hd
          simp only at hxl
          have HN := Lib.hid (dSome_next hd)
          have HST := Lib.hid (fun h => HBAD.out (k + 1) (by omega) (dSome_stop hd h))
          have HOK := Lib.hid (show ∀ h1 : (dOne1 q).2.e = 0, rIs (dOne1 q).1 = true → dOneOk q from fun h1 h2 => ⟨h1, h2⟩)
          have HNE := Lib.hid (show (dOne1 q).2.e ≠ 0 → ¬ dOneOk q from fun h1 h2 => h1 h2.1)
          have HNI := Lib.hid (show rIs (dOne1 q).1 = false → ¬ dOneOk q from fun h1 h2 => by rw [h2.2] at h1; cases h1)
          have hD1 : dOne1 q = dSt (rLets q) (rKind q) (rU32 q).2 (rLets q).length := rfl
          have hLl : rLets q = rHas (rU32 q).1 := rfl
          have hKk : (rKind q).vals = (({ change0 with kind := (rU32 q).1 } : Change)).vals := rfl
          have HU := Lib.hid (refU4_any w.heap.size q wr hR)
          have hlet := rHas_letter (rU32 q).1
          have hsh := rHas_short (rU32 q).1
          rw [← hLl] at hlet hsh
          have HLS := Lib.hid (fun u => refLetters_any (rU32 q).1 u)
          rw [← hLl] at HLS
          have hzk : (rKind q).vals[0]? = some (.int .i64 (rU32 q).1) := rfl
          generalize rLets q = ls at *
          generalize rKind q = z at *
          generalize rU32 q = y at *
          obtain ⟨kd, r1⟩ := y
          simp only at hD1 hLl hKk HU HLS hzk
          have HD1 := Lib.hid hD1
          have HKK := Lib.hid hKk
          clear hD1 hLl hKk hd
          go_wp2_with fail
          refine HU.out.mono ?_
          rintro e w3 ⟨rfl, hQ⟩
          have hR3 := hQ.1
          have hlo := RowS.lt hRow
          have hRow3 := rowL_touch17 hRow hQ.2 (fun k hk => by have := (hlo k hk).1; omega)
          have hB3 := hB.trans (hQ.below (B := w.heap.size) (Nat.le_refl _) hB.size)
          have hs3 := Nat.le_trans hsw hQ.2.size
          have hC4 := Blk.new w3 44 z.vals
          have hX4 := (Below.refl w3.heap.size w3).alloc (Nat.le_refl _) (.cells z.vals.toArray 44)
          have hR4 := hR3.stays hX4
          have hRow4 := RowS.stays hRow3 hX4
          have hB4 := below_then hB3 hX4
          have hs4 : w3.heap.size < (w3.alloc (.cells z.vals.toArray 44)).heap.size := by simp
          have hvc := RowS.lt hRow3
          obtain ⟨w4, hw4⟩ : ∃ u, u = w3.alloc (.cells z.vals.toArray 44) := ⟨_, rfl⟩
          rw [← hw4] at hC4 hR4 hRow4 hB4 hs4
          have HW4 := Lib.hid hw4
          clear hw4 hX4 hR3 hRow3 hB3 hQ hRow hR hB HU hsw hlo
          obtain ⟨c, hcc⟩ : ∃ c, c = w3.heap.size := ⟨_, rfl⟩
          have hcq : w4.cell? ⟨w3.heap.size, 0, none⟩ = some (.int .i64 kd) := by rw [hC4.cell 0]; exact hzk
          clear hzk
          have HI4 := Lib.hid (And.intro hR4 (And.intro hC4 (And.intro hRow4 hB4)))
          clear hR4 hC4 hRow4 hB4
          have tok : True := trivial
          go_wp2_with (first
            | (clear tok; refine wpList_new_struct (by rfl) (by rfl) 44 (by rfl) _ _ (by rfl) z.vals infoChangeS (by rfl) (by rfl) (Change.one _) (by rfl) (by rw [HKK.out]; rfl) ?_; rw [← HW4.out])
            | fail)
          refine (HLS.out _).mono ?_
          rintro e w5 ⟨rfl, hx⟩
          have hR5 := HI4.out.1.stays hx
          have hC5 := HI4.out.2.1.stays hx
          have hRow5 := RowS.stays HI4.out.2.2.1 hx
          have hB5 := below_then HI4.out.2.2.2 hx
          have hs5 := Nat.lt_of_lt_of_le hs4 hx.size
          rw [← hcc] at hC5 hs5 hvc hs3
          clear hx HI4 hcq hs4 HLS HW4 HKK
          rw [← hcc]
          clear hcc
          have hsz := bs_size ls
          have HI5 := Lib.hid (And.intro hR5 (And.intro hC5 (And.intro hRow5 hB5)))
          clear hR5 hC5 hRow5 hB5
          go_wp2
          go_loopw [10] (fun iv wz => ∃ j : Nat, j ≤ ls.length ∧ iv = .int .i64 j ∧ RdF wz w.heap.size (dSt ls z r1 j).2 ∧ Blk wz c 44 (dSt ls z r1 j).1.vals ∧ RowL Change.vals wz (w.heap.size + 1) 44 18 u6 xs ∧ c < wz.heap.size ∧ Below w.heap.size w wz) (fun iv _ => ls.length - (intOf iv).toNat)
          case atStart => exact ⟨0, Nat.zero_le _, rfl, HI5.out.1, HI5.out.2.1, HI5.out.2.2.1, hs5, HI5.out.2.2.2⟩
          case round =>
            clear HI5 hs5
            obtain ⟨j, hj, rfl, hR, hC, hRow, hs5, hB⟩ := hrel
            have hng : ∀ k, Value.ownBlock u6 = some k → k ≠ w.heap.size := fun k hk => by have := (hvc k hk).1; omega
            have hnc : ∀ k, Value.ownBlock u6 = some k → k ≠ c := fun k hk => by have := (hvc k hk).2; omega
            have hgc : c ≠ w.heap.size := by omega
            by_cases hltj : j < ls.length
            · have hS := dSt_succ ls z r1 j hltj
              have hx := (hlet _ (List.getElem_mem hltj)).1
              have hqv : ((bs ls)[j]'(by rw [hsz]; exact hltj)).toNat = ls[j].toNat := rfl
              generalize ls[j].toNat = cc at *
              generalize dSt ls z r1 j = x at *
              have HS := Lib.hid hS
              clear hS HD1 HN HST HOK HNE HNI HBAD HGOOD
              rcases hx with rfl | rfl | rfl | rfl | rfl | rfl | rfl | rfl
              · have hT : dTk 101 x.1 x.2 = ({ x.1 with epoch := (rU32 x.2).1 }, (rU32 x.2).2) := rfl
                have hG := refU4_any w.heap.size x.2 _ hR
                generalize rU32 x.2 = v at *
                have HG := Lib.hid hG
                have HT := Lib.hid (HS.out.trans hT)
                clear hG hT HS
                go_wp2_with fail
                refine HG.out.mono ?_
                rintro e w6 ⟨rfl, hQ⟩
                have hC1 := hQ.keeps hC hgc
                have hf := hC1.frozen
                have hc1 := hC1.cell
                have hA2 : Blk (w6.setCell ⟨c, 1, none⟩ (.int .i64 v.1)) c 44 ({ x.1 with epoch := v.1 } : Change).vals := hC1.set_ 1 (.int .i64 v.1)
                have hT2 := (Touch.refl (fun k => k = c) w6).setCell_ (g := c) (o := 1) (.inl rfl) (.int .i64 v.1)
                have hR2 : RdF (w6.setCell ⟨c, 1, none⟩ (.int .i64 v.1)) w.heap.size v.2 := hQ.1.touch hT2 (fun e => hgc e.symm)
                have hW2 := rowL_touch17 (rowL_touch17 hRow hQ.2 hng) hT2 hnc
                have hs2 : c < (w6.setCell ⟨c, 1, none⟩ (.int .i64 v.1)).heap.size := Nat.lt_of_lt_of_le hs5 (Nat.le_trans hQ.2.size hT2.size)
                have hB2 : Below w.heap.size w (w6.setCell ⟨c, 1, none⟩ (.int .i64 v.1)) := (hB.trans (hQ.below (Nat.le_refl _) hB.size)).setCell (p := ⟨c, 1, none⟩) (by show w.heap.size ≤ c; omega) _
                have HH := Lib.hid (And.intro hR2 (And.intro hA2 (And.intro hW2 (And.intro hs2 hB2))))
                clear hR2 hA2 hW2 hs2 hB2 hT2 hQ hR hC hRow hB hC1 HG
                go_wp2
                go_roundw
                case rel => exact ⟨j + 1, by omega, by go_num, by rw [HT.out]; exact HH.out.1, by rw [HT.out]; exact HH.out.2.1, HH.out.2.2.1, HH.out.2.2.2.1, HH.out.2.2.2.2⟩
                case measure => simp [intOf]; omega
              · have hT : dTk 115 x.1 x.2 = ({ x.1 with serial := (rU64 x.2).1 }, (rU64 x.2).2) := rfl
                have hG := refU8_any w.heap.size x.2 _ hR
                generalize rU64 x.2 = v at *
                have HG := Lib.hid hG
                have HT := Lib.hid (HS.out.trans hT)
                clear hG hT HS
                go_wp2_with fail
                refine HG.out.mono ?_
                rintro e w6 ⟨rfl, hQ⟩
                have hC1 := hQ.keeps hC hgc
                have hf := hC1.frozen
                have hc1 := hC1.cell
                have hA2 : Blk (w6.setCell ⟨c, 2, none⟩ (.int .i64 v.1)) c 44 ({ x.1 with serial := v.1 } : Change).vals := hC1.set_ 2 (.int .i64 v.1)
                have hT2 := (Touch.refl (fun k => k = c) w6).setCell_ (g := c) (o := 2) (.inl rfl) (.int .i64 v.1)
                have hR2 : RdF (w6.setCell ⟨c, 2, none⟩ (.int .i64 v.1)) w.heap.size v.2 := hQ.1.touch hT2 (fun e => hgc e.symm)
                have hW2 := rowL_touch17 (rowL_touch17 hRow hQ.2 hng) hT2 hnc
                have hs2 : c < (w6.setCell ⟨c, 2, none⟩ (.int .i64 v.1)).heap.size := Nat.lt_of_lt_of_le hs5 (Nat.le_trans hQ.2.size hT2.size)
                have hB2 : Below w.heap.size w (w6.setCell ⟨c, 2, none⟩ (.int .i64 v.1)) := (hB.trans (hQ.below (Nat.le_refl _) hB.size)).setCell (p := ⟨c, 2, none⟩) (by show w.heap.size ≤ c; omega) _
                have HH := Lib.hid (And.intro hR2 (And.intro hA2 (And.intro hW2 (And.intro hs2 hB2))))
                clear hR2 hA2 hW2 hs2 hB2 hT2 hQ hR hC hRow hB hC1 HG
                go_wp2
                go_roundw
                case rel => exact ⟨j + 1, by omega, by go_num, by rw [HT.out]; exact HH.out.1, by rw [HT.out]; exact HH.out.2.1, HH.out.2.2.1, HH.out.2.2.2.1, HH.out.2.2.2.2⟩
                case measure => simp [intOf]; omega
              · have hT : dTk 117 x.1 x.2 = ({ x.1 with up := (rOpaque 64 x.2).1 }, (rOpaque 64 x.2).2) := rfl
                have hlk := RdF.len17 hR
                have hG := refTextR_any w.heap.size 64 x.2 _ hR hlk
                generalize rOpaque 64 x.2 = v at *
                have HG := Lib.hid hG
                have HT := Lib.hid (HS.out.trans hT)
                clear hG hT HS
                go_wp2_with fail
                refine HG.out.mono ?_
                rintro e w6 ⟨rfl, hQ⟩
                have hC1 := hQ.keeps hC hgc
                have hf := hC1.frozen
                have hc1 := hC1.cell
                have hA2 : Blk (w6.setCell ⟨c, 3, none⟩ (.string (bs v.1))) c 44 ({ x.1 with up := v.1 } : Change).vals := hC1.set_ 3 (.string (bs v.1))
                have hT2 := (Touch.refl (fun k => k = c) w6).setCell_ (g := c) (o := 3) (.inl rfl) (.string (bs v.1))
                have hR2 : RdF (w6.setCell ⟨c, 3, none⟩ (.string (bs v.1))) w.heap.size v.2 := hQ.1.touch hT2 (fun e => hgc e.symm)
                have hW2 := rowL_touch17 (rowL_touch17 hRow hQ.2 hng) hT2 hnc
                have hs2 : c < (w6.setCell ⟨c, 3, none⟩ (.string (bs v.1))).heap.size := Nat.lt_of_lt_of_le hs5 (Nat.le_trans hQ.2.size hT2.size)
                have hB2 : Below w.heap.size w (w6.setCell ⟨c, 3, none⟩ (.string (bs v.1))) := (hB.trans (hQ.below (Nat.le_refl _) hB.size)).setCell (p := ⟨c, 3, none⟩) (by show w.heap.size ≤ c; omega) _
                have HH := Lib.hid (And.intro hR2 (And.intro hA2 (And.intro hW2 (And.intro hs2 hB2))))
                clear hR2 hA2 hW2 hs2 hB2 hT2 hQ hR hC hRow hB hC1 HG
                go_wp2
                go_roundw
                case rel => exact ⟨j + 1, by omega, by go_num, by rw [HT.out]; exact HH.out.1, by rw [HT.out]; exact HH.out.2.1, HH.out.2.2.1, HH.out.2.2.2.1, HH.out.2.2.2.2⟩
                case measure => simp [intOf]; omega
              · have hT : dTk 110 x.1 x.2 = ({ x.1 with name := (rOpaque 255 x.2).1 }, (rOpaque 255 x.2).2) := rfl
                have hlk := RdF.len17 hR
                have hG := refTextR_any w.heap.size 255 x.2 _ hR hlk
                generalize rOpaque 255 x.2 = v at *
                have HG := Lib.hid hG
                have HT := Lib.hid (HS.out.trans hT)
                clear hG hT HS
                go_wp2_with fail
                refine HG.out.mono ?_
                rintro e w6 ⟨rfl, hQ⟩
                have hC1 := hQ.keeps hC hgc
                have hf := hC1.frozen
                have hc1 := hC1.cell
                have hA2 : Blk (w6.setCell ⟨c, 4, none⟩ (.string (bs v.1))) c 44 ({ x.1 with name := v.1 } : Change).vals := hC1.set_ 4 (.string (bs v.1))
                have hT2 := (Touch.refl (fun k => k = c) w6).setCell_ (g := c) (o := 4) (.inl rfl) (.string (bs v.1))
                have hR2 : RdF (w6.setCell ⟨c, 4, none⟩ (.string (bs v.1))) w.heap.size v.2 := hQ.1.touch hT2 (fun e => hgc e.symm)
                have hW2 := rowL_touch17 (rowL_touch17 hRow hQ.2 hng) hT2 hnc
                have hs2 : c < (w6.setCell ⟨c, 4, none⟩ (.string (bs v.1))).heap.size := Nat.lt_of_lt_of_le hs5 (Nat.le_trans hQ.2.size hT2.size)
                have hB2 : Below w.heap.size w (w6.setCell ⟨c, 4, none⟩ (.string (bs v.1))) := (hB.trans (hQ.below (Nat.le_refl _) hB.size)).setCell (p := ⟨c, 4, none⟩) (by show w.heap.size ≤ c; omega) _
                have HH := Lib.hid (And.intro hR2 (And.intro hA2 (And.intro hW2 (And.intro hs2 hB2))))
                clear hR2 hA2 hW2 hs2 hB2 hT2 hQ hR hC hRow hB hC1 HG
                go_wp2
                go_roundw
                case rel => exact ⟨j + 1, by omega, by go_num, by rw [HT.out]; exact HH.out.1, by rw [HT.out]; exact HH.out.2.1, HH.out.2.2.1, HH.out.2.2.2.1, HH.out.2.2.2.2⟩
                case measure => simp [intOf]; omega
              · have hT : dTk 99 x.1 x.2 = ({ x.1 with child := (rOpaque 64 x.2).1 }, (rOpaque 64 x.2).2) := rfl
                have hlk := RdF.len17 hR
                have hG := refTextR_any w.heap.size 64 x.2 _ hR hlk
                generalize rOpaque 64 x.2 = v at *
                have HG := Lib.hid hG
                have HT := Lib.hid (HS.out.trans hT)
                clear hG hT HS
                go_wp2_with fail
                refine HG.out.mono ?_
                rintro e w6 ⟨rfl, hQ⟩
                have hC1 := hQ.keeps hC hgc
                have hf := hC1.frozen
                have hc1 := hC1.cell
                have hA2 : Blk (w6.setCell ⟨c, 5, none⟩ (.string (bs v.1))) c 44 ({ x.1 with child := v.1 } : Change).vals := hC1.set_ 5 (.string (bs v.1))
                have hT2 := (Touch.refl (fun k => k = c) w6).setCell_ (g := c) (o := 5) (.inl rfl) (.string (bs v.1))
                have hR2 : RdF (w6.setCell ⟨c, 5, none⟩ (.string (bs v.1))) w.heap.size v.2 := hQ.1.touch hT2 (fun e => hgc e.symm)
                have hW2 := rowL_touch17 (rowL_touch17 hRow hQ.2 hng) hT2 hnc
                have hs2 : c < (w6.setCell ⟨c, 5, none⟩ (.string (bs v.1))).heap.size := Nat.lt_of_lt_of_le hs5 (Nat.le_trans hQ.2.size hT2.size)
                have hB2 : Below w.heap.size w (w6.setCell ⟨c, 5, none⟩ (.string (bs v.1))) := (hB.trans (hQ.below (Nat.le_refl _) hB.size)).setCell (p := ⟨c, 5, none⟩) (by show w.heap.size ≤ c; omega) _
                have HH := Lib.hid (And.intro hR2 (And.intro hA2 (And.intro hW2 (And.intro hs2 hB2))))
                clear hR2 hA2 hW2 hs2 hB2 hT2 hQ hR hC hRow hB hC1 HG
                go_wp2
                go_roundw
                case rel => exact ⟨j + 1, by omega, by go_num, by rw [HT.out]; exact HH.out.1, by rw [HT.out]; exact HH.out.2.1, HH.out.2.2.1, HH.out.2.2.2.1, HH.out.2.2.2.2⟩
                case measure => simp [intOf]; omega
              · have hT : dTk 97 x.1 x.2 = ({ x.1 with attr := (rAttr x.2).1 }, (rAttr x.2).2) := rfl
                have hG := refTake_any w.heap.size x.2 _ hR
                generalize rAttr x.2 = v at *
                have HG := Lib.hid hG
                have HT := Lib.hid (HS.out.trans hT)
                clear hG hT HS
                go_wp2_with fail
                refine HG.out.mono ?_
                rintro e w6 ⟨rfl, hQ⟩
                have hC1 := hQ.keeps hC hgc
                have hA2 : Blk (w6.setCells c 6 v.1.vals) c 44 ({ x.1 with attr := v.1 } : Change).vals := hC1.sets v.1.vals _ 6
                have hT2 := Touch.setCells (F := fun k => k = c) (g := c) (.inl rfl) v.1.vals 6 _ (Touch.refl (fun k => k = c) w6)
                have hR2 : RdF (w6.setCells c 6 v.1.vals) w.heap.size v.2 := hQ.1.touch hT2 (fun e => hgc e.symm)
                have hW2 := rowL_touch17 (rowL_touch17 hRow hQ.2 hng) hT2 hnc
                have hs2 : c < (w6.setCells c 6 v.1.vals).heap.size := Nat.lt_of_lt_of_le hs5 (Nat.le_trans hQ.2.size hT2.size)
                have hB2 : Below w.heap.size w (w6.setCells c 6 v.1.vals) := Below.setCells (by omega) v.1.vals 6 _ (hB.trans (hQ.below (Nat.le_refl _) hB.size))
                have HH := Lib.hid (And.intro hR2 (And.intro hA2 (And.intro hW2 (And.intro hs2 hB2))))
                clear hR2 hA2 hW2 hs2 hB2 hT2 hQ hR hC hRow hB HG
                obtain ⟨w7, hw7⟩ : ∃ w7, w7 = (w6.setCells c 6 v.1.vals) := ⟨_, rfl⟩
                rw [← hw7] at HH
                have HW7 := Lib.hid hw7
                clear hw7
                go_wp2_with (first | (refine wpList_store_part (by rfl) 42 _ _ (by rfl) c 6 v.1.vals _ hC1 (by simp [Attr.len, Change.len]) (by rfl) (by rfl) (by kernel_rfl) (Attr.one _) ?_; rw [← HW7.out]) | fail)
                go_roundw
                case rel => exact ⟨j + 1, by omega, by go_num, by rw [HT.out]; exact HH.out.1, by rw [HT.out]; exact HH.out.2.1, HH.out.2.2.1, HH.out.2.2.2.1, HH.out.2.2.2.2⟩
                case measure => simp [intOf]; omega
              · have hT : dTk 98 x.1 x.2 = ({ x.1 with no := (rU32 x.2).1 }, (rU32 x.2).2) := rfl
                have hG := refU4_any w.heap.size x.2 _ hR
                generalize rU32 x.2 = v at *
                have HG := Lib.hid hG
                have HT := Lib.hid (HS.out.trans hT)
                clear hG hT HS
                go_wp2_with fail
                refine HG.out.mono ?_
                rintro e w6 ⟨rfl, hQ⟩
                have hC1 := hQ.keeps hC hgc
                have hf := hC1.frozen
                have hc1 := hC1.cell
                have hA2 : Blk (w6.setCell ⟨c, 16, none⟩ (.int .i64 v.1)) c 44 ({ x.1 with no := v.1 } : Change).vals := hC1.set_ 16 (.int .i64 v.1)
                have hT2 := (Touch.refl (fun k => k = c) w6).setCell_ (g := c) (o := 16) (.inl rfl) (.int .i64 v.1)
                have hR2 : RdF (w6.setCell ⟨c, 16, none⟩ (.int .i64 v.1)) w.heap.size v.2 := hQ.1.touch hT2 (fun e => hgc e.symm)
                have hW2 := rowL_touch17 (rowL_touch17 hRow hQ.2 hng) hT2 hnc
                have hs2 : c < (w6.setCell ⟨c, 16, none⟩ (.int .i64 v.1)).heap.size := Nat.lt_of_lt_of_le hs5 (Nat.le_trans hQ.2.size hT2.size)
                have hB2 : Below w.heap.size w (w6.setCell ⟨c, 16, none⟩ (.int .i64 v.1)) := (hB.trans (hQ.below (Nat.le_refl _) hB.size)).setCell (p := ⟨c, 16, none⟩) (by show w.heap.size ≤ c; omega) _
                have HH := Lib.hid (And.intro hR2 (And.intro hA2 (And.intro hW2 (And.intro hs2 hB2))))
                clear hR2 hA2 hW2 hs2 hB2 hT2 hQ hR hC hRow hB hC1 HG
                go_wp2
                go_roundw
                case rel => exact ⟨j + 1, by omega, by go_num, by rw [HT.out]; exact HH.out.1, by rw [HT.out]; exact HH.out.2.1, HH.out.2.2.1, HH.out.2.2.2.1, HH.out.2.2.2.2⟩
                case measure => simp [intOf]; omega
              · have hT : dTk 116 x.1 x.2 = ({ x.1 with slot := (rU32 x.2).1 }, (rU32 x.2).2) := rfl
                have hG := refU4_any w.heap.size x.2 _ hR
                generalize rU32 x.2 = v at *
                have HG := Lib.hid hG
                have HT := Lib.hid (HS.out.trans hT)
                clear hG hT HS
                go_wp2_with fail
                refine HG.out.mono ?_
                rintro e w6 ⟨rfl, hQ⟩
                have hC1 := hQ.keeps hC hgc
                have hf := hC1.frozen
                have hc1 := hC1.cell
                have hA2 : Blk (w6.setCell ⟨c, 17, none⟩ (.int .i64 v.1)) c 44 ({ x.1 with slot := v.1 } : Change).vals := hC1.set_ 17 (.int .i64 v.1)
                have hT2 := (Touch.refl (fun k => k = c) w6).setCell_ (g := c) (o := 17) (.inl rfl) (.int .i64 v.1)
                have hR2 : RdF (w6.setCell ⟨c, 17, none⟩ (.int .i64 v.1)) w.heap.size v.2 := hQ.1.touch hT2 (fun e => hgc e.symm)
                have hW2 := rowL_touch17 (rowL_touch17 hRow hQ.2 hng) hT2 hnc
                have hs2 : c < (w6.setCell ⟨c, 17, none⟩ (.int .i64 v.1)).heap.size := Nat.lt_of_lt_of_le hs5 (Nat.le_trans hQ.2.size hT2.size)
                have hB2 : Below w.heap.size w (w6.setCell ⟨c, 17, none⟩ (.int .i64 v.1)) := (hB.trans (hQ.below (Nat.le_refl _) hB.size)).setCell (p := ⟨c, 17, none⟩) (by show w.heap.size ≤ c; omega) _
                have HH := Lib.hid (And.intro hR2 (And.intro hA2 (And.intro hW2 (And.intro hs2 hB2))))
                clear hR2 hA2 hW2 hs2 hB2 hT2 hQ hR hC hRow hB hC1 HG
                go_wp2
                go_roundw
                case rel => exact ⟨j + 1, by omega, by go_num, by rw [HT.out]; exact HH.out.1, by rw [HT.out]; exact HH.out.2.1, HH.out.2.2.1, HH.out.2.2.2.1, HH.out.2.2.2.2⟩
                case measure => simp [intOf]; omega
            · obtain rfl : j = ls.length := by omega
              rw [← HD1.out] at hR hC
              clear HD1 hlet hsh hsz hj hltj
              generalize dOne1 q = x at *
              have hE := ReadsF.err hR
              have rC : rowOf _ c 0 18 = some x.1.vals.toArray := hC.row 0 18 (by simp [Change.len])
              by_cases he2 : x.2.e = 0
              · rw [he2] at hE
                have hck := fun u => refCheck17_any x.1 u
                cases hri : rIs x.1 with
                | false =>
                  rw [hri] at hck
                  have HV := Lib.hid (HST.out (HNI.out hri))
                  have HCK := Lib.hid hck
                  clear HBAD HGOOD HN HST HOK HNE HNI hck hri hR hC hRow
                  go_wp2_with fail
                  refine (HCK.out _).mono ?_
                  rintro e w8 ⟨rfl, hx⟩
                  go_wp2
                  go_ret2
                  rw [HV.out]
                  exact ⟨_, rfl, (fun h => by cases h), below_then hB hx⟩
                | true =>
                  rw [hri] at hck
                  have HV := Lib.hid (HN.out (HOK.out he2 hri))
                  have HCK := Lib.hid hck
                  clear HN HST HOK HNE HNI hck hri
                  go_wp2_with fail
                  refine (HCK.out _).mono ?_
                  rintro e w8 ⟨rfl, hx⟩
                  have hR8 := hR.stays hx
                  have hC8 := hC.stays hx
                  have hRow8 := RowS.stays hRow hx
                  have hB8 := below_then hB hx
                  have hs8 := Nat.lt_of_lt_of_le hs5 hx.size
                  have rC8 : rowOf w8 c 0 18 = some x.1.vals.toArray := hC8.row 0 18 (by simp [Change.len])
                  have hap := RowS.append (P := Tryd.prog) 37 37 i0 Tryd.underlying37 hi hz0 hsize hby rfl (by omega) (by omega) hRow8 (by omega) x.1.vals (Change.len _) (Change.one _) (by rw [List.length_map]; omega)
                  rw [map_snoc] at hap
                  have HA := Lib.hid hap
                  have HK8 := Lib.hid (And.intro hR8 hB8)
                  clear hap hx hR hC hRow hB hR8 hC8 hRow8 hB8 rC hE
                  go_wp2_with (first
                    | (refine wpList_buildSlice_one (by rfl) 37 44 (.tmp 96) (by rfl) x.1.vals (by rfl) Tryd.underlying37 i0 _ hi hz0 rfl hsize (by rw [Change.len]; omega) (by rw [Change.len]; omega) ?_)
                    | (refine wpList_append_by (by rfl) (.tmp 95) (.tmp 97) #[37, 37] (by rfl) _ _ (by rfl) (by rfl) HA.out ?_; rintro v' w' ⟨hR', hb'⟩)
                    | fail)
                  have hb1 := hb' w8 (Below.refl _ _)
                  have HR := Lib.hid hR'
                  have HQ := Lib.hid (HK8.out.1.below17 hb1 (Nat.lt_succ_self _))
                  have HB := Lib.hid (show Below w.heap.size w w' from HK8.out.2.trans ⟨hb1.os, hb1.tape, hb1.output, hb1.size, fun k hk => hb1.block k (by omega)⟩)
                  have HSZ := Lib.hid (show w.heap.size + 1 ≤ w'.heap.size by have := hb1.size; omega)
                  clear hR' hb' hb1 HK8 HA
                  go_roundw
                  case rel => exact ⟨k + 1, xs ++ [x.1], x.2, by omega, by go_num, HV.out, HR.out, HQ.out, HSZ.out, HB.out⟩
                  case measure => simp [intOf]; omega
              · have he3 : (x.2.e != 0) = true := by simpa using he2
                have HV := Lib.hid (HST.out (HNE.out he2))
                clear HBAD HGOOD HN HST HOK HNE HNI rC hR hC hRow
                go_wp2
                go_ret2
                rw [HV.out]
                exact ⟨_, rfl, (fun h => by cases h), hB⟩
        · obtain rfl : k = n := by omega
          have HV := Lib.hid (HGOOD.out _ he (by omega) hd)
          clear HBAD HGOOD hd
          go_wp2_with fail
          refine (refLeft_any w.heap.size q _ hR).mono ?_
          rintro e w8 ⟨rfl, hx⟩
          have HRow := Lib.hid (RowS.base (RowS.stays hRow hx) (Nat.le_succ w.heap.size))
          have HB8 := Lib.hid (below_then hB hx)
          clear hRow hB hx hR
          generalize rLeft q = lf at *
          go_wp2
          go_ret2
          rw [HV.out]
          exact ⟨_, rfl, fun _ => HRow.out, HB8.out⟩
  · have he2 : (r0.e != 0) = true := by simpa using he
    have HV := Lib.hid (HERR.out (.inl he))
    clear HBAD HGOOD HERR
    go_wp2
    go_ret2
    rw [HV.out]
    exact ⟨_, rfl, (fun h => by cases h), hB2⟩
end Go.Proofs.YthfhdighniiodaaDoor
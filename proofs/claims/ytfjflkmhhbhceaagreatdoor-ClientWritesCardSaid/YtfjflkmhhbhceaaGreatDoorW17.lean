/-
  Layer 7, walks: the document's Get (written by wip/tools/genget7.py). Condition: the text is no longer than 10^18.
-/
import Derived.Test.YtfjflkmhhbhceaaGreatDoorW16
import Derived.Test.YtfjflkmhhbhceaaGreatDoorW10
import Derived.Test.YtfjflkmhhbhceaaGreatDoorW15
namespace Go.Proofs.YtfjflkmhhbhceaaGreatDoor
open Go.RowKit
attribute [local go_sem ↓] Go.wp_at_zero Go.wp_at_succ
attribute [local go_sem] rowAt_ptr rowOf_drew rowOf_drewN rowOf_alloc_past rowOf_new
attribute [local go_sem ↓] ldSet ldOpt ldCall

attribute [local go_sem] Call.at0 Call.lat0 Call.at1 Call.lat1 Call.at2 Call.lat2 Call.at3 Call.lat3 Call.at4 Call.lat4 Call.at5 Call.lat5 Call.at6 Call.lat6 Call.at7 Call.lat7 Call.at8 Call.lat8 Call.at9 Call.lat9 Call.at10 Call.lat10 Call.at11 Call.lat11 Call.at12 Call.lat12 Call.at13 Call.lat13 Call.at14 Call.lat14 Call.at15 Call.lat15 Call.at16 Call.lat16 Call.at17 Call.lat17 Call.at18 Call.lat18 Call.at19 Call.lat19 Call.at20 Call.lat20 Call.at21 Call.lat21 Call.at22 Call.lat22 Call.at23 Call.lat23 Call.sub0_24 Call.lsub0_24 Call.sub9_10 Call.lsub9_10 Call.sub9_2 Call.lsub9_2 Call.sub11_2 Call.lsub11_2 Call.sub13_2 Call.lsub13_2 Call.sub15_2 Call.lsub15_2 Call.sub17_2 Call.lsub17_2 Call.sub19_2 Call.lsub19_2 Call.len Sett.at0 Sett.lat0 Sett.at1 Sett.lat1 Sett.at2 Sett.lat2 Sett.at3 Sett.lat3 Sett.at4 Sett.lat4 Sett.at5 Sett.lat5 Sett.at6 Sett.lat6 Sett.at7 Sett.lat7 Sett.at8 Sett.lat8 Sett.at9 Sett.lat9 Sett.sub0_10 Sett.lsub0_10 Sett.sub0_2 Sett.lsub0_2 Sett.sub2_2 Sett.lsub2_2 Sett.sub4_2 Sett.lsub4_2 Sett.sub6_2 Sett.lsub6_2 Sett.sub8_2 Sett.lsub8_2 Sett.len Opt.at0 Opt.lat0 Opt.at1 Opt.lat1 Opt.sub0_2 Opt.lsub0_2 Opt.len

theorem RdF.new7 (w : World) (s : List UInt8) (h : s.length ≤ 1000000000000000000) : RdF (w.alloc (.cells #[.string (bs s), .int .i64 0, .int .i64 0] 131)) w.heap.size ⟨s, 0⟩ :=
  ⟨s, 0, Blk.new _ _ _, Nat.zero_le _, h, fun _ => rfl, fun h => absurd rfl h⟩
theorem RdF.ne_blk {w : World} {g b : Nat} {r : Rs} {T : TypeId} {cs : List Value} (h : RdF w g r) (hb : Blk w b T cs) (hT : T ≠ 131) : b ≠ g := by
  obtain ⟨S, a, h, _⟩ := h
  exact Blk.ne_ hb h hT
/-- what the document's Get gives -/
def dGet (p : Int) (s : List UInt8) : Call × Bool :=
  if (∀ k (hk : k < (cFields p).length), (cFields p)[k].toNat = 115 → cStOk (cFields p) { callZ with proc := p } ⟨s, 0⟩ k = true) ∧ (cSt (cFields p) { callZ with proc := p } ⟨s, 0⟩ (cFields p).length).2.e = 0 ∧ ¬ 0 < rLeft (cSt (cFields p) { callZ with proc := p } ⟨s, 0⟩ (cFields p).length).2
  then ((cSt (cFields p) { callZ with proc := p } ⟨s, 0⟩ (cFields p).length).1, true) else (callZ, false)

set_option maxRecDepth 20000 in
set_option maxHeartbeats 3200000 in
theorem refGet7_any (p : Int) (s : List UInt8) (w : World) (hl : s.length ≤ 1000000000000000000) :
    Calls Tryz.prog 26 #[.int .i64 p, .string (bs s)] w fun e w' => e = .returned (.tuple #[.agg (dGet p s).1.vals.toArray, .bool (dGet p s).2]) ∧ Below w.heap.size w w' := by
  have hs0 : (w.alloc (.cells callZ.vals.toArray 36)).heap.size = w.heap.size + 1 := by simp
  have hq0 := Blk.new w 36 callZ.vals
  have hB0 : Below w.heap.size w (w.alloc (.cells callZ.vals.toArray 36)) := (Below.refl _ _).alloc (Nat.le_refl _) _
  obtain ⟨w0, hw0⟩ : ∃ u, u = w.alloc (.cells callZ.vals.toArray 36) := ⟨_, rfl⟩
  rw [← hw0] at hs0 hq0 hB0
  have hs1 : (w0.alloc (.cells #[.string (bs s), .int .i64 0, .int .i64 0] 131)).heap.size = w.heap.size + 1 + 1 := by simp [hs0]
  have hR1 := RdF.new7 w0 s hl
  have hq1 := hq0.alloc (.cells #[.string (bs s), .int .i64 0, .int .i64 0] 131)
  have hB1 := hB0.alloc hB0.size (.cells #[.string (bs s), .int .i64 0, .int .i64 0] 131)
  rw [hs0] at hR1
  obtain ⟨w1, hw1⟩ : ∃ u, u = w0.alloc (.cells #[.string (bs s), .int .i64 0, .int .i64 0] 131) := ⟨_, rfl⟩
  rw [← hw1] at hs1 hR1 hq1 hB1
  obtain ⟨z, hz⟩ : ∃ z : Call, z = { callZ with proc := p } := ⟨_, rfl⟩
  have hC2 := Blk.new w1 36 z.vals
  have hX2 := (Below.refl w1.heap.size w1).alloc (Nat.le_refl _) (.cells z.vals.toArray 36)
  have hR2 := hR1.stays hX2
  have hq2 := hq1.stays hX2
  have hB2 := below_then hB1 hX2
  rw [hs1] at hC2
  obtain ⟨w2, hw2⟩ : ∃ u, u = w1.alloc (.cells z.vals.toArray 36) := ⟨_, rfl⟩
  rw [← hw2] at hC2 hR2 hq2 hB2
  have HD := Lib.hid (show dGet p s = if (∀ k (hk : k < (cFields p).length), (cFields p)[k].toNat = 115 → cStOk (cFields p) { callZ with proc := p } ⟨s, 0⟩ k = true) ∧ (cSt (cFields p) { callZ with proc := p } ⟨s, 0⟩ (cFields p).length).2.e = 0 ∧ ¬ 0 < rLeft (cSt (cFields p) { callZ with proc := p } ⟨s, 0⟩ (cFields p).length).2
    then ((cSt (cFields p) { callZ with proc := p } ⟨s, 0⟩ (cFields p).length).1, true) else (callZ, false) from rfl)
  have HW := Lib.hid (And.intro hw0 (And.intro hw1 hw2))
  have HZ := Lib.hid hz
  rw [← hz] at HD
  have HAll := Lib.hid (And.intro hq2 (And.intro hR2 (And.intro hC2 hB2)))
  clear hw0 hw1 hw2 hz hC2 hX2 hR2 hq2 hB2 hR1 hq1 hB1 hq0 hB0
  have hlet := fun k (hk : k < (cFields p).length) => cFields_letter p hk
  have hsh := cFields_short p
  go_enter Tryz.func26, Tryz.ntmps26
  go_wp2_with (first
    | (refine wpList_new_struct (by rfl) (by rfl) 36 (by rfl) _ _ (by rfl) z.vals infoCall (by rfl) (by rfl) (Call.one _) (by rfl) (by rw [HZ.out]; rfl) ?_)
    | fail)
  change Calls _ _ _ (((w.alloc (.cells callZ.vals.toArray 36)).alloc (.cells #[.string (bs s), .int .i64 0, .int .i64 0] 131)).alloc (.cells z.vals.toArray 36)) _
  rw [← HW.out.1, ← HW.out.2.1, ← HW.out.2.2]
  refine (refFields_any p _).mono ?_
  rintro e w3 ⟨rfl, hb3⟩
  have hq3 := HAll.out.1.stays hb3
  have hR3 := HAll.out.2.1.stays hb3
  have hC3 := HAll.out.2.2.1.stays hb3
  have hB3 := below_then HAll.out.2.2.2 hb3
  clear hb3 HAll HW hs0 hs1
  obtain ⟨l, hlf⟩ : ∃ l, l = cFields p := ⟨_, rfl⟩
  rw [← hlf] at hlet hsh HD ⊢
  clear hlf
  have hsz := bs_size l
  have HI := Lib.hid (And.intro hR3 (And.intro hC3 (And.intro hq3 hB3)))
  clear hR3 hC3 hq3 hB3
  go_wp2
  go_loopw [9] (fun iv wr => ∃ k : Nat, k ≤ l.length ∧ iv = .int .i64 k ∧ (∀ j (hj : j < l.length), j < k → l[j].toNat = 115 → cStOk l z ⟨s, 0⟩ j = true) ∧ RdF wr (w.heap.size + 1) (cSt l z ⟨s, 0⟩ k).2 ∧ Blk wr (w.heap.size + 1 + 1) 36 (cSt l z ⟨s, 0⟩ k).1.vals ∧ Blk wr w.heap.size 36 callZ.vals ∧ Below w.heap.size w wr) (fun iv _ => l.length - (intOf iv).toNat)
  case atStart => exact ⟨0, Nat.zero_le _, rfl, fun _ _ h => absurd h (Nat.not_lt_zero _), HI.out.1, HI.out.2.1, HI.out.2.2.1, HI.out.2.2.2⟩
  case round =>
    clear HI
    obtain ⟨k, hk, rfl, hno, hR, hC, hq, hB⟩ := hrel
    have hgb := hR.ne_blk hC (by decide)
    have hgq := hR.ne_blk hq (by decide)
    have hlk := cSt_len l z (r := ⟨s, 0⟩) (by simp only; omega) k hk
    by_cases hlt : k < l.length
    · have hS := cSt_succ l z ⟨s, 0⟩ k hlt
      have hx := hlet k hlt
      have hqv : ((bs l)[k]'(by rw [hsz]; exact hlt)).toNat = l[k].toNat := rfl
      have hgd : (l.getD k 0).toNat = l[k].toNat := by simp [List.getD, List.getElem?_eq_getElem hlt]
      have hN1 : l[k].toNat ≠ 115 → ∀ j (hj : j < l.length), j < k + 1 → l[j].toNat = 115 → cStOk l z ⟨s, 0⟩ j = true := fun hne j hj h h5 => by
        rcases Nat.lt_or_ge j k with h3 | h3
        · exact hno j hj h3 h5
        · obtain rfl : j = k := by omega
          exact absurd h5 hne
      have hN2 : cTkOk 115 (cSt l z ⟨s, 0⟩ k).2 = true → ∀ j (hj : j < l.length), j < k + 1 → l[j].toNat = 115 → cStOk l z ⟨s, 0⟩ j = true := fun hok j hj h h5 => by
        rcases Nat.lt_or_ge j k with h3 | h3
        · exact hno j hj h3 h5
        · obtain rfl : j = k := by omega
          unfold cStOk
          rw [hgd, h5]
          exact hok
      have hN3 : cTkOk 115 (cSt l z ⟨s, 0⟩ k).2 = false → l[k].toNat = 115 → dGet p s = (callZ, false) := fun hbad h5 => HD.out.trans (if_neg fun h => by
        have := h.1 k hlt h5
        unfold cStOk at this
        rw [hgd, h5, hbad] at this
        cases this)
      clear hgd
      have HN3 := Lib.hid hN3
      have HN2 := Lib.hid hN2
      have HN1 := Lib.hid hN1
      clear hN1 hN2 hN3 hno
      generalize l[k].toNat = c at *
      generalize cSt l z ⟨s, 0⟩ k = x at *
      have HS := Lib.hid hS
      clear hS
      rcases hx with rfl | rfl | rfl | rfl | rfl | rfl | rfl | rfl | rfl | rfl | rfl | rfl | rfl
      · have hT : cTk 102 x.1 x.2 = ({ x.1 with fh := (rOpaque 64 x.2).1 }, (rOpaque 64 x.2).2) := rfl
        have hG := refTextR_any (w.heap.size + 1) 64 x.2 wr hR hlk
        generalize rOpaque 64 x.2 = v at *
        have HG := Lib.hid hG
        have HT := Lib.hid (HS.out.trans hT)
        have HN := Lib.hid (HN1.out (by decide))
        clear hG hT HN1 HN2 HN3 HS
        go_wp2_with fail
        refine HG.out.mono ?_
        rintro e w4 ⟨rfl, hQ⟩
        have hC1 := hQ.keeps hC hgb
        have hf := hC1.frozen
        have hc1 := hC1.cell
        have hA2 : Blk (w4.setCell ⟨w.heap.size + 1 + 1, 1, none⟩ (.string (bs v.1))) (w.heap.size + 1 + 1) 36 ({ x.1 with fh := v.1 } : Call).vals := hC1.set_ 1 (.string (bs v.1))
        have hR2 : RdF (w4.setCell ⟨w.heap.size + 1 + 1, 1, none⟩ (.string (bs v.1))) (w.heap.size + 1) v.2 := hQ.1.touch ((Touch.refl (fun k => k = w.heap.size + 1 + 1) w4).setCell_ (g := w.heap.size + 1 + 1) (o := 1) (.inl rfl) (.string (bs v.1))) (by omega)
        have hq2 : Blk (w4.setCell ⟨w.heap.size + 1 + 1, 1, none⟩ (.string (bs v.1))) w.heap.size 36 callZ.vals := (hQ.keeps hq hgq).far (p := ⟨w.heap.size + 1 + 1, 1, none⟩) (by show w.heap.size ≠ w.heap.size + 1 + 1; omega) _
        have hB2 : Below w.heap.size w (w4.setCell ⟨w.heap.size + 1 + 1, 1, none⟩ (.string (bs v.1))) := (hB.trans (hQ.below (by omega) hB.size)).setCell (p := ⟨w.heap.size + 1 + 1, 1, none⟩) (by show w.heap.size ≤ w.heap.size + 1 + 1; omega) _
        have HH := Lib.hid (And.intro hR2 (And.intro hA2 (And.intro hq2 hB2)))
        clear hR2 hA2 hq2 hB2 hQ hR hC hq hB hC1 HG
        go_wp2
        go_roundw
        case rel => exact ⟨k + 1, by omega, by go_num, HN.out, by rw [HT.out]; exact HH.out.1, by rw [HT.out]; exact HH.out.2.1, HH.out.2.2.1, HH.out.2.2.2⟩
        case measure => simp [intOf]; omega
      · have hT : cTk 70 x.1 x.2 = ({ x.1 with fh2 := (rOpaque 64 x.2).1 }, (rOpaque 64 x.2).2) := rfl
        have hG := refTextR_any (w.heap.size + 1) 64 x.2 wr hR hlk
        generalize rOpaque 64 x.2 = v at *
        have HG := Lib.hid hG
        have HT := Lib.hid (HS.out.trans hT)
        have HN := Lib.hid (HN1.out (by decide))
        clear hG hT HN1 HN2 HN3 HS
        go_wp2_with fail
        refine HG.out.mono ?_
        rintro e w4 ⟨rfl, hQ⟩
        have hC1 := hQ.keeps hC hgb
        have hf := hC1.frozen
        have hc1 := hC1.cell
        have hA2 : Blk (w4.setCell ⟨w.heap.size + 1 + 1, 3, none⟩ (.string (bs v.1))) (w.heap.size + 1 + 1) 36 ({ x.1 with fh2 := v.1 } : Call).vals := hC1.set_ 3 (.string (bs v.1))
        have hR2 : RdF (w4.setCell ⟨w.heap.size + 1 + 1, 3, none⟩ (.string (bs v.1))) (w.heap.size + 1) v.2 := hQ.1.touch ((Touch.refl (fun k => k = w.heap.size + 1 + 1) w4).setCell_ (g := w.heap.size + 1 + 1) (o := 3) (.inl rfl) (.string (bs v.1))) (by omega)
        have hq2 : Blk (w4.setCell ⟨w.heap.size + 1 + 1, 3, none⟩ (.string (bs v.1))) w.heap.size 36 callZ.vals := (hQ.keeps hq hgq).far (p := ⟨w.heap.size + 1 + 1, 3, none⟩) (by show w.heap.size ≠ w.heap.size + 1 + 1; omega) _
        have hB2 : Below w.heap.size w (w4.setCell ⟨w.heap.size + 1 + 1, 3, none⟩ (.string (bs v.1))) := (hB.trans (hQ.below (by omega) hB.size)).setCell (p := ⟨w.heap.size + 1 + 1, 3, none⟩) (by show w.heap.size ≤ w.heap.size + 1 + 1; omega) _
        have HH := Lib.hid (And.intro hR2 (And.intro hA2 (And.intro hq2 hB2)))
        clear hR2 hA2 hq2 hB2 hQ hR hC hq hB hC1 HG
        go_wp2
        go_roundw
        case rel => exact ⟨k + 1, by omega, by go_num, HN.out, by rw [HT.out]; exact HH.out.1, by rw [HT.out]; exact HH.out.2.1, HH.out.2.2.1, HH.out.2.2.2⟩
        case measure => simp [intOf]; omega
      · have hT : cTk 110 x.1 x.2 = ({ x.1 with name := (rOpaque 255 x.2).1 }, (rOpaque 255 x.2).2) := rfl
        have hG := refTextR_any (w.heap.size + 1) 255 x.2 wr hR hlk
        generalize rOpaque 255 x.2 = v at *
        have HG := Lib.hid hG
        have HT := Lib.hid (HS.out.trans hT)
        have HN := Lib.hid (HN1.out (by decide))
        clear hG hT HN1 HN2 HN3 HS
        go_wp2_with fail
        refine HG.out.mono ?_
        rintro e w4 ⟨rfl, hQ⟩
        have hC1 := hQ.keeps hC hgb
        have hf := hC1.frozen
        have hc1 := hC1.cell
        have hA2 : Blk (w4.setCell ⟨w.heap.size + 1 + 1, 2, none⟩ (.string (bs v.1))) (w.heap.size + 1 + 1) 36 ({ x.1 with name := v.1 } : Call).vals := hC1.set_ 2 (.string (bs v.1))
        have hR2 : RdF (w4.setCell ⟨w.heap.size + 1 + 1, 2, none⟩ (.string (bs v.1))) (w.heap.size + 1) v.2 := hQ.1.touch ((Touch.refl (fun k => k = w.heap.size + 1 + 1) w4).setCell_ (g := w.heap.size + 1 + 1) (o := 2) (.inl rfl) (.string (bs v.1))) (by omega)
        have hq2 : Blk (w4.setCell ⟨w.heap.size + 1 + 1, 2, none⟩ (.string (bs v.1))) w.heap.size 36 callZ.vals := (hQ.keeps hq hgq).far (p := ⟨w.heap.size + 1 + 1, 2, none⟩) (by show w.heap.size ≠ w.heap.size + 1 + 1; omega) _
        have hB2 : Below w.heap.size w (w4.setCell ⟨w.heap.size + 1 + 1, 2, none⟩ (.string (bs v.1))) := (hB.trans (hQ.below (by omega) hB.size)).setCell (p := ⟨w.heap.size + 1 + 1, 2, none⟩) (by show w.heap.size ≤ w.heap.size + 1 + 1; omega) _
        have HH := Lib.hid (And.intro hR2 (And.intro hA2 (And.intro hq2 hB2)))
        clear hR2 hA2 hq2 hB2 hQ hR hC hq hB hC1 HG
        go_wp2
        go_roundw
        case rel => exact ⟨k + 1, by omega, by go_num, HN.out, by rw [HT.out]; exact HH.out.1, by rw [HT.out]; exact HH.out.2.1, HH.out.2.2.1, HH.out.2.2.2⟩
        case measure => simp [intOf]; omega
      · have hT : cTk 78 x.1 x.2 = ({ x.1 with name2 := (rOpaque 255 x.2).1 }, (rOpaque 255 x.2).2) := rfl
        have hG := refTextR_any (w.heap.size + 1) 255 x.2 wr hR hlk
        generalize rOpaque 255 x.2 = v at *
        have HG := Lib.hid hG
        have HT := Lib.hid (HS.out.trans hT)
        have HN := Lib.hid (HN1.out (by decide))
        clear hG hT HN1 HN2 HN3 HS
        go_wp2_with fail
        refine HG.out.mono ?_
        rintro e w4 ⟨rfl, hQ⟩
        have hC1 := hQ.keeps hC hgb
        have hf := hC1.frozen
        have hc1 := hC1.cell
        have hA2 : Blk (w4.setCell ⟨w.heap.size + 1 + 1, 4, none⟩ (.string (bs v.1))) (w.heap.size + 1 + 1) 36 ({ x.1 with name2 := v.1 } : Call).vals := hC1.set_ 4 (.string (bs v.1))
        have hR2 : RdF (w4.setCell ⟨w.heap.size + 1 + 1, 4, none⟩ (.string (bs v.1))) (w.heap.size + 1) v.2 := hQ.1.touch ((Touch.refl (fun k => k = w.heap.size + 1 + 1) w4).setCell_ (g := w.heap.size + 1 + 1) (o := 4) (.inl rfl) (.string (bs v.1))) (by omega)
        have hq2 : Blk (w4.setCell ⟨w.heap.size + 1 + 1, 4, none⟩ (.string (bs v.1))) w.heap.size 36 callZ.vals := (hQ.keeps hq hgq).far (p := ⟨w.heap.size + 1 + 1, 4, none⟩) (by show w.heap.size ≠ w.heap.size + 1 + 1; omega) _
        have hB2 : Below w.heap.size w (w4.setCell ⟨w.heap.size + 1 + 1, 4, none⟩ (.string (bs v.1))) := (hB.trans (hQ.below (by omega) hB.size)).setCell (p := ⟨w.heap.size + 1 + 1, 4, none⟩) (by show w.heap.size ≤ w.heap.size + 1 + 1; omega) _
        have HH := Lib.hid (And.intro hR2 (And.intro hA2 (And.intro hq2 hB2)))
        clear hR2 hA2 hq2 hB2 hQ hR hC hq hB hC1 HG
        go_wp2
        go_roundw
        case rel => exact ⟨k + 1, by omega, by go_num, HN.out, by rw [HT.out]; exact HH.out.1, by rw [HT.out]; exact HH.out.2.1, HH.out.2.2.1, HH.out.2.2.2⟩
        case measure => simp [intOf]; omega
      · have hT : cTk 116 x.1 x.2 = ({ x.1 with text := (rOpaque 255 x.2).1 }, (rOpaque 255 x.2).2) := rfl
        have hG := refTextR_any (w.heap.size + 1) 255 x.2 wr hR hlk
        generalize rOpaque 255 x.2 = v at *
        have HG := Lib.hid hG
        have HT := Lib.hid (HS.out.trans hT)
        have HN := Lib.hid (HN1.out (by decide))
        clear hG hT HN1 HN2 HN3 HS
        go_wp2_with fail
        refine HG.out.mono ?_
        rintro e w4 ⟨rfl, hQ⟩
        have hC1 := hQ.keeps hC hgb
        have hf := hC1.frozen
        have hc1 := hC1.cell
        have hA2 : Blk (w4.setCell ⟨w.heap.size + 1 + 1, 23, none⟩ (.string (bs v.1))) (w.heap.size + 1 + 1) 36 ({ x.1 with text := v.1 } : Call).vals := hC1.set_ 23 (.string (bs v.1))
        have hR2 : RdF (w4.setCell ⟨w.heap.size + 1 + 1, 23, none⟩ (.string (bs v.1))) (w.heap.size + 1) v.2 := hQ.1.touch ((Touch.refl (fun k => k = w.heap.size + 1 + 1) w4).setCell_ (g := w.heap.size + 1 + 1) (o := 23) (.inl rfl) (.string (bs v.1))) (by omega)
        have hq2 : Blk (w4.setCell ⟨w.heap.size + 1 + 1, 23, none⟩ (.string (bs v.1))) w.heap.size 36 callZ.vals := (hQ.keeps hq hgq).far (p := ⟨w.heap.size + 1 + 1, 23, none⟩) (by show w.heap.size ≠ w.heap.size + 1 + 1; omega) _
        have hB2 : Below w.heap.size w (w4.setCell ⟨w.heap.size + 1 + 1, 23, none⟩ (.string (bs v.1))) := (hB.trans (hQ.below (by omega) hB.size)).setCell (p := ⟨w.heap.size + 1 + 1, 23, none⟩) (by show w.heap.size ≤ w.heap.size + 1 + 1; omega) _
        have HH := Lib.hid (And.intro hR2 (And.intro hA2 (And.intro hq2 hB2)))
        clear hR2 hA2 hq2 hB2 hQ hR hC hq hB hC1 HG
        go_wp2
        go_roundw
        case rel => exact ⟨k + 1, by omega, by go_num, HN.out, by rw [HT.out]; exact HH.out.1, by rw [HT.out]; exact HH.out.2.1, HH.out.2.2.1, HH.out.2.2.2⟩
        case measure => simp [intOf]; omega
      · have hT : cTk 100 x.1 x.2 = ({ x.1 with data := (rOpaque 256 x.2).1 }, (rOpaque 256 x.2).2) := rfl
        have hG := refTextR_any (w.heap.size + 1) 256 x.2 wr hR hlk
        generalize rOpaque 256 x.2 = v at *
        have HG := Lib.hid hG
        have HT := Lib.hid (HS.out.trans hT)
        have HN := Lib.hid (HN1.out (by decide))
        clear hG hT HN1 HN2 HN3 HS
        go_wp2_with fail
        refine HG.out.mono ?_
        rintro e w4 ⟨rfl, hQ⟩
        have hC1 := hQ.keeps hC hgb
        have hf := hC1.frozen
        have hc1 := hC1.cell
        have hA2 : Blk (w4.setCell ⟨w.heap.size + 1 + 1, 8, none⟩ (.string (bs v.1))) (w.heap.size + 1 + 1) 36 ({ x.1 with data := v.1 } : Call).vals := hC1.set_ 8 (.string (bs v.1))
        have hR2 : RdF (w4.setCell ⟨w.heap.size + 1 + 1, 8, none⟩ (.string (bs v.1))) (w.heap.size + 1) v.2 := hQ.1.touch ((Touch.refl (fun k => k = w.heap.size + 1 + 1) w4).setCell_ (g := w.heap.size + 1 + 1) (o := 8) (.inl rfl) (.string (bs v.1))) (by omega)
        have hq2 : Blk (w4.setCell ⟨w.heap.size + 1 + 1, 8, none⟩ (.string (bs v.1))) w.heap.size 36 callZ.vals := (hQ.keeps hq hgq).far (p := ⟨w.heap.size + 1 + 1, 8, none⟩) (by show w.heap.size ≠ w.heap.size + 1 + 1; omega) _
        have hB2 : Below w.heap.size w (w4.setCell ⟨w.heap.size + 1 + 1, 8, none⟩ (.string (bs v.1))) := (hB.trans (hQ.below (by omega) hB.size)).setCell (p := ⟨w.heap.size + 1 + 1, 8, none⟩) (by show w.heap.size ≤ w.heap.size + 1 + 1; omega) _
        have HH := Lib.hid (And.intro hR2 (And.intro hA2 (And.intro hq2 hB2)))
        clear hR2 hA2 hq2 hB2 hQ hR hC hq hB hC1 HG
        go_wp2
        go_roundw
        case rel => exact ⟨k + 1, by omega, by go_num, HN.out, by rw [HT.out]; exact HH.out.1, by rw [HT.out]; exact HH.out.2.1, HH.out.2.2.1, HH.out.2.2.2⟩
        case measure => simp [intOf]; omega
      · have hT : cTk 111 x.1 x.2 = ({ x.1 with offset := (rU64 x.2).1 }, (rU64 x.2).2) := rfl
        have hG := refU8_any (w.heap.size + 1) x.2 wr hR
        generalize rU64 x.2 = v at *
        have HG := Lib.hid hG
        have HT := Lib.hid (HS.out.trans hT)
        have HN := Lib.hid (HN1.out (by decide))
        clear hG hT HN1 HN2 HN3 HS
        go_wp2_with fail
        refine HG.out.mono ?_
        rintro e w4 ⟨rfl, hQ⟩
        have hC1 := hQ.keeps hC hgb
        have hf := hC1.frozen
        have hc1 := hC1.cell
        have hA2 : Blk (w4.setCell ⟨w.heap.size + 1 + 1, 5, none⟩ (.int .i64 v.1)) (w.heap.size + 1 + 1) 36 ({ x.1 with offset := v.1 } : Call).vals := hC1.set_ 5 (.int .i64 v.1)
        have hR2 : RdF (w4.setCell ⟨w.heap.size + 1 + 1, 5, none⟩ (.int .i64 v.1)) (w.heap.size + 1) v.2 := hQ.1.touch ((Touch.refl (fun k => k = w.heap.size + 1 + 1) w4).setCell_ (g := w.heap.size + 1 + 1) (o := 5) (.inl rfl) (.int .i64 v.1)) (by omega)
        have hq2 : Blk (w4.setCell ⟨w.heap.size + 1 + 1, 5, none⟩ (.int .i64 v.1)) w.heap.size 36 callZ.vals := (hQ.keeps hq hgq).far (p := ⟨w.heap.size + 1 + 1, 5, none⟩) (by show w.heap.size ≠ w.heap.size + 1 + 1; omega) _
        have hB2 : Below w.heap.size w (w4.setCell ⟨w.heap.size + 1 + 1, 5, none⟩ (.int .i64 v.1)) := (hB.trans (hQ.below (by omega) hB.size)).setCell (p := ⟨w.heap.size + 1 + 1, 5, none⟩) (by show w.heap.size ≤ w.heap.size + 1 + 1; omega) _
        have HH := Lib.hid (And.intro hR2 (And.intro hA2 (And.intro hq2 hB2)))
        clear hR2 hA2 hq2 hB2 hQ hR hC hq hB hC1 HG
        go_wp2
        go_roundw
        case rel => exact ⟨k + 1, by omega, by go_num, HN.out, by rw [HT.out]; exact HH.out.1, by rw [HT.out]; exact HH.out.2.1, HH.out.2.2.1, HH.out.2.2.2⟩
        case measure => simp [intOf]; omega
      · have hT : cTk 107 x.1 x.2 = ({ x.1 with cookie := (rU64 x.2).1 }, (rU64 x.2).2) := rfl
        have hG := refU8_any (w.heap.size + 1) x.2 wr hR
        generalize rU64 x.2 = v at *
        have HG := Lib.hid hG
        have HT := Lib.hid (HS.out.trans hT)
        have HN := Lib.hid (HN1.out (by decide))
        clear hG hT HN1 HN2 HN3 HS
        go_wp2_with fail
        refine HG.out.mono ?_
        rintro e w4 ⟨rfl, hQ⟩
        have hC1 := hQ.keeps hC hgb
        have hf := hC1.frozen
        have hc1 := hC1.cell
        have hA2 : Blk (w4.setCell ⟨w.heap.size + 1 + 1, 21, none⟩ (.int .i64 v.1)) (w.heap.size + 1 + 1) 36 ({ x.1 with cookie := v.1 } : Call).vals := hC1.set_ 21 (.int .i64 v.1)
        have hR2 : RdF (w4.setCell ⟨w.heap.size + 1 + 1, 21, none⟩ (.int .i64 v.1)) (w.heap.size + 1) v.2 := hQ.1.touch ((Touch.refl (fun k => k = w.heap.size + 1 + 1) w4).setCell_ (g := w.heap.size + 1 + 1) (o := 21) (.inl rfl) (.int .i64 v.1)) (by omega)
        have hq2 : Blk (w4.setCell ⟨w.heap.size + 1 + 1, 21, none⟩ (.int .i64 v.1)) w.heap.size 36 callZ.vals := (hQ.keeps hq hgq).far (p := ⟨w.heap.size + 1 + 1, 21, none⟩) (by show w.heap.size ≠ w.heap.size + 1 + 1; omega) _
        have hB2 : Below w.heap.size w (w4.setCell ⟨w.heap.size + 1 + 1, 21, none⟩ (.int .i64 v.1)) := (hB.trans (hQ.below (by omega) hB.size)).setCell (p := ⟨w.heap.size + 1 + 1, 21, none⟩) (by show w.heap.size ≤ w.heap.size + 1 + 1; omega) _
        have HH := Lib.hid (And.intro hR2 (And.intro hA2 (And.intro hq2 hB2)))
        clear hR2 hA2 hq2 hB2 hQ hR hC hq hB hC1 HG
        go_wp2
        go_roundw
        case rel => exact ⟨k + 1, by omega, by go_num, HN.out, by rw [HT.out]; exact HH.out.1, by rw [HT.out]; exact HH.out.2.1, HH.out.2.2.1, HH.out.2.2.2⟩
        case measure => simp [intOf]; omega
      · have hT : cTk 118 x.1 x.2 = ({ x.1 with verf := (rU64 x.2).1 }, (rU64 x.2).2) := rfl
        have hG := refU8_any (w.heap.size + 1) x.2 wr hR
        generalize rU64 x.2 = v at *
        have HG := Lib.hid hG
        have HT := Lib.hid (HS.out.trans hT)
        have HN := Lib.hid (HN1.out (by decide))
        clear hG hT HN1 HN2 HN3 HS
        go_wp2_with fail
        refine HG.out.mono ?_
        rintro e w4 ⟨rfl, hQ⟩
        have hC1 := hQ.keeps hC hgb
        have hf := hC1.frozen
        have hc1 := hC1.cell
        have hA2 : Blk (w4.setCell ⟨w.heap.size + 1 + 1, 22, none⟩ (.int .i64 v.1)) (w.heap.size + 1 + 1) 36 ({ x.1 with verf := v.1 } : Call).vals := hC1.set_ 22 (.int .i64 v.1)
        have hR2 : RdF (w4.setCell ⟨w.heap.size + 1 + 1, 22, none⟩ (.int .i64 v.1)) (w.heap.size + 1) v.2 := hQ.1.touch ((Touch.refl (fun k => k = w.heap.size + 1 + 1) w4).setCell_ (g := w.heap.size + 1 + 1) (o := 22) (.inl rfl) (.int .i64 v.1)) (by omega)
        have hq2 : Blk (w4.setCell ⟨w.heap.size + 1 + 1, 22, none⟩ (.int .i64 v.1)) w.heap.size 36 callZ.vals := (hQ.keeps hq hgq).far (p := ⟨w.heap.size + 1 + 1, 22, none⟩) (by show w.heap.size ≠ w.heap.size + 1 + 1; omega) _
        have hB2 : Below w.heap.size w (w4.setCell ⟨w.heap.size + 1 + 1, 22, none⟩ (.int .i64 v.1)) := (hB.trans (hQ.below (by omega) hB.size)).setCell (p := ⟨w.heap.size + 1 + 1, 22, none⟩) (by show w.heap.size ≤ w.heap.size + 1 + 1; omega) _
        have HH := Lib.hid (And.intro hR2 (And.intro hA2 (And.intro hq2 hB2)))
        clear hR2 hA2 hq2 hB2 hQ hR hC hq hB hC1 HG
        go_wp2
        go_roundw
        case rel => exact ⟨k + 1, by omega, by go_num, HN.out, by rw [HT.out]; exact HH.out.1, by rw [HT.out]; exact HH.out.2.1, HH.out.2.2.1, HH.out.2.2.2⟩
        case measure => simp [intOf]; omega
      · have hT : cTk 99 x.1 x.2 = ({ x.1 with count := (rU32 x.2).1 }, (rU32 x.2).2) := rfl
        have hG := refU4_any (w.heap.size + 1) x.2 wr hR
        generalize rU32 x.2 = v at *
        have HG := Lib.hid hG
        have HT := Lib.hid (HS.out.trans hT)
        have HN := Lib.hid (HN1.out (by decide))
        clear hG hT HN1 HN2 HN3 HS
        go_wp2_with fail
        refine HG.out.mono ?_
        rintro e w4 ⟨rfl, hQ⟩
        have hC1 := hQ.keeps hC hgb
        have hf := hC1.frozen
        have hc1 := hC1.cell
        have hA2 : Blk (w4.setCell ⟨w.heap.size + 1 + 1, 6, none⟩ (.int .i64 v.1)) (w.heap.size + 1 + 1) 36 ({ x.1 with count := v.1 } : Call).vals := hC1.set_ 6 (.int .i64 v.1)
        have hR2 : RdF (w4.setCell ⟨w.heap.size + 1 + 1, 6, none⟩ (.int .i64 v.1)) (w.heap.size + 1) v.2 := hQ.1.touch ((Touch.refl (fun k => k = w.heap.size + 1 + 1) w4).setCell_ (g := w.heap.size + 1 + 1) (o := 6) (.inl rfl) (.int .i64 v.1)) (by omega)
        have hq2 : Blk (w4.setCell ⟨w.heap.size + 1 + 1, 6, none⟩ (.int .i64 v.1)) w.heap.size 36 callZ.vals := (hQ.keeps hq hgq).far (p := ⟨w.heap.size + 1 + 1, 6, none⟩) (by show w.heap.size ≠ w.heap.size + 1 + 1; omega) _
        have hB2 : Below w.heap.size w (w4.setCell ⟨w.heap.size + 1 + 1, 6, none⟩ (.int .i64 v.1)) := (hB.trans (hQ.below (by omega) hB.size)).setCell (p := ⟨w.heap.size + 1 + 1, 6, none⟩) (by show w.heap.size ≤ w.heap.size + 1 + 1; omega) _
        have HH := Lib.hid (And.intro hR2 (And.intro hA2 (And.intro hq2 hB2)))
        clear hR2 hA2 hq2 hB2 hQ hR hC hq hB hC1 HG
        go_wp2
        go_roundw
        case rel => exact ⟨k + 1, by omega, by go_num, HN.out, by rw [HT.out]; exact HH.out.1, by rw [HT.out]; exact HH.out.2.1, HH.out.2.2.1, HH.out.2.2.2⟩
        case measure => simp [intOf]; omega
      · have hT : cTk 104 x.1 x.2 = ({ x.1 with how := (rU32 x.2).1 }, (rU32 x.2).2) := rfl
        have hG := refU4_any (w.heap.size + 1) x.2 wr hR
        generalize rU32 x.2 = v at *
        have HG := Lib.hid hG
        have HT := Lib.hid (HS.out.trans hT)
        have HN := Lib.hid (HN1.out (by decide))
        clear hG hT HN1 HN2 HN3 HS
        go_wp2_with fail
        refine HG.out.mono ?_
        rintro e w4 ⟨rfl, hQ⟩
        have hC1 := hQ.keeps hC hgb
        have hf := hC1.frozen
        have hc1 := hC1.cell
        have hA2 : Blk (w4.setCell ⟨w.heap.size + 1 + 1, 7, none⟩ (.int .i64 v.1)) (w.heap.size + 1 + 1) 36 ({ x.1 with how := v.1 } : Call).vals := hC1.set_ 7 (.int .i64 v.1)
        have hR2 : RdF (w4.setCell ⟨w.heap.size + 1 + 1, 7, none⟩ (.int .i64 v.1)) (w.heap.size + 1) v.2 := hQ.1.touch ((Touch.refl (fun k => k = w.heap.size + 1 + 1) w4).setCell_ (g := w.heap.size + 1 + 1) (o := 7) (.inl rfl) (.int .i64 v.1)) (by omega)
        have hq2 : Blk (w4.setCell ⟨w.heap.size + 1 + 1, 7, none⟩ (.int .i64 v.1)) w.heap.size 36 callZ.vals := (hQ.keeps hq hgq).far (p := ⟨w.heap.size + 1 + 1, 7, none⟩) (by show w.heap.size ≠ w.heap.size + 1 + 1; omega) _
        have hB2 : Below w.heap.size w (w4.setCell ⟨w.heap.size + 1 + 1, 7, none⟩ (.int .i64 v.1)) := (hB.trans (hQ.below (by omega) hB.size)).setCell (p := ⟨w.heap.size + 1 + 1, 7, none⟩) (by show w.heap.size ≤ w.heap.size + 1 + 1; omega) _
        have HH := Lib.hid (And.intro hR2 (And.intro hA2 (And.intro hq2 hB2)))
        clear hR2 hA2 hq2 hB2 hQ hR hC hq hB hC1 HG
        go_wp2
        go_roundw
        case rel => exact ⟨k + 1, by omega, by go_num, HN.out, by rw [HT.out]; exact HH.out.1, by rw [HT.out]; exact HH.out.2.1, HH.out.2.2.1, HH.out.2.2.2⟩
        case measure => simp [intOf]; omega
      · have hT : cTk 115 x.1 x.2 = ({ x.1 with set := (gotR Sett.ok settZ (rSett x.2)).1 }, (rSett x.2).2) := rfl
        have hO : cTkOk 115 x.2 = ((gotR Sett.ok settZ (rSett x.2)).2 == 0) := rfl
        have hG := refGetSett_any (w.heap.size + 1) x.2 wr hR
        rw [hO] at HN2 HN3
        generalize gotR Sett.ok settZ (rSett x.2) = v at *
        generalize (rSett x.2).2 = r2 at *
        have HG := Lib.hid hG
        have HT := Lib.hid (HS.out.trans hT)
        clear hG hT hO HN1 HS
        go_wp2_with fail
        refine HG.out.mono ?_
        rintro e w4 ⟨rfl, hQ⟩
        unfold gotV
        have hX := Blk.new w4 34 v.1.vals
        have hX4 := (Below.refl w4.heap.size w4).alloc (Nat.le_refl _) (.cells v.1.vals.toArray 34)
        have hC1 : Blk (w4.alloc (.cells v.1.vals.toArray 34)) (w.heap.size + 1 + 1) 36 x.1.vals := (hQ.keeps hC hgb).alloc _
        have hq1 : Blk (w4.alloc (.cells v.1.vals.toArray 34)) w.heap.size 36 callZ.vals := (hQ.keeps hq hgq).alloc _
        have hr : rowOf (w4.alloc (.cells v.1.vals.toArray 34)) w4.heap.size 0 10 = some v.1.vals.toArray := hX.row 0 10 (by simp [Sett.len])
        have hB1 : Below w.heap.size w (w4.alloc (.cells v.1.vals.toArray 34)) := (hB.trans (hQ.below (by omega) hB.size)).alloc (Nat.le_trans hB.size hQ.2.size) _
        have hR1 := hQ.1.stays hX4
        clear hX hX4 hQ hR hC hq hB HG
        by_cases hok : v.2 = 0
        · have HN := Lib.hid (HN2.out (by rw [hok]; rfl))
          have hA2 : Blk ((w4.alloc (.cells v.1.vals.toArray 34)).setCells (w.heap.size + 1 + 1) 9 v.1.vals) (w.heap.size + 1 + 1) 36 ({ x.1 with set := v.1 } : Call).vals := hC1.sets v.1.vals _ 9
          have hR2 : RdF ((w4.alloc (.cells v.1.vals.toArray 34)).setCells (w.heap.size + 1 + 1) 9 v.1.vals) (w.heap.size + 1) r2 := hR1.touch (Touch.setCells (F := fun k => k = w.heap.size + 1 + 1) (g := w.heap.size + 1 + 1) (.inl rfl) v.1.vals 9 _ (Touch.refl _ _)) (by omega)
          have hq2 : Blk ((w4.alloc (.cells v.1.vals.toArray 34)).setCells (w.heap.size + 1 + 1) 9 v.1.vals) w.heap.size 36 callZ.vals := Blk.farCells (by omega) v.1.vals 9 _ hq1
          have hB2 : Below w.heap.size w ((w4.alloc (.cells v.1.vals.toArray 34)).setCells (w.heap.size + 1 + 1) 9 v.1.vals) := hB1.trans ((Touch.setCells (F := fun k => k = w.heap.size + 1 + 1) (g := w.heap.size + 1 + 1) (.inl rfl) v.1.vals 9 _ (Touch.refl _ _)).below (fun k _ hk => by omega) hB1.size)
          have HH := Lib.hid (And.intro hR2 (And.intro hA2 (And.intro hq2 hB2)))
          clear hR2 hA2 hq2 hB2 hR1 hq1 hB1 HN2 HN3
          obtain ⟨w5, hw5⟩ : ∃ w5, w5 = ((w4.alloc (.cells v.1.vals.toArray 34)).setCells (w.heap.size + 1 + 1) 9 v.1.vals) := ⟨_, rfl⟩
          rw [← hw5] at HH
          have HW5 := Lib.hid hw5
          clear hw5
          rw [hok]
          have tok : True := trivial
          go_wp2_with (first
            | (clear tok; refine wpList_new_struct (by rfl) (by rfl) 34 (by rfl) _ _ (by rfl) v.1.vals infoSettM (by rfl) (by rfl) (Sett.one _) (by rfl) (by rfl) ?_)
            | (refine wpList_store_part (by rfl) 34 _ _ (by rfl) (w.heap.size + 1 + 1) 9 v.1.vals _ hC1 (by simp [Sett.len, Call.len]) (by rfl) (by rfl) (by kernel_rfl) (Sett.one _) ?_; rw [← HW5.out])
            | fail)
          go_roundw
          case rel => exact ⟨k + 1, by omega, by go_num, HN.out, by rw [HT.out]; exact HH.out.1, by rw [HT.out]; exact HH.out.2.1, HH.out.2.2.1, HH.out.2.2.2⟩
          case measure => simp [intOf]; omega
        · have hok2 : (v.2 != 0) = true := by simpa using hok
          have HV := Lib.hid (HN3.out (beq_false_of_ne hok) trivial)
          have HB1 := Lib.hid hB1
          clear HN2 HN3 hR1 hB1 hC1 hr hok
          have tok : True := trivial
          go_wp2_with (first
            | (clear tok; refine wpList_new_struct (by rfl) (by rfl) 34 (by rfl) _ _ (by rfl) v.1.vals infoSettM (by rfl) (by rfl) (Sett.one _) (by rfl) (by rfl) ?_)
            | (refine wpList_store_whole (by rfl) 36 _ _ (by rfl) w.heap.size callZ.vals _ hq1 (by rfl) (by rfl) (by rfl) (by kernel_rfl) (Call.one _) ?_)
            | fail)
          exact ret_cells2 w.heap.size 0 callZ.vals (.bool false) Tryz.results26 Tryz.underlying36 rfl (by kernel_rfl) rfl rfl (hq1.whole (by rfl)).range rfl ⟨by rw [HV.out], Below.setWhole HB1.out (Nat.le_refl _) _⟩
      · have hT : cTk 103 x.1 x.2 = ({ x.1 with guard := optOf (rOpt x.2).1 }, (rOpt x.2).2) := rfl
        have hG := refOptR_any (w.heap.size + 1) x.2 wr hR
        generalize rOpt x.2 = v at *
        have HG := Lib.hid hG
        have HT := Lib.hid (HS.out.trans hT)
        have HN := Lib.hid (HN1.out (by decide))
        clear hG hT HN1 HN2 HN3 HS
        go_wp2_with fail
        refine HG.out.mono ?_
        rintro e w4 ⟨rfl, hQ⟩
        have hC1 := hQ.keeps hC hgb
        have hq1 := hQ.keeps hq hgq
        have hB1 := hB.trans (hQ.below (by omega) hB.size)
        have hA2 : Blk (w4.setCells (w.heap.size + 1 + 1) 19 (optV v.1)) (w.heap.size + 1 + 1) 36 ({ x.1 with guard := optOf v.1 } : Call).vals := hC1.sets (optV v.1) _ 19
        have hR2 : RdF (w4.setCells (w.heap.size + 1 + 1) 19 (optV v.1)) (w.heap.size + 1) v.2 := hQ.1.touch (Touch.setCells (F := fun k => k = w.heap.size + 1 + 1) (g := w.heap.size + 1 + 1) (.inl rfl) (optV v.1) 19 _ (Touch.refl _ _)) (by omega)
        have hq2 : Blk (w4.setCells (w.heap.size + 1 + 1) 19 (optV v.1)) w.heap.size 36 callZ.vals := Blk.farCells (by omega) (optV v.1) 19 _ hq1
        have hB2 : Below w.heap.size w (w4.setCells (w.heap.size + 1 + 1) 19 (optV v.1)) := hB1.trans ((Touch.setCells (F := fun k => k = w.heap.size + 1 + 1) (g := w.heap.size + 1 + 1) (.inl rfl) (optV v.1) 19 _ (Touch.refl _ _)).below (fun k _ hk => by omega) hB1.size)
        have HH := Lib.hid (And.intro hR2 (And.intro hA2 (And.intro hq2 hB2)))
        clear hR2 hA2 hq2 hB2 hQ hR hC hq hB hq1 hB1 HG
        obtain ⟨w5, hw5⟩ : ∃ w5, w5 = (w4.setCells (w.heap.size + 1 + 1) 19 (optV v.1)) := ⟨_, rfl⟩
        rw [← hw5] at HH
        have HW5 := Lib.hid hw5
        clear hw5
        go_wp2_with (first | (refine wpList_store_part (by rfl) 32 _ _ (by rfl) (w.heap.size + 1 + 1) 19 (optV v.1) _ hC1 (by simp [optV, Call.len]) (by rfl) (by rfl) (by kernel_rfl) (optV_one _) ?_; rw [← HW5.out]) | fail)
        go_roundw
        case rel => exact ⟨k + 1, by omega, by go_num, HN.out, by rw [HT.out]; exact HH.out.1, by rw [HT.out]; exact HH.out.2.1, HH.out.2.2.1, HH.out.2.2.2⟩
        case measure => simp [intOf]; omega
    · obtain rfl : k = l.length := by omega
      have hE := ReadsF.err hR
      have rC : rowOf wr (w.heap.size + 1 + 1) 0 24 = some (cSt l z ⟨s, 0⟩ l.length).1.vals.toArray := hC.row 0 24 (by simp [Call.len])
      have HNO := Lib.hid (fun j (hj : j < l.length) => hno j hj hj)
      generalize cSt l z ⟨s, 0⟩ l.length = x at *
      have HR := Lib.hid hR
      have hltC := hC.lt
      clear hno hR hlet
      by_cases he : x.2.e = 0
      · rw [he] at hE
        by_cases hz : 0 < rLeft x.2
        · have HV := Lib.hid (HD.out.trans (if_neg fun h => h.2.2 hz))
          clear HD HNO hC
          go_wp2_with fail
          refine (refLeft_any (w.heap.size + 1) x.2 _ HR.out).mono ?_
          rintro e w4 ⟨rfl, hb4⟩
          have hq4 := hq.stays hb4
          have HB4 := Lib.hid (below_then hB hb4)
          clear hq hB hb4 rC
          go_wp2_with (first | (refine wpList_store_whole (by rfl) 36 _ _ (by rfl) w.heap.size callZ.vals _ hq4 (by rfl) (by rfl) (by rfl) (by kernel_rfl) (Call.one _) ?_) | fail)
          exact ret_cells2 w.heap.size 0 callZ.vals (.bool false) Tryz.results26 Tryz.underlying36 rfl (by kernel_rfl) rfl rfl (hq4.whole (by rfl)).range rfl ⟨by rw [HV.out], Below.setWhole HB4.out (Nat.le_refl _) _⟩
        · have HV := Lib.hid (HD.out.trans (if_pos ⟨HNO.out, he, hz⟩))
          clear HD HNO
          go_wp2_with fail
          refine (refLeft_any (w.heap.size + 1) x.2 _ HR.out).mono ?_
          rintro e w4 ⟨rfl, hb4⟩
          have hq4 := hq.stays hb4
          have rC4 : rowOf w4 (w.heap.size + 1 + 1) 0 24 = some x.1.vals.toArray := (hC.stays hb4).row 0 24 (by simp [Call.len])
          have HB4 := Lib.hid (below_then hB hb4)
          clear hq hB hb4 rC hC
          go_wp2_with (first | (refine wpList_store_whole (by rfl) 36 _ _ (by rfl) w.heap.size x.1.vals _ hq4 (by rfl) (by rfl) (by rfl) (by kernel_rfl) (Call.one _) ?_) | fail)
          exact ret_cells2 w.heap.size 0 x.1.vals (.bool true) Tryz.results26 Tryz.underlying36 rfl (by kernel_rfl) rfl rfl (hq4.whole (by rfl)).range rfl ⟨by rw [HV.out], Below.setWhole HB4.out (Nat.le_refl _) _⟩
      · have he2 : (x.2.e != 0) = true := by simpa using he
        have HV := Lib.hid (HD.out.trans (if_neg fun h => he h.2.1))
        have HB4 := Lib.hid hB
        clear HD HNO hC hB rC
        go_wp2_with (first | (refine wpList_store_whole (by rfl) 36 _ _ (by rfl) w.heap.size callZ.vals _ hq (by rfl) (by rfl) (by rfl) (by kernel_rfl) (Call.one _) ?_) | fail)
        exact ret_cells2 w.heap.size 0 callZ.vals (.bool false) Tryz.results26 Tryz.underlying36 rfl (by kernel_rfl) rfl rfl (hq.whole (by rfl)).range rfl ⟨by rw [HV.out], Below.setWhole HB4.out (Nat.le_refl _) _⟩
end Go.Proofs.YtfjflkmhhbhceaaGreatDoor
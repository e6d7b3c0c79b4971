/-
  Layer 3, walks: the law FhParses. Condition: a machine text; what is laid.
-/
import Derived.Test.YtlblenojhfeboaaDoorFhLawB
namespace Go.Proofs.YtlblenojhfeboaaDoor
open Go.RowKit
attribute [local go_sem ↓] Go.wp_at_zero Go.wp_at_succ
attribute [local go_sem] rowAt_ptr rowOf_drew rowOf_drewN rowOf_alloc_past rowOf_new
attribute [local go_sem] Parts.at0 Parts.lat0 Parts.at1 Parts.lat1 Parts.at2 Parts.lat2 Parts.sub0_3 Parts.lsub0_3 Parts.len guardParts

attribute [local go_sem ↓] ldParts eqlParts eqlPartsZ

set_option maxRecDepth 20000 in
set_option maxHeartbeats 1600000 in
theorem fhParsesLaw_any (s : List UInt8) (w : World) (hW : FhW w) :
    Calls Tryd.prog 3 #[.string (bs s)] w fun e w' => e = .returned (.bool true) ∧ Below w.heap.size w w' := by
  have hsz := bs_size s
  have HW := Lib.hid hW
  by_cases h200 : 200 < s.length
  · have hg : (200 : Int) < (s.length : Int) := by omega
    have K := Lib.hid (known3_any w hW.1 hW.2)
    clear hW h200
    go_enter Tryd.func3, Tryd.ntmps3
    go_wp2_with fail
    refine K.out.mono ?_
    rintro e w1 ⟨rfl, hb1⟩
    go_wp2
    go_ret
    exact ⟨rfl, hb1⟩
  have hg : ¬ (200 : Int) < (s.length : Int) := by omega
  have K1 := fhParse_any s w (by omega) hW.1
  have K2 := fun W => refParse3_any s W (by omega)
  have KT := Lib.hid (fun (W : World) (hs : FhW W) => fhText_any s W (by omega) hs.1 hs.2)
  have KN := Lib.hid (fun (W : World) (hs : FhW W) => known3_any W hs.1 hs.2)
  clear hW h200
  cases hgd : fhGood s with
  | false =>
    have hP : fhParse s = (parts0, 14) := by unfold fhParse; rw [hgd]; rfl
    have hT : fhText s = [] := by unfold fhText; rw [hgd]; rfl
    rw [hP] at K1
    simp only [hP] at K2
    rw [hT] at KT
    have K1 := Lib.hid K1
    have K2 := Lib.hid K2
    have hdz : decide (parts0 = ⟨0, 0, 0⟩) = true := by decide
    clear hP hT hgd
    go_enter Tryd.func3, Tryd.ntmps3
    go_wp2_with fail
    refine K1.out.mono ?_
    rintro e w1 ⟨rfl, hb1⟩
    have hP := Blk.new w1 24 parts0.vals
    have hrow := hP.row 0 3 (by simp [Parts.len])
    rw [show (parts0.vals.drop 0).take 3 = parts0.vals from rfl] at hrow
    have hB2 : Below w.heap.size w (w1.alloc (.cells parts0.vals.toArray 24)) := hb1.alloc hb1.size _
    have HB2 := Lib.hid hB2
    have HLT := Lib.hid hP.lt
    clear hb1 hP hB2 K1
    go_upto_region 4 with (first | (refine wpList_new_struct (by rfl) (by rfl) 24 (by rfl) _ _ (by rfl) parts0.vals infoParts (by rfl) (by rfl) (Parts.one _) (by rfl) (by rfl) ?_) | fail)
    obtain ⟨b1, hb1⟩ : ∃ b1, b1 = w1.heap.size := ⟨_, rfl⟩
    generalize w1.alloc (.cells parts0.vals.toArray 24) = w2 at *
    rw [← hb1] at hrow HLT ⊢
    clear hb1
    go_wp2_with fail
    refine (K2.out _).mono ?_
    rintro e w3 ⟨rfl, hb3⟩
    have hB4 : Below w2.heap.size w2 (w3.alloc (.cells parts0.vals.toArray 24)) := hb3.alloc hb3.size _
    have hrow4 := rowOf_below hB4 HLT.out 0 3
    rw [hrow] at hrow4
    have HB4 := Lib.hid (below_then HB2.out hB4)
    clear hb3 hB4 hrow K2
    go_upto_region 5 with (first | (refine wpList_new_struct (by rfl) (by rfl) 24 (by rfl) _ _ (by rfl) parts0.vals infoParts (by rfl) (by rfl) (Parts.one _) (by rfl) (by rfl) ?_) | fail)
    generalize w3.alloc (.cells parts0.vals.toArray 24) = w4 at *
    go_wp2_with fail
    refine (KT.out _ (HW.out.below HB4.out)).mono ?_
    rintro e w5 ⟨rfl, hb5⟩
    have hb5 := below_then HB4.out hb5
    go_wp2_with fail
    refine (KN.out _ (HW.out.below hb5)).mono ?_
    rintro e w6 ⟨rfl, hb6⟩
    go_wp2
    go_ret
    exact ⟨rfl, below_then hb5 hb6⟩
  | true =>
    have hP : fhParse s = (fhP s, 0) := by unfold fhParse; rw [hgd]; rfl
    obtain ⟨g1, g2, g3⟩ := good_parts hgd
    have hT : fhText s = fhTx (fhP s) := by unfold fhText; rw [hgd]; rfl
    have hM : fhMake (fhP s) = s := by rw [make_ok g1, g2]
    obtain ⟨k, a, b, hp, hk, ha, hb⟩ := good_nat hgd
    have hmach : (fhP s).mach := by rw [hp]; exact ⟨by simp only; omega, by simp only; omega⟩
    have KM := fun W => fhMake_any (fhP s) W hmach
    have KX := fun W => refText3_any k a b W hk (by omega) hb
    rw [hM] at KM
    rw [← hp] at KX
    rw [hP] at K1
    simp only [hP] at K2
    rw [hT] at KT
    generalize fhTx (fhP s) = X at *
    generalize fhP s = p at *
    have K1 := Lib.hid K1
    have K2 := Lib.hid K2
    have KM := Lib.hid KM
    have KX := Lib.hid KX
    clear hP hT hgd g1 g2 g3 hM hp hk ha hb hmach
    go_enter Tryd.func3, Tryd.ntmps3
    go_wp2_with fail
    refine K1.out.mono ?_
    rintro e w1 ⟨rfl, hb1⟩
    have hP := Blk.new w1 24 p.vals
    have hrow := hP.row 0 3 (by simp [Parts.len])
    rw [show (p.vals.drop 0).take 3 = p.vals from rfl] at hrow
    have hB2 : Below w.heap.size w (w1.alloc (.cells p.vals.toArray 24)) := hb1.alloc hb1.size _
    have HB2 := Lib.hid hB2
    have HLT := Lib.hid hP.lt
    clear hb1 hP hB2 K1
    go_upto_region 4 with (first | (refine wpList_new_struct (by rfl) (by rfl) 24 (by rfl) _ _ (by rfl) p.vals infoParts (by rfl) (by rfl) (Parts.one _) (by rfl) (by rfl) ?_) | fail)
    obtain ⟨b1, hb1⟩ : ∃ b1, b1 = w1.heap.size := ⟨_, rfl⟩
    generalize w1.alloc (.cells p.vals.toArray 24) = w2 at *
    rw [← hb1] at hrow HLT ⊢
    clear hb1
    go_wp2_with fail
    refine (K2.out _).mono ?_
    rintro e w3 ⟨rfl, hb3⟩
    have hQ := Blk.new w3 24 p.vals
    have hrow5 := hQ.row 0 3 (by simp [Parts.len])
    rw [show (p.vals.drop 0).take 3 = p.vals from rfl] at hrow5
    have l5 := hQ.lt
    have hB4 : Below w2.heap.size w2 (w3.alloc (.cells p.vals.toArray 24)) := hb3.alloc hb3.size _
    have hrow4 := rowOf_below hB4 HLT.out 0 3
    rw [hrow] at hrow4
    have l4 := Nat.lt_of_lt_of_le HLT.out hB4.size
    have HB4 := Lib.hid (below_then HB2.out hB4)
    clear hb3 hB4 hrow K2 hQ
    go_upto_region 5 with (first | (refine wpList_new_struct (by rfl) (by rfl) 24 (by rfl) _ _ (by rfl) p.vals infoParts (by rfl) (by rfl) (Parts.one _) (by rfl) (by rfl) ?_) | fail)
    obtain ⟨b2, hb2⟩ : ∃ b2, b2 = w3.heap.size := ⟨_, rfl⟩
    generalize w3.alloc (.cells p.vals.toArray 24) = w4 at *
    rw [← hb2] at hrow5 l5 ⊢
    have HWS := Lib.hid (fun (W : World) (h : Stb w4 W) => HW.out.below (below_then HB4.out h.2.2))
    clear hb2
    go_upto_region 7 with fail
    go_region_held3 (fun W => Stb w4 W) (first | assumption | exact Stb.start | (exact Stb.call (by first | assumption | exact Stb.start) hb1)) (first
      | (go_at_call_of 15 (p.vals.toArray); refine (KM.out _).mono ?_; rintro e w5 ⟨rfl, hb1⟩)
      | (go_at_call_of 14 (bs s); refine (KT.out _ (HWS.out _ (by first | assumption | exact Stb.start))).mono ?_; rintro e w5 ⟨rfl, hb1⟩)
      | (go_at_call_of 16 (p.vals.toArray); refine (KX.out _).mono ?_; rintro e w5 ⟨rfl, hb1⟩)
      | (go_at_call 11; refine (KN.out _ (HWS.out _ (by first | assumption | exact Stb.start))).mono ?_; rintro e w5 ⟨rfl, hb1⟩))
    all_goals
      rename Stb w4 _ => hse
      go_wp2
      go_ret
      exact ⟨rfl, below_then HB4.out hse.2.2⟩
end Go.Proofs.YtlblenojhfeboaaDoor

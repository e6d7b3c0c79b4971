/-
  Layer 3, walks: the laws FhReads, FhMakes. Condition: machine numbers and texts; what is laid; the library's own number is some number.
-/
import Derived.Test.YtlblenojhfeboaaDoorFhLawC
import Derived.Test.YtlblenojhfeboaaDoorFhWalkJ
namespace Go.Proofs.YtlblenojhfeboaaDoor
open Go.RowKit
attribute [local go_sem ↓] Go.wp_at_zero Go.wp_at_succ
attribute [local go_sem] rowAt_ptr rowOf_drew rowOf_drewN rowOf_alloc_past rowOf_new
attribute [local go_sem] Parts.at0 Parts.lat0 Parts.at1 Parts.lat1 Parts.at2 Parts.lat2 Parts.sub0_3 Parts.lsub0_3 Parts.len guardParts

attribute [local go_sem ↓] ldParts eqlParts eqlPartsZ

set_option maxRecDepth 20000 in
set_option maxHeartbeats 1600000 in
theorem fhReadsLaw_any (t : List UInt8) (w : World) (hW : FhW w) (hm : MxLen3 w) :
    Calls Tryd.prog 7 #[.string (bs t)] w fun e w' => e = .returned (.bool true) ∧ Below w.heap.size w w' := by
  have hsz := bs_size t
  have HW := Lib.hid hW
  by_cases h200 : 200 < t.length
  · have hg : (200 : Int) < (t.length : Int) := by omega
    have K := Lib.hid (known3_any w hW.1 hW.2)
    clear hW h200 hm
    go_enter Tryd.func7, Tryd.ntmps7
    go_wp2_with fail
    refine K.out.mono ?_
    rintro e w1 ⟨rfl, hb1⟩
    go_wp2
    go_ret
    exact ⟨rfl, hb1⟩
  have hg : ¬ (200 : Int) < (t.length : Int) := by omega
  have K1 := Lib.hid (fhRead_any t w (by omega) hW hm)
  have KN := Lib.hid (fun (W : World) (hs : FhW W) => known3_any W hs.1 hs.2)
  clear hW hm h200
  go_enter Tryd.func7, Tryd.ntmps7
  go_wp2_with fail
  refine K1.out.mono ?_
  rintro e w1 ⟨s, n, rfl, hR, hb1⟩
  have HB1 := Lib.hid hb1
  clear hb1 K1
  rcases hR with ⟨rfl, rfl, _⟩ | ⟨rfl, hgd, hT⟩
  · go_wp2_with fail
    refine (KN.out _ (HW.out.below HB1.out)).mono ?_
    rintro e w2 ⟨rfl, hb2⟩
    go_wp2
    go_ret
    exact ⟨rfl, below_then HB1.out hb2⟩
  · have hsl : s.length = 16 := ((fhGood_iff s).1 hgd).1
    have K2 := refParse3_any s w1 (by omega)
    have hP : fhParse s = (fhP s, 0) := by unfold fhParse; rw [hgd]; rfl
    have hX : fhTx (fhP s) = t := by rw [← hT]; unfold fhText; rw [hgd]; rfl
    obtain ⟨k, a, b, hp, hk, ha, hb⟩ := good_nat hgd
    have KX := fun W => refText3_any k a b W hk (by omega) hb
    rw [← hp, hX] at KX
    rw [hP] at K2
    generalize fhP s = p at *
    have K2 := Lib.hid K2
    have KX := Lib.hid KX
    clear hP hgd hT hX hp hk ha hb hsl
    go_wp2_with fail
    refine K2.out.mono ?_
    rintro e w2 ⟨rfl, hb2⟩
    have hQ := Blk.new w2 24 p.vals
    have hrow := hQ.row 0 3 (by simp [Parts.len])
    rw [show (p.vals.drop 0).take 3 = p.vals from rfl] at hrow
    have hB3 : Below w.heap.size w (w2.alloc (.cells p.vals.toArray 24)) := below_then HB1.out (hb2.alloc hb2.size _)
    have HB3 := Lib.hid hB3
    clear hb2 hQ hB3 K2
    go_upto_region 7 with (first | (refine wpList_new_struct (by rfl) (by rfl) 24 (by rfl) _ _ (by rfl) p.vals infoParts (by rfl) (by rfl) (Parts.one _) (by rfl) (by rfl) ?_) | fail)
    generalize w2.alloc (.cells p.vals.toArray 24) = w3 at *
    go_wp2_with fail
    refine (KX.out _).mono ?_
    rintro e w4 ⟨rfl, hb4⟩
    have hb4 := below_then HB3.out hb4
    go_wp2_with fail
    refine (KN.out _ (HW.out.below hb4)).mono ?_
    rintro e w5 ⟨rfl, hb5⟩
    go_wp2
    go_ret
    exact ⟨rfl, below_then hb4 hb5⟩
end Go.Proofs.YtlblenojhfeboaaDoor

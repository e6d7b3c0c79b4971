/-
  Layer 3, walks: the law FhMakes. Condition: machine numbers; what is laid; the library's own number is some number.
-/
import Derived.Test.YtlblenojhfeboaaDoorFhLawD
namespace Go.Proofs.YtlblenojhfeboaaDoor
open Go.RowKit
attribute [local go_sem ↓] Go.wp_at_zero Go.wp_at_succ
attribute [local go_sem] rowAt_ptr rowOf_drew rowOf_drewN rowOf_alloc_past rowOf_new
attribute [local go_sem] Parts.at0 Parts.lat0 Parts.at1 Parts.lat1 Parts.at2 Parts.lat2 Parts.sub0_3 Parts.lsub0_3 Parts.len guardParts

attribute [local go_sem ↓] ldParts eqlParts eqlPartsZ

theorem fhTx_len {p : Parts} (h : p.mayF = true) (hb : p.b ≤ 9223372036854775807) : (fhTx p).length ≤ 1000 := by
  obtain ⟨_, ⟨ha0, ha1⟩, hb0⟩ := (Parts.mayF_iff p).1 h
  have h1 := dec_len19 (n := p.a.toNat) (by omega)
  have h2 := dec_len19 (n := p.b.toNat) (by omega)
  unfold fhTx
  simp only [List.length_append, List.length_cons, List.length_nil]
  omega
theorem MxLen3.below {w w' : World} (h : MxLen3 w) (hl : 1 < w.heap.size) (hb : Below w.heap.size w w') : MxLen3 w' := by
  obtain ⟨m, h⟩ := h
  exact ⟨m, (hb.cell hl).trans h⟩
theorem MxLen3.lt {w : World} (h : MxLen3 w) : 1 < w.heap.size := by
  obtain ⟨m, h⟩ := h
  unfold World.cell? at h
  split at h
  · rename_i hb
    exact (Array.getElem?_eq_some_iff.1 hb).1
  all_goals simp at h
set_option maxRecDepth 20000 in
set_option maxHeartbeats 1600000 in
theorem fhMakesLaw_any (p : Parts) (w : World) (hp : p.mach) (hW : FhW w) (hm : MxLen3 w) :
    Calls Tryd.prog 6 #[.agg p.vals.toArray] w fun e w' => e = .returned (.bool true) ∧ Below w.heap.size w w' := by
  obtain ⟨w1, hw1⟩ : ∃ w1, w1 = w.alloc (.cells p.vals.toArray 24) := ⟨_, rfl⟩
  have hB1 : Below w.heap.size w w1 := by rw [hw1]; exact (Below.refl _ _).alloc (Nat.le_refl _) _
  have hP : Blk w1 w.heap.size 24 p.vals := by rw [hw1]; exact Blk.new w 24 p.vals
  have HP := Lib.hid hP
  have hrow := hP.row 0 3 (by simp [Parts.len])
  rw [show (p.vals.drop 0).take 3 = p.vals from rfl] at hrow
  have HB1 := Lib.hid hB1
  have HW1 := Lib.hid (hW.below hB1)
  have HM1 := Lib.hid (hm.below hm.lt hB1)
  have HWD := Lib.hid hw1
  have K1 := Lib.hid (fun W => fhMake_any p W hp)
  have KY := Lib.hid (fun W => refMay3_any p W)
  have KN := Lib.hid (fun (W : World) (hs : FhW W) => known3_any W hs.1 hs.2)
  have hl1 := hP.lt
  clear hB1 hP hw1
  cases hM : p.mayF with
  | false =>
    rw [make_no hM] at K1
    rw [hM] at KY
    clear hM hp hW hm
    go_enter Tryd.func6, Tryd.ntmps6
    go_upto_region 1 with fail
    change Code.wp _ _ _ _ (w.alloc (.cells p.vals.toArray 24))
    rw [← HWD.out]
    go_wp2_with fail
    refine (K1.out _).mono ?_
    rintro e w2 ⟨rfl, hb2⟩
    have hr2 := (rowOf_below hb2 hl1 0 3).trans hrow
    go_wp2_with fail
    refine (KY.out _).mono ?_
    rintro e w3 ⟨rfl, hb3⟩
    have hb3 := below_then hb2 hb3
    go_wp2_with fail
    refine (KN.out _ (HW1.out.below hb3)).mono ?_
    rintro e w4 ⟨rfl, hb4⟩
    go_wp2
    go_ret
    exact ⟨rfl, below_then HB1.out (below_then hb3 hb4)⟩
  | true =>
    obtain ⟨g1, g2⟩ := parts_good hM hp.2
    have hP2 := parse_make hM hp.2
    have hT := fhText_make hM hp.2
    have hl := fhTx_len hM hp.2
    have hsl := fhB_len p
    obtain ⟨hk, ⟨ha0, ha1⟩, hb0⟩ := (Parts.mayF_iff p).1 hM
    obtain ⟨k, hk'⟩ : ∃ k : Nat, p.kind = (k : Int) := ⟨p.kind.toNat, by omega⟩
    obtain ⟨a, ha'⟩ : ∃ a : Nat, p.a = (a : Int) := ⟨p.a.toNat, by omega⟩
    obtain ⟨b, hb'⟩ : ∃ b : Nat, p.b = (b : Int) := ⟨p.b.toNat, by omega⟩
    have hpe : p = ⟨(k : Int), (a : Int), (b : Int)⟩ := by rw [← hk', ← ha', ← hb']
    have hb9 := hp.2
    have KM := fun W => refMake3_any k a b W (by omega) (by omega) (by omega)
    have KX := fun W => refText3_any k a b W (by omega) (by omega) (by omega)
    have HUNI := Lib.hid (fun (s : List UInt8) (h1 : fhGood s = true) (h2 : fhText s = fhTx p) => show s = fhB p by
      obtain ⟨q1, q2, q3⟩ := good_parts h1
      have e : fhText s = fhTx (fhP s) := by unfold fhText; rw [h1]; rfl
      rw [e] at h2
      rw [← fhTx_inj q1 hM h2, q2])
    have hno : ∀ n : Int, ¬ (n = 40 ∧ ∀ q : Parts, q.mayF = true → q.b ≤ 9223372036854775807 → fhTx p ≠ fhTx q) := fun n h => h.2 p hM hp.2 rfl
    have HNO := Lib.hid hno
    rw [← hpe] at KM KX
    rw [make_ok hM] at K1
    rw [hM] at KY
    have KP := fun W h => fhParse_any (fhB p) W (by omega) h
    have KT := fun W (h : FhW W) => fhText_any (fhB p) W (by omega) h.1 h.2
    have KR := fun W (h : FhW W) (h2 : MxLen3 W) => fhRead_any (fhTx p) W hl h h2
    simp only [hP2] at KP
    simp only [hT] at KT
    have c0 := HP.out.cell 0
    have c1 := HP.out.cell 1
    have c2 := HP.out.cell 2
    rw [Parts.lat0, hk'] at c0
    rw [Parts.lat1, ha'] at c1
    rw [Parts.lat2, hb'] at c2
    generalize fhB p = S at *
    generalize fhTx p = T at *
    have KM := Lib.hid KM
    have KX := Lib.hid KX
    have KP := Lib.hid KP
    have KT := Lib.hid KT
    have KR := Lib.hid KR
    have C0 := Lib.hid c0
    have C1 := Lib.hid c1
    have C2 := Lib.hid c2
    have HROW := Lib.hid hrow
    clear hM hp hW hm g1 g2 hP2 hT hl hsl hk ha0 ha1 hb0 hpe hb9 hno c0 c1 c2 hk' ha' hb'
    go_enter Tryd.func6, Tryd.ntmps6
    go_upto_region 1 with fail
    change Code.wp _ _ _ _ (w.alloc (.cells p.vals.toArray 24))
    rw [← HWD.out]
    go_wp2_with fail
    refine (K1.out _).mono ?_
    rintro e w2 ⟨rfl, hb2⟩
    have hr2 := (rowOf_below hb2 hl1 0 3).trans hrow
    go_wp2_with fail
    refine (KY.out _).mono ?_
    rintro e w3 ⟨rfl, hb3⟩
    have hb3 := below_then hb2 hb3
    clear hr2 hrow
    go_wp2_with fail
    refine (KP.out _ (HW1.out.below hb3).1).mono ?_
    rintro e w4 ⟨rfl, hb4⟩
    have hb4 := below_then hb3 hb4
    have hQ := Blk.new w4 24 p.vals
    have hB5 : Below w1.heap.size w1 (w4.alloc (.cells p.vals.toArray 24)) := hb4.alloc hb4.size _
    have HB5 := Lib.hid hB5
    have HQ := Lib.hid hQ
    clear hb2 hb3 hb4 hQ hB5
    go_upto_region 5 with (first | (refine wpList_new_struct (by rfl) (by rfl) 24 (by rfl) _ _ (by rfl) p.vals infoParts (by rfl) (by rfl) (Parts.one _) (by rfl) (by rfl) ?_) | fail)
    obtain ⟨b2, hb2⟩ : ∃ b2, b2 = w4.heap.size := ⟨_, rfl⟩
    generalize w4.alloc (.cells p.vals.toArray 24) = w5 at *
    rw [← hb2] at HQ ⊢
    clear hb2
    go_wp2_with fail
    refine (KT.out _ (HW1.out.below HB5.out)).mono ?_
    rintro e w6 ⟨rfl, hb6⟩
    have HQ6 := Lib.hid (HQ.out.stays hb6)
    have HB6 := Lib.hid (below_then HB5.out hb6)
    clear hb6
    go_wp2_with fail
    refine (KR.out _ (HW1.out.below HB6.out) (HM1.out.below HM1.out.lt HB6.out)).mono ?_
    rintro e w7 ⟨s, n, rfl, hR, hb7⟩
    obtain ⟨rfl, rfl⟩ : n = 0 ∧ s = S := by
      rcases hR with ⟨_, h⟩ | ⟨h1, h2, h3⟩
      · exact absurd h (HNO.out n)
      · exact ⟨h1, HUNI.out s h2 h3⟩
    have HQ7 := Lib.hid (HQ6.out.stays hb7)
    have HB7 := Lib.hid (below_then HB6.out hb7)
    have hx0 := (HB7.out.cell (p := ⟨w.heap.size, 0, none⟩) hl1).trans C0.out
    have hx1 := (HB7.out.cell (p := ⟨w.heap.size, 1, none⟩) hl1).trans C1.out
    have hx2 := (HB7.out.cell (p := ⟨w.heap.size, 2, none⟩) hl1).trans C2.out
    clear hR hb7
    go_wp2_with fail
    refine (KM.out _).mono ?_
    rintro e w8 ⟨rfl, hb8⟩
    have HB8 := Lib.hid (below_then HB7.out hb8)
    have hy1 := (rowOf_below HB8.out hl1 0 3).trans HROW.out
    have hy2 := ((HQ7.out.stays hb8).row 0 3 (by simp [Parts.len]))
    rw [show (p.vals.drop 0).take 3 = p.vals from rfl] at hy2
    clear hb8 hx0 hx1 hx2
    go_wp2_with fail
    refine (KX.out _).mono ?_
    rintro e w9 ⟨rfl, hb9⟩
    have hb9 := below_then HB8.out hb9
    go_wp2_with fail
    refine (KN.out _ (HW1.out.below hb9)).mono ?_
    rintro e w10 ⟨rfl, hb10⟩
    go_wp2
    go_ret
    exact ⟨rfl, below_then HB1.out (below_then hb9 hb10)⟩
end Go.Proofs.YtlblenojhfeboaaDoor

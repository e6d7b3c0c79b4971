/-
  Layer 33, walks: what waits at a place is written ahead. No condition.
-/
import Derived.Test.YtfjflkmhhbhceaaGreatDoorK41
import Derived.Test.YtfjflkmhhbhceaaGreatDoorK37
import Derived.Test.YtfjflkmhhbhceaaGreatDoorK07
import Derived.Test.YtfjflkmhhbhceaaGreatDoorK21
namespace Go.Proofs.YtfjflkmhhbhceaaGreatDoor
open Go.RowKit
attribute [local go_sem ↓] Go.wp_at_zero Go.wp_at_succ
attribute [local go_sem] rowAt_ptr rowOf_drew rowOf_drewN rowOf_alloc_past rowOf_new
attribute [local go_sem ↓] st33Part st33Place st33Call st33Cred st33Packet st33Message st33Reply st33Ask ld33Part ld33Place ld33Call ld33Cred ld33Packet ld33Message ld33Reply ld33Ask

attribute [local go_sem] thereB_drew thereB_drewN thereB_new thereB_past putsW_drew putsW_new putsW_past rowOf_far rowOf_putsFar ptrAt blkAt offAt rowV33 allV33 oneV33

/-- what a client writes ahead -/
def aheadPart (z : Clnt) (n : Nat) : CPart := ⟨{ callZ with proc := 7, offset := (z.place n).at_, data := (z.place n).bytes, how := 2 }, n, 0, -1, 0, 0⟩
set_option maxRecDepth 20000 in
set_option maxHeartbeats 800000 in
theorem ahead33_any (F : Nat → Prop) (w : World) (g : Nat) (c : ClD) (z : Clnt) (l : List Recd) (hC : ClAt F w g c z l) (n : Nat) (hn : n < 4) :
    Calls Tryz.prog 81 #[.pointer (some ⟨g, 0, none⟩), .int .i64 n] w fun e w' => ∃ v, e = .returned v ∧ RowS w' w.heap.size 91 29 v ((c.ahead n).2.map CPart.vals) ∧ (∃ z', ClAt F w' g (c.ahead n).1 z' l) ∧ Touch (fun k => k = g) w w' := by
  obtain ⟨i0, hi, hz, hsize, hby⟩ := info_parts infoPart33
  have HI := Lib.hid (And.intro hi (And.intro hz hsize))
  clear hi hz hsize
  obtain ⟨q0, q1, q2, q3⟩ := place_cells z hn
  have hP : c.at_ n = z.place n := hC.is.at_ hn
  have c2 : w.cell? ⟨g, 3 + n * 4 + 2, none⟩ = some (.int .i64 (z.place n).at_) := (hC.blk.cell _).trans q2
  have c3 : w.cell? ⟨g, 3 + n * 4 + 3, none⟩ = some (.string (bs (z.place n).bytes)) := (hC.blk.cell _).trans q3
  have hn0 : (0 : Int) ≤ (n : Int) := by omega
  have hn1 : (n : Int) < 4 := by omega
  have hgl := hC.blk.lt
  clear q0 q1 q2 q3
  by_cases he : (z.place n).bytes = []
  · rw [he] at c3
    have HQ := Lib.hid (show c.ahead n = (c, []) from if_pos (by rw [hP]; exact he))
    go_enter Tryz.func81, Tryz.ntmps81
    go_wp2
    go_ret
    refine ⟨_, rfl, ?_, ?_, Touch.refl _ _⟩
    · rw [HQ.out]; exact RowS.none_
    · rw [HQ.out]; exact ⟨z, hC⟩
  · have hie : (z.place n).bytes.isEmpty = false := by simpa using he
    have HQ := Lib.hid (show c.ahead n = (c.put_ n { z.place n with at_ := 0, bytes := [] }, [aheadPart z n]) by
      have h1 : c.ahead n = (c.put_ n { c.at_ n with at_ := 0, bytes := [] }, [⟨{ callZ with proc := 7, offset := (c.at_ n).at_, data := (c.at_ n).bytes, how := 2 }, n, 0, -1, 0, 0⟩]) := if_neg (by rw [hP]; exact he)
      rw [h1, hP]
      rfl)
    have HC := Lib.hid hC
    have HP := Lib.hid hP
    have bN := (Blk.new w 91 (aheadPart z n).vals).drew
    have hBe : Below w.heap.size w (w.alloc (.cells (aheadPart z n).vals.toArray 91)).drew := ((Below.refl _ _).alloc (Nat.le_refl _) _).drew
    obtain ⟨w1, hw1⟩ : ∃ V, V = (w.alloc (.cells (aheadPart z n).vals.toArray 91)).drew := ⟨_, rfl⟩
    rw [← hw1] at bN hBe
    have HW := Lib.hid hw1
    clear hw1 hP
    go_enter Tryz.func81, Tryz.ntmps81
    go_wp2
    go_region
    change Exit.then _ _ _ _ (w.alloc (.cells (aheadPart z n).vals.toArray 91)).drew
    rw [← HW.out]
    have bg := hC.blk.stays hBe
    replace c2 := (hBe.cell (p := ⟨g, 3 + n * 4 + 2, none⟩) hgl).trans c2
    replace c3 := (hBe.cell (p := ⟨g, 3 + n * 4 + 3, none⟩) hgl).trans c3
    have hfr := bg.frozen
    have hrow := bN.row 0 29 (by rw [CPart.len]; omega)
    rw [List.drop_zero, show (aheadPart z n).vals.take 29 = (aheadPart z n).vals from rfl] at hrow
    have HBE := Lib.hid hBe
    have HBN := Lib.hid bN
    have HBG := Lib.hid bg
    have hne : w.heap.size ≠ g := by omega
    clear hBe bN bg hC HW he
    go_wp2_with (first
      | (refine wpList_buildSlice_one (by rfl) 89 91 (.tmp 34) (by rfl) (aheadPart z n).vals (by rfl) Tryz.underlying89 i0 _ HI.out.1 HI.out.2.1 rfl HI.out.2.2 (by rw [CPart.len]; omega) (by rw [CPart.len]; omega) ?_)
      | fail)
    go_ret
    have bw := ((HBG.out.set_ (3 + n * 4 + 2) (.int .i64 0)).set_ (3 + n * 4 + 3) (.string (bs []))).alloc (.cells (aheadPart z n).vals.toArray 91)
    rw [place_set_wait z hn] at bw
    have ht := (((Touch.of_below HBE.out (fun k => k = g)).setCell (p := ⟨g, 3 + n * 4 + 2, none⟩) (.inl rfl) (.int .i64 0)).setCell (p := ⟨g, 3 + n * 4 + 3, none⟩) (.inl rfl) (.string (bs []))).alloc (.cells (aheadPart z n).vals.toArray 91)
    obtain ⟨k1, k2, k2c, k3, k4, k5⟩ := setPlace_keeps z hn { z.place n with at_ := 0, bytes := [] }
    rw [HQ.out]
    refine ⟨_, rfl, ?_, ⟨_, HC.out.own ht bw (HC.out.is.setPlace hn _) k1 k2 k2c rfl k3 k4 k5 rfl⟩, ht⟩
    have := RowS.made ((w1.setCell ⟨g, 3 + n * 4 + 2, none⟩ (.int .i64 0)).setCell ⟨g, 3 + n * 4 + 3, none⟩ (.string (bs []))) (b := w1.heap.size) (B := w.heap.size) (sz := 29) (k := 1) 91 [(aheadPart z n).vals] (fun r hr => by rw [List.mem_singleton] at hr; subst hr; rfl) (by simp [World.setCell]) HBE.out.size (by simp) rfl
    rw [show [(aheadPart z n).vals].flatten = (aheadPart z n).vals by simp] at this
    exact this
end Go.Proofs.YtfjflkmhhbhceaaGreatDoor

/-
  Layer 33, walks: bytes wait at a place. Condition: what is asked lies within its bounds.
-/
namespace Go.Proofs.YtfjflkmhhbhceaaGreatDoor
open Go.RowKit
attribute [local go_sem ↓] Go.wp_at_zero Go.wp_at_succ
attribute [local go_sem] rowAt_ptr rowOf_drew rowOf_drewN rowOf_alloc_past rowOf_new
attribute [local go_sem ↓] st33Part st33Place st33Call ld33Part ld33Place ld33Call

attribute [local go_sem] thereB_drew thereB_drewN thereB_new thereB_past putsW_drew putsW_new putsW_past rowOf_far rowOf_putsFar ptrAt blkAt offAt rowV33 allV33 oneV33

theorem ahead_at {c : ClD} {z : Clnt} (h : ClZ c z) {n : Nat} (hn : n < 4) : ((c.ahead n).1.at_ n).handle = (c.at_ n).handle ∧ ((c.ahead n).1.at_ n).gen = (c.at_ n).gen := by
  unfold ClD.ahead
  split
  · exact ⟨rfl, rfl⟩
  · have h1 := (h.setPlace hn { c.at_ n with at_ := 0, bytes := [] }).at_ hn
    have h2 : (z.setPlace n { c.at_ n with at_ := 0, bytes := [] }).place n = { c.at_ n with at_ := 0, bytes := [] } := by
      rcases (show n = 0 ∨ n = 1 ∨ n = 2 ∨ n = 3 by omega) with rfl | rfl | rfl | rfl <;> rfl
    show ((c.put_ n { c.at_ n with at_ := 0, bytes := [] }).at_ n).handle = _ ∧ ((c.put_ n { c.at_ n with at_ := 0, bytes := [] }).at_ n).gen = _
    rw [h1, h2]
    exact ⟨rfl, rfl⟩
theorem late_end {F : Nat → Prop} {w w1 w2 : World} {g n : Nat} {c : ClD} {z z2 : Clnt} {l : List Recd} {x : Call} {v : Value} {k : Nat} (hC : ClAt F w2 g (c.ahead n).1 z2 l) (hB : Below w.heap.size w w1) (hT : Touch (fun k => k = g) (w1.drewN k) w2)
    (hR : RowS w2 (w1.drewN k).heap.size 91 29 v ((c.ahead n).2.map CPart.vals)) (hQ : c.late n x = ((c.ahead n).1.put_ n { z.place n with at_ := x.offset, bytes := x.data }, (c.ahead n).2)) (hP : c.at_ n = z.place n) (hn : n < 4) (hz : ClZ c z) (hg : g < w.heap.size) :
    ∃ u, Ending.returned v = .returned u ∧ RowS ((w2.drew.setCell ⟨g, 3 + n * 4 + 2, none⟩ (.int .i64 x.offset)).setCell ⟨g, 3 + n * 4 + 3, none⟩ (.string (bs x.data))) w.heap.size 91 29 u ((c.late n x).2.map CPart.vals) ∧
      (∃ z', ClAt F ((w2.drew.setCell ⟨g, 3 + n * 4 + 2, none⟩ (.int .i64 x.offset)).setCell ⟨g, 3 + n * 4 + 3, none⟩ (.string (bs x.data))) g (c.late n x).1 z' l) ∧ Touch (fun k => k = g) w ((w2.drew.setCell ⟨g, 3 + n * 4 + 2, none⟩ (.int .i64 x.offset)).setCell ⟨g, 3 + n * 4 + 3, none⟩ (.string (bs x.data))) := by
  have bw := ((hC.blk.drew).set_ (3 + n * 4 + 2) (.int .i64 x.offset)).set_ (3 + n * 4 + 3) (.string (bs x.data))
  rw [place_set_wait z2 hn] at bw
  have ht1 := (((Touch.refl (fun k => k = g) w2).drew).setCell (p := ⟨g, 3 + n * 4 + 2, none⟩) (.inl rfl) (.int .i64 x.offset)).setCell (p := ⟨g, 3 + n * 4 + 3, none⟩) (.inl rfl) (.string (bs x.data))
  obtain ⟨k1, k2, k2c, k3, k4, k5⟩ := setPlace_keeps z2 hn { z2.place n with at_ := x.offset, bytes := x.data }
  obtain ⟨a1, a2⟩ := ahead_at hz hn
  have e2 : ({ z.place n with at_ := x.offset, bytes := x.data } : CPlace) = { z2.place n with at_ := x.offset, bytes := x.data } := by
    rw [hC.is.at_ hn, hP] at a1 a2
    show (⟨(z.place n).handle, (z.place n).gen, x.offset, x.data⟩ : CPlace) = ⟨(z2.place n).handle, (z2.place n).gen, x.offset, x.data⟩
    rw [a1, a2]
  have hs : w.heap.size ≤ w1.heap.size := hB.size
  rw [hQ, e2]
  refine ⟨_, rfl, (hR.touch ht1 fun j hk e => ?_).base hs, ⟨_, hC.own ht1 bw (hC.is.setPlace hn _) k1 k2 k2c rfl k3 k4 k5 rfl⟩, ?_⟩
  · have := (hR.lt j hk).1
    have hs' : (w1.drewN k).heap.size = w1.heap.size := rfl
    omega
  · have h0 : Touch (fun k => k = g) w w2 := (Touch.of_below (bdN hB k) _).then_ hT
    exact h0.then_ ht1
set_option maxRecDepth 20000 in
set_option maxHeartbeats 1600000 in
theorem late33_any (F : Nat → Prop) (w : World) (g : Nat) (c : ClD) (z : Clnt) (l : List Recd) (hC : ClAt F w g c z l) (n : Nat) (hn : n < 4) (x : Call) (hG : PlaceG (z.place n)) (hx : 0 ≤ x.offset ∧ x.offset ≤ 9223372036854775807) (hd : x.data.length ≤ 256) :
    Calls Tryz.prog 82 #[.pointer (some ⟨g, 0, none⟩), .int .i64 n, .agg x.vals.toArray] w fun e w' => ∃ v, e = .returned v ∧ RowS w' w.heap.size 91 29 v ((c.late n x).2.map CPart.vals) ∧ (∃ z', ClAt F w' g (c.late n x).1 z' l) ∧ Touch (fun k => k = g) w w' := by
  have hgl := hC.blk.lt
  have hne : w.heap.size ≠ g := by omega
  have bX := Blk.new w 36 x.vals
  have hB : Below w.heap.size w (w.alloc (.cells x.vals.toArray 36)) := (Below.refl _ _).alloc (Nat.le_refl _) _
  have hC1 := hC.below hB
  obtain ⟨w1, hw1⟩ : ∃ V, V = w.alloc (.cells x.vals.toArray 36) := ⟨_, rfl⟩
  rw [← hw1] at bX hB hC1
  have HW := Lib.hid hw1
  clear hw1
  obtain ⟨q0, q1, q2, q3⟩ := place_cells z hn
  have hP : c.at_ n = z.place n := hC.is.at_ hn
  have c2 : w1.cell? ⟨g, 3 + n * 4 + 2, none⟩ = some (.int .i64 (z.place n).at_) := (hC1.blk.cell _).trans q2
  have c3 : w1.cell? ⟨g, 3 + n * 4 + 3, none⟩ = some (.string (bs (z.place n).bytes)) := (hC1.blk.cell _).trans q3
  have x5 : w1.cell? ⟨w.heap.size, 5, none⟩ = some (.int .i64 x.offset) := bX.cell 5
  have x8 : w1.cell? ⟨w.heap.size, 8, none⟩ = some (.string (bs x.data)) := bX.cell 8
  have hfr := hC1.blk.frozen
  have hn0 : (0 : Int) ≤ (n : Int) := by omega
  have hn1 : (n : Int) < 4 := by omega
  have hlt1 : w.heap.size < w1.heap.size := bX.lt
  clear q0 q1 q2 q3
  have HC := Lib.hid hC1
  have HP := Lib.hid hP
  have HX := Lib.hid bX
  have HB := Lib.hid hB
  have HZ := Lib.hid hC.is
  clear hP
  by_cases hxd : x.data = []
  · have HQ := Lib.hid (show c.late n x = (c, []) from if_pos hxd)
    rw [hxd] at x8
    clear hC hC1 bX hB
    go_enter Tryz.func82, Tryz.ntmps82
    go_upto_region 1 with fail
    change Code.wp _ _ _ _ (w.alloc (.cells x.vals.toArray 36))
    rw [← HW.out]
    go_wp2
    go_ret
    rw [HQ.out]
    exact ⟨_, rfl, RowS.none_, ⟨z, HC.out⟩, Touch.of_below HB.out _⟩
  have hxe : x.data.isEmpty = false := by simpa using hxd
  by_cases hj : (z.place n).bytes ≠ [] ∧ x.offset - (z.place n).at_ = (z.place n).bytes.length ∧ (z.place n).bytes.length + x.data.length ≤ 256
  · have HQ := Lib.hid (show c.late n x = (c.put_ n { z.place n with bytes := (z.place n).bytes ++ x.data }, []) by
      have h1 : c.late n x = (c.put_ n { c.at_ n with bytes := (c.at_ n).bytes ++ x.data }, []) := (if_neg hxd).trans (if_pos (by rw [HP.out]; exact hj))
      rw [h1, HP.out])
    have hie : (z.place n).bytes.isEmpty = false := by simpa using hj.1
    have hsub : IntKind.i64.wrap (x.offset - (z.place n).at_) = ((z.place n).bytes.length : Int) := by rw [IntWalk.i64_in _ (by omega)]; exact hj.2.1
    have hadd : IntKind.i64.wrap (((z.place n).bytes.length : Int) + (x.data.length : Int)) = (((z.place n).bytes.length + x.data.length : Nat) : Int) := by rw [IntWalk.i64_in _ (by omega)]; omega
    have hle : ((z.place n).bytes.length : Int) + (x.data.length : Int) ≤ 256 := by omega
    have HJ := Lib.hid hj
    clear hC hC1 bX hB hj
    go_enter Tryz.func82, Tryz.ntmps82
    go_upto_region 1 with fail
    change Code.wp _ _ _ _ (w.alloc (.cells x.vals.toArray 36))
    rw [← HW.out]
    go_wp2
    go_quiet (fail)
    go_wp2
    go_region
    go_wp2
    go_ret
    have bw := (((HC.out.blk).drewN (nq + 1)).set_ (3 + n * 4 + 3) (.string (bs ((z.place n).bytes ++ x.data))))
    rw [place_set_bytes z hn] at bw
    have ht := ((Touch.of_below (bdN HB.out (nq + 1)) (fun k => k = g))).setCell (p := ⟨g, 3 + n * 4 + 3, none⟩) (.inl rfl) (.string (bs ((z.place n).bytes ++ x.data)))
    have ht1 := ((Touch.refl (fun k => k = g) w1).drewN (nq + 1)).setCell (p := ⟨g, 3 + n * 4 + 3, none⟩) (.inl rfl) (.string (bs ((z.place n).bytes ++ x.data)))
    obtain ⟨k1, k2, k2c, k3, k4, k5⟩ := setPlace_keeps z hn { z.place n with bytes := (z.place n).bytes ++ x.data }
    rw [HQ.out, bs_append]
    exact ⟨_, rfl, RowS.none_, ⟨_, HC.out.own ht1 bw (HC.out.is.setPlace hn _) k1 k2 k2c rfl k3 k4 k5 rfl⟩, ht⟩
  have HQ := Lib.hid (show c.late n x = ((c.ahead n).1.put_ n { z.place n with at_ := x.offset, bytes := x.data }, (c.ahead n).2) by
    have h1 : c.late n x = ((c.ahead n).1.put_ n { c.at_ n with at_ := x.offset, bytes := x.data }, (c.ahead n).2) := (if_neg hxd).trans (if_neg (by rw [HP.out]; exact hj))
    rw [h1, HP.out])
  have HG := Lib.hid hG
  have HXO := Lib.hid hx
  have hgd : (z.place n).bytes.isEmpty = true ∨ (z.place n).bytes.isEmpty = false ∧ ((IntKind.i64.wrap (x.offset - (z.place n).at_) == ((z.place n).bytes.length : Int)) = false ∨ (IntKind.i64.wrap (x.offset - (z.place n).at_) == ((z.place n).bytes.length : Int)) = true ∧ ¬ ((z.place n).bytes.length : Int) + (x.data.length : Int) ≤ 256) := by
    have hat := hG.at_
    have hw : IntKind.i64.wrap (x.offset - (z.place n).at_) = x.offset - (z.place n).at_ := IntWalk.i64_in _ (by omega)
    rw [hw]
    by_cases h1 : (z.place n).bytes = []
    · exact .inl (by rw [h1]; rfl)
    · refine .inr ⟨by simpa using h1, ?_⟩
      by_cases h2 : x.offset - (z.place n).at_ = ((z.place n).bytes.length : Int)
      · refine .inr ⟨by simpa using h2, fun h3 => hj ⟨h1, h2, by omega⟩⟩
      · exact .inl (by simpa using h2)
  have hlb := hG.bytes
  have hadd : IntKind.i64.wrap (((z.place n).bytes.length : Int) + (x.data.length : Int)) = ((z.place n).bytes.length : Int) + (x.data.length : Int) := IntWalk.i64_in _ (by omega)
  have KA := Lib.hid (fun (W : World) (h : Below w1.heap.size w1 W) => ahead33_any F W g c z l (HC.out.below h) n hn)
  clear hC hC1 bX hB hj hx hG
  rcases hgd with h1 | ⟨h1, h2 | ⟨h2, h3⟩⟩
  · have hb0 := List.isEmpty_iff.1 h1
    rw [hb0] at c3
    have c3 : w1.cell? ⟨g, 3 + n * 4 + 3, none⟩ = some (.string { data := #[] }) := c3
    clear h1 hb0 hadd hlb hxe
    go_enter Tryz.func82, Tryz.ntmps82
    go_upto_region 1 with fail
    change Code.wp _ _ _ _ (w.alloc (.cells x.vals.toArray 36))
    rw [← HW.out]
    have hxe : x.data.isEmpty = false := by simpa using hxd
    clear hxd
    go_wp2
    go_quiet (fail)
    go_wp2_with fail
    refine (KA.out _ (bdN (Below.refl _ _) _)).mono ?_
    rintro e w2 ⟨v, rfl, hrow, ⟨z2, hC2⟩, ht⟩
    have x5' : w2.cell? ⟨w.heap.size, 5, none⟩ = some (.int .i64 x.offset) := (ht.cell (p := ⟨w.heap.size, 5, none⟩) hlt1 hne).trans x5
    have x8' : w2.cell? ⟨w.heap.size, 8, none⟩ = some (.string (bs x.data)) := (ht.cell (p := ⟨w.heap.size, 8, none⟩) hlt1 hne).trans x8
    obtain ⟨r0, r1, r2, r3⟩ := place_cells z2 hn
    have d2 : w2.cell? ⟨g, 3 + n * 4 + 2, none⟩ = some (.int .i64 (z2.place n).at_) := (hC2.blk.cell _).trans r2
    have d3 : w2.cell? ⟨g, 3 + n * 4 + 3, none⟩ = some (.string (bs (z2.place n).bytes)) := (hC2.blk.cell _).trans r3
    have hfr2 := hC2.blk.frozen
    have HC2 := Lib.hid hC2
    have HR := Lib.hid hrow
    have HT := Lib.hid ht
    clear c2 c3 x5 x8 hfr r0 r1 r2 r3 hC2 hrow ht
    go_wp2
    go_region
    go_wp2
    go_ret
    exact late_end HC2.out HB.out HT.out HR.out HQ.out HP.out hn HZ.out hgl
  · obtain ⟨d, hdd⟩ : ∃ d, d = IntKind.i64.wrap (x.offset - (z.place n).at_) := ⟨_, rfl⟩
    rw [← hdd] at h2
    have hdw := hdd.symm
    have h2n : decide (d = ((z.place n).bytes.length : Int)) = false := by simpa using h2
    have h2m : ¬ d = ((z.place n).bytes.length : Int) := by simpa using h2n
    have h2k : (d == ((z.place n).bytes.length : Int)) = false := h2
    clear hdd h2 hadd hxd hlb
    go_enter Tryz.func82, Tryz.ntmps82
    go_upto_region 1 with fail
    change Code.wp _ _ _ _ (w.alloc (.cells x.vals.toArray 36))
    rw [← HW.out]
    go_wp2
    go_quiet (fail)
    clear hdw h2n h2m h2k
    go_wp2_with fail
    refine (KA.out _ (bdN (Below.refl _ _) _)).mono ?_
    rintro e w2 ⟨v, rfl, hrow, ⟨z2, hC2⟩, ht⟩
    have x5' : w2.cell? ⟨w.heap.size, 5, none⟩ = some (.int .i64 x.offset) := (ht.cell (p := ⟨w.heap.size, 5, none⟩) hlt1 hne).trans x5
    have x8' : w2.cell? ⟨w.heap.size, 8, none⟩ = some (.string (bs x.data)) := (ht.cell (p := ⟨w.heap.size, 8, none⟩) hlt1 hne).trans x8
    obtain ⟨r0, r1, r2, r3⟩ := place_cells z2 hn
    have d2 : w2.cell? ⟨g, 3 + n * 4 + 2, none⟩ = some (.int .i64 (z2.place n).at_) := (hC2.blk.cell _).trans r2
    have d3 : w2.cell? ⟨g, 3 + n * 4 + 3, none⟩ = some (.string (bs (z2.place n).bytes)) := (hC2.blk.cell _).trans r3
    have hfr2 := hC2.blk.frozen
    have HC2 := Lib.hid hC2
    have HR := Lib.hid hrow
    have HT := Lib.hid ht
    clear c2 c3 x5 x8 hfr r0 r1 r2 r3 hC2 hrow ht
    go_wp2
    go_region
    go_wp2
    go_ret
    exact late_end HC2.out HB.out HT.out HR.out HQ.out HP.out hn HZ.out hgl
  · have h3d : decide (((z.place n).bytes.length : Int) + (x.data.length : Int) ≤ 256) = false := by simpa using h3
    go_enter Tryz.func82, Tryz.ntmps82
    go_upto_region 1 with fail
    change Code.wp _ _ _ _ (w.alloc (.cells x.vals.toArray 36))
    rw [← HW.out]
    go_wp2
    go_quiet (fail)
    clear h3d h3 h2 h1 hadd
    go_wp2_with fail
    refine (KA.out _ (bdN (Below.refl _ _) _)).mono ?_
    rintro e w2 ⟨v, rfl, hrow, ⟨z2, hC2⟩, ht⟩
    have x5' : w2.cell? ⟨w.heap.size, 5, none⟩ = some (.int .i64 x.offset) := (ht.cell (p := ⟨w.heap.size, 5, none⟩) hlt1 hne).trans x5
    have x8' : w2.cell? ⟨w.heap.size, 8, none⟩ = some (.string (bs x.data)) := (ht.cell (p := ⟨w.heap.size, 8, none⟩) hlt1 hne).trans x8
    obtain ⟨r0, r1, r2, r3⟩ := place_cells z2 hn
    have d2 : w2.cell? ⟨g, 3 + n * 4 + 2, none⟩ = some (.int .i64 (z2.place n).at_) := (hC2.blk.cell _).trans r2
    have d3 : w2.cell? ⟨g, 3 + n * 4 + 3, none⟩ = some (.string (bs (z2.place n).bytes)) := (hC2.blk.cell _).trans r3
    have hfr2 := hC2.blk.frozen
    have HC2 := Lib.hid hC2
    have HR := Lib.hid hrow
    have HT := Lib.hid ht
    clear c2 c3 x5 x8 hfr r0 r1 r2 r3 hC2 hrow ht
    go_wp2
    go_region
    go_wp2
    go_ret
    exact late_end HC2.out HB.out HT.out HR.out HQ.out HP.out hn HZ.out hgl
end Go.Proofs.YtfjflkmhhbhceaaGreatDoor


/-
  Layer 33, walks: what is kept while a client's own block changes; what 'plan' and its parts give. No condition.
-/
namespace Go.Proofs.YtfjflkmhhbhceaaGreatDoor
open Go.RowKit
/-- all blocks of w but g are as they were -/
abbrev TStb (g : Nat) (w W : World) : Prop := (∀ b o, b < w.heap.size → b ≠ g → W.cell? ⟨b, o, none⟩ = w.cell? ⟨b, o, none⟩) ∧ (∀ b o n, b < w.heap.size → b ≠ g → rowOf W b o n = rowOf w b o n) ∧ Touch (fun k => k = g) w W
theorem TStb.of {g : Nat} {w W : World} (h : Touch (fun k => k = g) w W) : TStb g w W := ⟨fun b o hb hn => h.cell (p := ⟨b, o, none⟩) hb hn, fun _ o n hb hn => h.row hb hn o n, h⟩
theorem TStb.start {g : Nat} {w : World} : TStb g w w.drew := TStb.of (Touch.refl _ _).drew
theorem TStb.alloc {g : Nat} {w W : World} (h : TStb g w W) (o : Obj) : TStb g w (W.alloc o) := TStb.of (h.2.2.alloc o)
theorem TStb.call {g : Nat} {w W W' : World} (h : TStb g w W) (ht : Touch (fun k => k = g) W W') : TStb g w W' := TStb.of (h.2.2.then_ ht)
/-- a client is as the plain method says, and its parts are new -/
def PlanP (F : Nat → Prop) (g : Nat) (c' : ClD) (l : List Recd) (ps : List CPart) (w : World) (e : Ending) (w' : World) : Prop :=
  ∃ v, e = .returned v ∧ RowS w' w.heap.size 91 29 v (ps.map CPart.vals) ∧ (∃ z', ClAt F w' g c' z' l) ∧ Touch (fun k => k = g) w w'
/-- behind an append to parts that are new -/
theorem plan_end {F : Nat → Prop} {g : Nat} {c' : ClD} {l : List Recd} {ps qs : List CPart} {w w2 w3 W : World} {v v' : Value} (hA : ∃ z', ClAt F w2 g c' z' l) (hF : ∀ k, F k → k < w.heap.size) (hR : RowS w2 w.heap.size 91 29 v (ps.map CPart.vals)) (ht : Touch (fun k => k = g) w w2) (hb : Below w2.heap.size w2 w3)
    (hR' : RowS W w.heap.size 91 29 v' (ps.map CPart.vals ++ qs.map CPart.vals)) (hgr : w3.grownBy W v.ownBlock) : PlanP F g c' l (ps ++ qs) w (.returned v') W := by
  obtain ⟨z, hC⟩ := hA
  have h3 : Touch (fun k => v.ownBlock = some k) w3 W := Touch.of_grown hgr fun k hk => hk
  have hne : ∀ k, v.ownBlock = some k → w.heap.size ≤ k := fun k hk => (hR.lt k hk).1
  have h23 : Touch (fun k => v.ownBlock = some k) w2 W := (Touch.of_below hb _).then_ h3
  exact ⟨v', rfl, by rw [List.map_append]; exact hR', ⟨z, hC.away h23 fun k hk hv => by have := hne k hv; have := hF k hk; omega⟩, ht.trans h23 fun i hi hv => absurd (hne i hv) (by omega)⟩
theorem parts_len (qs : List CPart) : ∀ r ∈ qs.map CPart.vals, r.length = 29 := by
  intro r hr
  obtain ⟨q, _, rfl⟩ := List.mem_map.1 hr
  rfl
theorem parts_one (qs : List CPart) : ∀ r ∈ qs.map CPart.vals, ∀ u ∈ r, u.oneCell' = true := by
  intro r hr u hu
  obtain ⟨q, _, rfl⟩ := List.mem_map.1 hr
  exact CPart.one q u hu
theorem app_touch {g : Nat} {w1 W0 w2 w3 w' : World} {v : Value} (h0 : Below w1.heap.size w1 W0) (ht : Touch (fun k => k = g) W0 w2) (hb : Below w2.heap.size w2 w3) (hg : w3.grownBy w' v.ownBlock) (hv : ∀ k, v.ownBlock = some k → W0.heap.size ≤ k) : TStb g w1 w' := by
  have h1 : Touch (fun k => v.ownBlock = some k) w2 w' := (Touch.of_below hb _).then_ (Touch.of_grown hg fun k hk => hk)
  have h2 : Touch (fun k => k = g) w1 w2 := (Touch.of_below h0 _).then_ ht
  have hs := h0.size
  exact TStb.of (h2.trans h1 fun i hi hk => absurd (hv i hk) (by omega))
set_option maxRecDepth 8000
/-- parts behind parts: those that are put behind lie in a block that was just made -/
theorem app_new {F : Nat → Prop} {g : Nat} {c' : ClD} {l : List Recd} {ps qs : List CPart} {w w1 W0 w2 : World} {v : Value} {k : Nat} (hA : ∃ z', ClAt F w2 g c' z' l) (hF : ∀ k, F k → k < w.heap.size) (hR : RowS w2 W0.heap.size 91 29 v (ps.map CPart.vals)) (ht : Touch (fun k => k = g) W0 w2) (hw0 : Below w.heap.size w w1) (hw1 : Below w1.heap.size w1 W0)
    (hn : ps.length ≤ 10) (hq : qs.length ≤ 10) (hk : k = qs.length) :
    ∃ v' w', (Builtin.append_ #[89, 89] 89 #[v, .slice (some ⟨w2.heap.size, 0, none⟩) k k]).run Tryz.prog (w2.alloc (.cells (qs.map CPart.vals).flatten.toArray 91)) = .ok v' w' ∧ (PlanP F g c' l (ps ++ qs) w (.returned v') w' ∧ TStb g w1 w') := by
  have hw := below_then hw0 hw1
  have hR0 := hR.base hw.size
  have ht0 : Touch (fun k => k = g) w w2 := (Touch.of_below hw _).then_ ht
  have hb : Below w2.heap.size w2 (w2.alloc (.cells (qs.map CPart.vals).flatten.toArray 91)) := (Below.refl _ _).alloc (Nat.le_refl _) _
  have hblk := Blk.new w2 91 (qs.map CPart.vals).flatten
  have hRn := hR0.stays hb
  have hsz : w.heap.size ≤ (w2.alloc (.cells (qs.map CPart.vals).flatten.toArray 91)).heap.size := Nat.le_trans ht0.size hb.size
  generalize w2.alloc (.cells (qs.map CPart.vals).flatten.toArray 91) = w3 at *
  obtain ⟨v', w', h1, h2, h3, -⟩ := RowS.appendAt (k := k) (ty := 89) Tryz.underlying89 infoPart33 rfl (by decide) (by decide) hRn hsz hblk (parts_len qs) (parts_one qs) (by rw [List.length_map, List.length_map]; omega) (by rw [List.length_map]; exact hk) k
  exact ⟨v', w', h1, plan_end hA hF hR0 ht0 hb h2 h3, app_touch hw1 ht hb h3 fun k hk => (hR.lt k hk).1⟩
/-- .. or in a block that was made before -/
theorem app_old {F : Nat → Prop} {g : Nat} {c' : ClD} {l : List Recd} {ps qs : List CPart} {w w1 W0 w2 : World} {v : Value} {k b : Nat} (hA : ∃ z', ClAt F w2 g c' z' l) (hF : ∀ k, F k → k < w.heap.size) (hR : RowS w2 W0.heap.size 91 29 v (ps.map CPart.vals)) (ht : Touch (fun k => k = g) W0 w2) (hw0 : Below w.heap.size w w1) (hw1 : Below w1.heap.size w1 W0)
    (hb : Blk W0 b 91 (qs.map CPart.vals).flatten) (hg : b ≠ g) (hn : ps.length ≤ 10) (hq : qs.length ≤ 10) (hk : k = qs.length) :
    ∃ v' w', (Builtin.append_ #[89, 89] 89 #[v, .slice (some ⟨b, 0, none⟩) k k]).run Tryz.prog w2 = .ok v' w' ∧ (PlanP F g c' l (ps ++ qs) w (.returned v') w' ∧ TStb g w1 w') := by
  have hw := below_then hw0 hw1
  have hR0 := hR.base hw.size
  have ht0 : Touch (fun k => k = g) w w2 := (Touch.of_below hw _).then_ ht
  obtain ⟨v', w', h1, h2, h3, -⟩ := RowS.appendAt (k := k) (ty := 89) Tryz.underlying89 infoPart33 rfl (by decide) (by decide) hR0 ht0.size (hb.touch ht hg) (parts_len qs) (parts_one qs) (by rw [List.length_map, List.length_map]; omega) (by rw [List.length_map]; exact hk) k
  exact ⟨v', w', h1, plan_end hA hF hR0 ht0 (Below.refl _ _) h2 h3, app_touch hw1 ht (Below.refl _ _) h3 fun k hk => (hR.lt k hk).1⟩
theorem ahead_few (c : ClD) (i : Int) : (c.ahead i).2.length ≤ 10 := by
  unfold ClD.ahead
  split
  · exact Nat.zero_le _
  · show 1 ≤ 10; decide
end Go.Proofs.YtfjflkmhhbhceaaGreatDoor


/-
  Layer 33, walks: what is kept while a client's next call is made. No condition.
-/
namespace Go.Proofs.YtfjflkmhhbhceaaGreatDoor
open Go.RowKit
theorem set_mid33 (P : List Value) (x y : Value) (R : List Value) : (P ++ x :: R).set P.length y = P ++ y :: R := by simp
theorem set_taken (z : Clnt) (p : CPart) (A : Option Addr) (n c : Nat) : (setAt z.vals 20 p.vals).set 19 (.slice A n c) = ({ z with ta := A, tn := n, tc := c, now := p } : Clnt).vals := by
  have h := setAt_mid p.vals z.now.vals ([.int .i64 z.id, .int .i64 z.self, .int .i64 z.server] ++ (z.p0.vals ++ (z.p1.vals ++ (z.p2.vals ++ (z.p3.vals ++ [.slice z.ta z.tn z.tc]))))) ([.bool z.busy] ++ (z.sent.vals ++ [.int .i64 z.due, .int .i64 z.made, .slice z.ra z.rn z.rc])) (by rw [CPart.len, CPart.len])
  have e : z.vals = ([.int .i64 z.id, .int .i64 z.self, .int .i64 z.server] ++ (z.p0.vals ++ (z.p1.vals ++ (z.p2.vals ++ (z.p3.vals ++ [.slice z.ta z.tn z.tc]))))) ++ (z.now.vals ++ ([.bool z.busy] ++ (z.sent.vals ++ [.int .i64 z.due, .int .i64 z.made, .slice z.ra z.rn z.rc]))) := by
    unfold Clnt.vals
    simp only [List.append_assoc]
  rw [e]
  have e2 : setAt (([.int .i64 z.id, .int .i64 z.self, .int .i64 z.server] ++ (z.p0.vals ++ (z.p1.vals ++ (z.p2.vals ++ (z.p3.vals ++ [.slice z.ta z.tn z.tc]))))) ++ (z.now.vals ++ ([.bool z.busy] ++ (z.sent.vals ++ [.int .i64 z.due, .int .i64 z.made, .slice z.ra z.rn z.rc])))) 20 p.vals = _ := h
  rw [e2]
  have e3 := set_mid33 ([Value.int .i64 z.id, .int .i64 z.self, .int .i64 z.server] ++ (z.p0.vals ++ (z.p1.vals ++ (z.p2.vals ++ z.p3.vals)))) (.slice z.ta z.tn z.tc) (.slice A n c) (p.vals ++ ([.bool z.busy] ++ (z.sent.vals ++ [.int .i64 z.due, .int .i64 z.made, .slice z.ra z.rn z.rc])))
  have e4 : (([Value.int .i64 z.id, .int .i64 z.self, .int .i64 z.server] ++ (z.p0.vals ++ (z.p1.vals ++ (z.p2.vals ++ z.p3.vals)))) ++ Value.slice z.ta z.tn z.tc :: (p.vals ++ ([Value.bool z.busy] ++ (z.sent.vals ++ [Value.int .i64 z.due, Value.int .i64 z.made, Value.slice z.ra z.rn z.rc])))).set 19 (.slice A n c) = _ := e3
  have e5 : ∀ (a b c d e q : List Value) (s : Value), (a ++ (b ++ (c ++ (d ++ (e ++ [s]))))) ++ q = (a ++ (b ++ (c ++ (d ++ e)))) ++ s :: q := fun a b c d e q s => by simp
  have e6 : ∀ (a b c d e q : List Value) (s : Value), a ++ (b ++ (c ++ (d ++ (e ++ ([s] ++ q))))) = (a ++ (b ++ (c ++ (d ++ e)))) ++ s :: q := fun a b c d e q s => by simp
  unfold Clnt.vals
  rw [e5, e4, e6]
/-- the first of a client's parts is taken -/
theorem ClAt.taken {F : Nat → Prop} {w W : World} {g : Nat} {c : ClD} {z : Clnt} {l : List Recd} (hC : ClAt F w g c z l) {p : CPart} {ps : List CPart} (hp : c.parts = p :: ps) {b off : Nat} (hA : z.ta = some ⟨b, off, none⟩) {A' : Option Addr} (hA' : A' = if z.tc = 1 then some ⟨b, off, none⟩ else some ⟨b, off + 29, none⟩) (hW : W = ((putsW w g 20 p.vals).setCell ⟨g, 19, none⟩ (.slice A' ps.length (z.tc - 1))).drew) :
    ClAt F W g { c with parts := ps, now := p } { z with ta := A', tn := ps.length, tc := z.tc - 1, now := p } l ∧ Touch (fun k => k = g) w W := by
  have hb := ((hC.blk.puts 20 p.vals).set_ 19 (.slice A' ps.length (z.tc - 1))).drew
  have ht : Touch (fun k => k = g) w W := by
    rw [hW]
    exact (((Touch.refl (fun k => k = g) w).puts (k := g) (.inl rfl)).setCell (p := ⟨g, 19, none⟩) (.inl rfl) _).drew
  rw [← hW, set_taken] at hb
  have hlen := hC.pts.len
  rw [hp, List.length_cons] at hlen
  have hfit := hC.pts.fit
  have hty : Touch (TyIn w [93]) w W := ht.mono fun k _ hk => by subst hk; exact tyIn_of hC.blk (by decide)
  have hpt := hC.pts.tou (hty.less (by decide))
  refine ⟨⟨?_, ⟨hC.is.id, hC.is.self, hC.is.server, hC.is.ps, rfl, hC.is.busy, hC.is.sent, hC.is.due, hC.is.made⟩, ⟨rfl, by show ps.length ≤ z.tc - 1; omega, ?_, ?_⟩, hC.rcs.tou (hty.less (by decide)), hC.fg, fun k hk => Nat.lt_of_lt_of_le (hC.lt k hk) ht.size⟩, ht⟩
  · exact hb
  · simp only [hA']
    by_cases h1 : z.tc = 1
    · have : ps = [] := List.eq_nil_of_length_eq_zero (by omega)
      subst this
      exact At.nil
    · simp only [h1, if_false]
      have hrow := hpt.row
      rw [hp] at hrow
      intro i r hi
      obtain ⟨b2, off2, h2, h3, h4⟩ := hrow (i + 1) r (by rw [List.map_cons, List.getElem?_cons_succ]; exact hi)
      rw [hA] at h2
      injection h2 with h2
      injection h2 with h5 h6 _
      subst h5 h6
      refine ⟨b, off + 29, rfl, h3, fun j u hu => ?_⟩
      have := h4 j u hu
      rw [show off + (i + 1) * 29 + j = off + 29 + i * 29 + j by omega] at this
      exact this
  · simp only [hA']
    intro q hq
    have ho := hpt.own _ hA
    by_cases h1 : z.tc = 1
    · simp only [h1, if_true] at hq
      injection hq with hq
      subst hq
      exact ho
    · simp only [h1, if_false] at hq
      injection hq with hq
      subst hq
      exact ho
/-- a row that is read while new blocks are made -/
abbrev RowSt (g o n : Nat) (cs : Array Value) (W : World) : Prop := rowOf W g o n = some cs ∧ g < W.heap.size
theorem RowSt.alloc {g o n : Nat} {cs : Array Value} {W : World} (h : RowSt g o n cs W) (ob : Obj) : RowSt g o n cs (W.alloc ob) := ⟨(rowOf_alloc_past W ob g o n h.2).trans h.1, by have := h.2; simp; omega⟩
theorem RowSt.drew {g o n : Nat} {cs : Array Value} {W : World} (h : RowSt g o n cs W) : RowSt g o n cs W.drew := h
theorem clnt_set54 (z : Clnt) (n : Int) : z.vals.set 54 (.int .i64 n) = ({ z with made := n } : Clnt).vals := by kernel_rfl
theorem clnt_set49 (z : Clnt) (b : Bool) : z.vals.set 49 (.bool b) = ({ z with busy := b } : Clnt).vals := by kernel_rfl
theorem clnt_set53 (z : Clnt) (n : Int) : z.vals.set 53 (.int .i64 n) = ({ z with due := n } : Clnt).vals := by kernel_rfl
theorem clnt_set55 (z : Clnt) (A : Option Addr) (n c : Nat) : z.vals.set 55 (.slice A n c) = ({ z with ra := A, rn := n, rc := c } : Clnt).vals := by kernel_rfl
theorem clnt_set19 (z : Clnt) (A : Option Addr) (n c : Nat) : z.vals.set 19 (.slice A n c) = ({ z with ta := A, tn := n, tc := c } : Clnt).vals := by kernel_rfl
theorem clnt_set50 (z : Clnt) (p : Packet) : setAt z.vals 50 p.vals = ({ z with sent := p } : Clnt).vals := by kernel_rfl
theorem sends_g {c : ClD} {p : CPart} (h : CallG p.c) : CallG (c.sends p) := by
  obtain ⟨h1, h2, h3, h4, h5⟩ := h
  unfold ClD.sends
  cases hasC p.c.proc 102 <;> cases hasC p.c.proc 70 <;> exact ⟨h1, h2, h3, h4, h5⟩
theorem sends_proc (c : ClD) (p : CPart) : (c.sends p).proc = p.c.proc := by
  unfold ClD.sends
  cases hasC p.c.proc 102 <;> cases hasC p.c.proc 70 <;> rfl
/-- two calls lie in blocks of their own -/
structure TwoC (F : Nat → Prop) (g bx bt : Nat) (c : ClD) (z : Clnt) (l : List Recd) (w : World) (x t : Call) (W : World) : Prop where
  xb : Blk W bx 36 x.vals
  tb : Blk W bt 36 t.vals
  cl : ClAt F W g c z l
  ne : bx ≠ bt
  lx : w.heap.size ≤ bx
  lt : w.heap.size ≤ bt
  to : Touch (fun k => k = g) w W
theorem TwoC.make {F : Nat → Prop} {g : Nat} {c : ClD} {z : Clnt} {l : List Recd} {w W : World} (hC : ClAt F W g c z l) (ht : Touch (fun k => k = g) w W) (x : Call) :
    TwoC F g W.heap.size (W.heap.size + 1) c z l w x x ((W.alloc (.cells x.vals.toArray 36)).alloc (.cells x.vals.toArray 36)).drew ∧ TwoC F g (W.heap.size + 1) W.heap.size c z l w x x ((W.alloc (.cells x.vals.toArray 36)).alloc (.cells x.vals.toArray 36)).drew := by
  obtain ⟨h1, h2, h3, -⟩ := chain2_blks W x.vals x.vals 36 36
  have hs := ht.size
  have hc := hC.below h3.drew
  have hT := ht.then_ (Touch.of_below h3.drew _)
  exact ⟨⟨h1.drew, h2.drew, hc, by omega, by omega, by omega, hT⟩, ⟨h2.drew, h1.drew, hc, by omega, by omega, by omega, hT⟩⟩
/-- the library's tables are laid, and none of F's blocks is theirs -/
def LaidF (F : Nat → Prop) (w : World) : Prop := ∃ w0, TabLaid w0 ∧ Below w0.heap.size w0 w ∧ ∀ k, F k → w0.heap.size ≤ k
theorem LaidF.look {F : Nat → Prop} {w W : World} (h : LaidF F w) (ht : Touch F w W) : TabLaid W := by
  obtain ⟨w0, h1, h2, h3⟩ := h
  exact h1.below (h2.trans (ht.below (fun k _ hk => h3 k hk) h2.size))
/-- what a region reads while such calls are written -/
abbrev XStb (g bx bt : Nat) (w W : World) : Prop := (∀ o, W.cell? ⟨g, o, none⟩ = w.cell? ⟨g, o, none⟩) ∧ thereB W bx 1 1 = true ∧ thereB W bt 1 1 = true ∧ thereB W bx 3 1 = true ∧ thereB W bt 3 1 = true
theorem XStb.start {g bx bt : Nat} {w : World} (h1 : thereB w bx 1 1 = true) (h2 : thereB w bt 1 1 = true) (h3 : thereB w bx 3 1 = true) (h4 : thereB w bt 3 1 = true) : XStb g bx bt w w.drew := ⟨fun _ => rfl, h1, h2, h3, h4⟩
theorem thereB_stays {w W : World} {b o n : Nat} (h : thereB w b o n = true) (hb : Below w.heap.size w W) : thereB W b o n = true := by
  unfold thereB at h ⊢
  rcases Nat.lt_or_ge b w.heap.size with hlt | hge
  · rw [hb.block b hlt]; exact h
  · rw [Array.getElem?_eq_none hge] at h; cases h
theorem XStb.call {g bx bt : Nat} {w W W' : World} (h : XStb g bx bt w W) (hg : g < W.heap.size) (hb : Below W.heap.size W W') : XStb g bx bt w W' :=
  ⟨fun o => (hb.cell (p := ⟨g, o, none⟩) hg).trans (h.1 o), thereB_stays h.2.1 hb, thereB_stays h.2.2.1 hb, thereB_stays h.2.2.2.1 hb, thereB_stays h.2.2.2.2 hb⟩
theorem XStb.puts {g bx bt : Nat} {w W : World} (h : XStb g bx bt w W) {k i : Nat} {cs : List Value} (hk : g ≠ k) (hg : g < W.heap.size) : XStb g bx bt w (putsW W k i cs) :=
  ⟨fun o => (cell_putsFar W g o k i cs hk hg).trans (h.1 o), by rw [thereB_puts]; exact h.2.1, by rw [thereB_puts]; exact h.2.2.1, by rw [thereB_puts]; exact h.2.2.2.1, by rw [thereB_puts]; exact h.2.2.2.2⟩
theorem call_set1 (x : Call) (s : List UInt8) : setAt x.vals 1 [.string (bs s)] = ({ x with fh := s } : Call).vals := rfl
theorem call_set3 (x : Call) (s : List UInt8) : setAt x.vals 3 [.string (bs s)] = ({ x with fh2 := s } : Call).vals := rfl
theorem TwoC.below {F : Nat → Prop} {g bx bt : Nat} {c : ClD} {z : Clnt} {l : List Recd} {w W W' : World} {x t : Call} (h : TwoC F g bx bt c z l w x t W) (hb : Below W.heap.size W W') : TwoC F g bx bt c z l w x t W' :=
  ⟨h.xb.stays hb, h.tb.stays hb, h.cl.below hb, h.ne, h.lx, h.lt, h.to.then_ (Touch.of_below hb _)⟩
theorem TwoC.put1 {F : Nat → Prop} {g bx bt : Nat} {c : ClD} {z : Clnt} {l : List Recd} {w W : World} {x t : Call} (h : TwoC F g bx bt c z l w x t W) (hF : ∀ k, F k → k < w.heap.size) (s u : List UInt8) : TwoC F g bx bt c z l w { x with fh := s } { t with fh := u } (putsW (putsW W bx 1 [.string (bs s)]) bt 1 [.string (bs u)]) := by
  have t1 : Touch (fun k => k = bx ∨ k = bt) W (putsW (putsW W bx 1 [.string (bs s)]) bt 1 [.string (bs u)]) := ((Touch.refl _ _).puts (.inl (.inl rfl))).puts (.inl (.inr rfl))
  have h1 := (h.xb.puts 1 [.string (bs s)]).putsFar (b := bt) (o := 1) (vs := [.string (bs u)]) h.ne
  have h2 := ((h.tb.putsFar (b := bx) (o := 1) (vs := [.string (bs s)]) (Ne.symm h.ne)).puts 1 [.string (bs u)])
  have := h.lx
  have := h.lt
  exact ⟨h1, h2, h.cl.away t1 (fun k hk e => by have := hF k hk; omega), h.ne, h.lx, h.lt, h.to.trans t1 fun i hi e => by omega⟩
theorem TwoC.put3 {F : Nat → Prop} {g bx bt : Nat} {c : ClD} {z : Clnt} {l : List Recd} {w W : World} {x t : Call} (h : TwoC F g bx bt c z l w x t W) (hF : ∀ k, F k → k < w.heap.size) (s u : List UInt8) : TwoC F g bx bt c z l w { x with fh2 := s } { t with fh2 := u } (putsW (putsW W bx 3 [.string (bs s)]) bt 3 [.string (bs u)]) := by
  have t1 : Touch (fun k => k = bx ∨ k = bt) W (putsW (putsW W bx 3 [.string (bs s)]) bt 3 [.string (bs u)]) := ((Touch.refl _ _).puts (.inl (.inl rfl))).puts (.inl (.inr rfl))
  have h1 := (h.xb.puts 3 [.string (bs s)]).putsFar (b := bt) (o := 3) (vs := [.string (bs u)]) h.ne
  have h2 := ((h.tb.putsFar (b := bx) (o := 3) (vs := [.string (bs s)]) (Ne.symm h.ne)).puts 3 [.string (bs u)])
  have := h.lx
  have := h.lt
  exact ⟨h1, h2, h.cl.away t1 (fun k hk e => by have := hF k hk; omega), h.ne, h.lx, h.lt, h.to.trans t1 fun i hi e => by omega⟩
/-- a client is as the plain method says, its blocks are F's or new, and packets are given back -/
def NextP (F : Nat → Prop) (g : Nat) (c' : ClD) (out : List Packet) (w : World) (e : Ending) (w' : World) : Prop :=
  ∃ v, e = .returned v ∧ RowS w' w.heap.size 40 3 v (out.map Packet.vals) ∧ (∃ G z l, ClAt G w' g c' z l ∧ ∀ k, G k → F k ∨ w.heap.size ≤ k) ∧ Touch F w w'
end Go.Proofs.YtfjflkmhhbhceaaGreatDoor

/-
  Layer 3, walks: the law FhApart. Condition: machine numbers; what is laid.
-/
import Derived.Test.YtlblenojhfeboaaDoorFhLawA
namespace Go.Proofs.YtlblenojhfeboaaDoor
open Go.RowKit
attribute [local go_sem ↓] Go.wp_at_zero Go.wp_at_succ
attribute [local go_sem] rowAt_ptr rowOf_drew rowOf_drewN rowOf_alloc_past rowOf_new
attribute [local go_sem] Parts.at0 Parts.lat0 Parts.at1 Parts.lat1 Parts.at2 Parts.lat2 Parts.sub0_3 Parts.lsub0_3 Parts.len guardParts

attribute [local go_sem ↓] ldParts eqlParts eqlPartsZ

/-- what the text of a handle is -/
theorem fhText_make {p : Parts} (h : p.mayF = true) (hb : p.b ≤ 9223372036854775807) : fhText (fhB p) = fhTx p := by
  obtain ⟨h1, h2⟩ := parts_good h hb
  unfold fhText
  rw [if_pos h1, h2]
theorem make_ok {p : Parts} (h : p.mayF = true) : fhMake p = fhB p := by unfold fhMake; rw [if_pos h]
theorem make_no {p : Parts} (h : p.mayF = false) : fhMake p = [] := by unfold fhMake; rw [h]; rfl
theorem fhB_ne (p : Parts) : fhB p ≠ [] := fun h => by
  have := fhB_len p
  rw [h] at this
  simp at this
/-- what is laid, and stays -/
def FhW (w : World) : Prop := FhNone w ∧ FhTab w
theorem FhW.below {w w' : World} (h : FhW w) (hb : Below w.heap.size w w') : FhW w' := ⟨h.1.below hb, h.2.below hb⟩
set_option maxRecDepth 20000 in
set_option maxHeartbeats 1600000 in
theorem fhApartLaw_any (p q : Parts) (w : World) (hp : p.mach) (hq : q.mach) (hW : FhW w) :
    Calls Tryd.prog 4 #[.agg p.vals.toArray, .agg q.vals.toArray] w fun e w' => e = .returned (.bool true) ∧ Below w.heap.size w w' := by
  obtain ⟨w1, hw1⟩ : ∃ w1, w1 = w.alloc (.cells p.vals.toArray 24) := ⟨_, rfl⟩
  obtain ⟨w2, hw2⟩ : ∃ w2, w2 = w1.alloc (.cells q.vals.toArray 24) := ⟨_, rfl⟩
  have hB1 : Below w.heap.size w w1 := by rw [hw1]; exact (Below.refl _ _).alloc (Nat.le_refl _) _
  have hB2 : Below w1.heap.size w1 w2 := by rw [hw2]; exact (Below.refl _ _).alloc (Nat.le_refl _) _
  have hP : Blk w1 w.heap.size 24 p.vals := by rw [hw1]; exact Blk.new w 24 p.vals
  have hQ : Blk w2 w1.heap.size 24 q.vals := by rw [hw2]; exact Blk.new w1 24 q.vals
  have hP2 := hP.stays hB2
  have r1 := hP2.row 0 3 (by simp [Parts.len])
  have r2 := hQ.row 0 3 (by simp [Parts.len])
  rw [show (p.vals.drop 0).take 3 = p.vals from rfl] at r1
  rw [show (q.vals.drop 0).take 3 = q.vals from rfl] at r2
  have l1 : w.heap.size < w2.heap.size := hP2.lt
  have l2 : w1.heap.size < w2.heap.size := hQ.lt
  have hsz1 : w1.heap.size = w.heap.size + 1 := by rw [hw1]; simp
  rw [hsz1] at r2 l2
  have HB := Lib.hid (below_then hB1 hB2)
  have HW2 := Lib.hid (hW.below (below_then hB1 hB2))
  have K1 := Lib.hid (fun W => fhMake_any p W hp)
  have K2 := Lib.hid (fun W => fhMake_any q W hq)
  have KT := Lib.hid (fun (s : List UInt8) (W : World) (h : s.length ≤ 16) (hs : FhW W) => fhText_any s W (by omega) hs.1 hs.2)
  have KN := Lib.hid (fun (W : World) (hs : FhW W) => known3_any W hs.1 hs.2)
  have m1 := fhMake_len p
  have m2 := fhMake_len q
  have HPQ := Lib.hid (And.intro hp hq)
  have HW1 := Lib.hid hw1
  have HW22 := Lib.hid hw2
  obtain ⟨x, hx⟩ : ∃ x, x = fhMake p := ⟨_, rfl⟩
  obtain ⟨y, hy⟩ : ∃ y, y = fhMake q := ⟨_, rfl⟩
  rw [← hx] at m1 K1
  rw [← hy] at m2 K2
  have HR1 := Lib.hid r1
  have HR2 := Lib.hid r2
  have HX := Lib.hid hx
  have HY := Lib.hid hy
  clear hB1 hB2 hP hQ hP2 hW hp hq hw1 hw2 hx hy hsz1
  go_enter Tryd.func4, Tryd.ntmps4
  go_upto_region 1 with fail
  change Code.wp _ _ _ _ ((w.alloc (.cells p.vals.toArray 24)).alloc (.cells q.vals.toArray 24))
  rw [← HW1.out, ← HW22.out]
  try rw [show (w.alloc (.cells p.vals.toArray 24)).heap.size = w1.heap.size by rw [← HW1.out]]
  go_region_held3 (fun W => Stb w2 W) (first | exact Stb.start | assumption | (exact Stb.call (by first | assumption | exact Stb.start) hb1)) (first
    | (go_at_call_of 15 (p.vals.toArray); refine (K1.out _).mono ?_; rintro e w3 ⟨rfl, hb1⟩)
    | (go_at_call_of 15 (q.vals.toArray); refine (K2.out _).mono ?_; rintro e w3 ⟨rfl, hb1⟩))
  have hcase : (x = [] ∨ y = []) ∨ ((x == []) = false ∧ (y == []) = false ∧ (x == y) = decide (p = q) ∧ (fhText x == fhText y) = decide (p = q)) := by
    rw [HX.out, HY.out]
    cases h1 : p.mayF with
    | false => exact .inl (.inl (make_no h1))
    | true =>
      cases h2 : q.mayF with
      | false => exact .inl (.inr (make_no h2))
      | true =>
        refine .inr ?_
        rw [make_ok h1, make_ok h2, fhText_make h1 HPQ.out.1.2, fhText_make h2 HPQ.out.2.2]
        refine ⟨beq_false_of_ne (fhB_ne p), beq_false_of_ne (fhB_ne q), ?_, ?_⟩
        · rw [Bool.eq_iff_iff, beq_iff_eq, decide_eq_true_eq]
          exact ⟨fhB_inj h1 h2 HPQ.out.1.2 HPQ.out.2.2, fun e => by rw [e]⟩
        · rw [Bool.eq_iff_iff, beq_iff_eq, decide_eq_true_eq]
          exact ⟨fhTx_inj h1 h2, fun e => by rw [e]⟩
  have HCASE := Lib.hid hcase
  clear hcase HX HY HPQ
  all_goals
    have hcase := HCASE.out
    rename Stb w2 _ => hsb
    rcases hcase with hno | ⟨c1, c2, c3, c4⟩
    · have HNO := Lib.hid hno
      have K3 := Lib.hid (KN.out _ (HW2.out.below hsb.2.2))
      have HBB := Lib.hid (below_then HB.out hsb.2.2)
      rcases hno with hno | hno
      all_goals
        subst hno
        go_wp2_with (first | (refine K3.out.mono ?_; rintro e w4 ⟨rfl, hb4⟩; go_wp2; go_ret; exact ⟨rfl, below_then HBB.out hb4⟩) | fail)
        all_goals
          trace_state
          sorry
    · clear HCASE r1 r2
      have r1 := HR1.out
      have r2 := HR2.out
      go_upto_region 4 with fail
      go_region_held3 (fun W => Stb w2 W) (first | assumption | exact Stb.of hsb.2.2.drew | (exact Stb.call (by first | assumption | exact Stb.of hsb.2.2.drew) hb1)) (first
        | (go_at_call_of 14 (bs x); refine (KT.out x _ m1 (HW2.out.below (by first | exact (by assumption : Stb w2 _).2.2 | exact hsb.2.2.drew))).mono ?_; rintro e w4 ⟨rfl, hb1⟩)
        | (go_at_call_of 14 (bs y); refine (KT.out y _ m2 (HW2.out.below (by first | exact (by assumption : Stb w2 _).2.2 | exact hsb.2.2.drew))).mono ?_; rintro e w4 ⟨rfl, hb1⟩)
        | (go_at_call 11; refine (KN.out _ (HW2.out.below (by first | exact (by assumption : Stb w2 _).2.2 | exact hsb.2.2.drew))).mono ?_; rintro e w4 ⟨rfl, hb1⟩))
      all_goals
        rename Stb w2 _ => hse
        go_wp2
        go_ret
        exact ⟨rfl, below_then HB.out hse.2.2⟩
end Go.Proofs.YtlblenojhfeboaaDoor

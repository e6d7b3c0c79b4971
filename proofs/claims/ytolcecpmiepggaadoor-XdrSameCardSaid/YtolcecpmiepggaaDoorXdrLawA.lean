/-
  Layer 1, walks: the law XdrReads. No condition but machine numbers.
-/
import Derived.Test.YtolcecpmiepggaaDoorXdrTake
import Derived.Test.YtolcecpmiepggaaDoorXdrWalkF
import Derived.Test.YtolcecpmiepggaaDoorStructEq
namespace Go.Proofs.YtolcecpmiepggaaDoor
open Go.RowKit
attribute [local go_sem ↓] Go.wp_at_zero Go.wp_at_succ
attribute [local go_sem] rowAt_ptr rowOf_drew rowOf_drewN rowOf_alloc_past rowOf_new
attribute [local go_sem ↓] ldThing

attribute [local go_sem] Thing.tlat0 Thing.tlat1 Thing.tlat2 Thing.tlat3

def otherKind (k : Int) : Prop := k ≠ 1 ∧ k ≠ 2 ∧ k ≠ 3 ∧ k ≠ 4 ∧ k ≠ 5 ∧ k ≠ 6
theorem tTake_other {k n : Int} {r : Rs} (h : otherKind k) : tTake k n r = (⟨k, 0, false, []⟩, r) := by
  obtain ⟨h1, h2, h3, h4, h5, h6⟩ := h
  simp [tTake, h1, h2, h3, h4, h5, h6]
theorem infoThing : (Tryd.prog.info? 43).map (fun i => (i.zero, i.size)) = some (some (.agg thing0.vals.toArray), 4) := by kernel_rfl

set_option maxHeartbeats 800000 in
theorem take_none (g : Nat) (k n : Int) (r : Rs) (w : World) (hR : Rd w g r) (h : otherKind k) : Calls Tryd.prog 28 #[.pointer (some ⟨g, 0, none⟩), .int .i64 k, .int .i64 n] w (Gave g (tTake k n r).2 (.agg (tTake k n r).1.vals.toArray) w) := by
  have hs0 : (w.alloc (.cells thing0.vals.toArray 43)).heap.size = w.heap.size + 1 := by simp
  have hb0 := (Blk.new w 43 thing0.vals).alloc (.cells (Thing.mk k 0 false []).vals.toArray 43)
  have hb1 := Blk.new (w.alloc (.cells thing0.vals.toArray 43)) 43 (Thing.mk k 0 false []).vals
  rw [hs0] at hb1
  have hB0 : Below w.heap.size w (w.alloc (.cells thing0.vals.toArray 43)) := (Below.refl _ _).alloc (Nat.le_refl _) _
  have hB := hB0.alloc hB0.size (.cells (Thing.mk k 0 false []).vals.toArray 43)
  have hlt := hR.lt
  have HQ := Lib.hid ((Reads.behind hB (Reads.refl (hR.stays hB))).lay (cs := (Thing.mk k 0 false []).vals) hb0 rfl (by omega) (Nat.le_refl _))
  have HF := Lib.hid (tTake_other (n := n) (r := r) h)
  obtain ⟨h1, h2, h3, h4, h5, h6⟩ := h
  have r1 : rowOf ((w.alloc (.cells thing0.vals.toArray 43)).alloc (.cells (Thing.mk k 0 false []).vals.toArray 43)) (w.heap.size + 1) 0 4 = some (Thing.mk k 0 false []).vals.toArray := hb1.row 0 4 (by rw [Thing.tlen]; omega)
  clear hb1 hB0 hs0 hB hR
  have tok : True := trivial
  go_enter Tryd.func28, Tryd.ntmps28
  go_wp2_with (first | (clear tok; refine wpList_store_whole (by rfl) 43 _ _ (by rfl) w.heap.size (Thing.mk k 0 false []).vals _ hb0 (by rfl) (by rfl) (by rfl) (by kernel_rfl) (Thing.one _) ?_) | fail)
  refine ret_cells w.heap.size 0 (Thing.mk k 0 false []).vals Tryd.results28 Tryd.underlying43 rfl (by kernel_rfl) rfl HQ.out.2.range rfl ?_
  rw [HF.out]
  exact ⟨rfl, HQ.out.1⟩
set_option maxHeartbeats 800000 in
theorem takeF_none (g : Nat) (k n : Int) (r : Rs) (w : World) (hR : RdF w g r) (h : otherKind k) : Calls Tryd.prog 35 #[.pointer (some ⟨g, 0, none⟩), .int .i64 k, .int .i64 n] w (GaveF g (tTake k n r).2 (.agg (tTake k n r).1.vals.toArray) w) := by
  have hs0 : (w.alloc (.cells thing0.vals.toArray 43)).heap.size = w.heap.size + 1 := by simp
  have hb0 := (Blk.new w 43 thing0.vals).alloc (.cells (Thing.mk k 0 false []).vals.toArray 43)
  have hb1 := Blk.new (w.alloc (.cells thing0.vals.toArray 43)) 43 (Thing.mk k 0 false []).vals
  rw [hs0] at hb1
  have hB0 : Below w.heap.size w (w.alloc (.cells thing0.vals.toArray 43)) := (Below.refl _ _).alloc (Nat.le_refl _) _
  have hB := hB0.alloc hB0.size (.cells (Thing.mk k 0 false []).vals.toArray 43)
  have hlt := hR.lt
  have HQ := Lib.hid ((ReadsF.behind hB (ReadsF.refl (hR.stays hB))).lay (cs := (Thing.mk k 0 false []).vals) hb0 rfl (by omega) (Nat.le_refl _))
  have HF := Lib.hid (tTake_other (n := n) (r := r) h)
  obtain ⟨h1, h2, h3, h4, h5, h6⟩ := h
  have r1 : rowOf ((w.alloc (.cells thing0.vals.toArray 43)).alloc (.cells (Thing.mk k 0 false []).vals.toArray 43)) (w.heap.size + 1) 0 4 = some (Thing.mk k 0 false []).vals.toArray := hb1.row 0 4 (by rw [Thing.tlen]; omega)
  clear hb1 hB0 hs0 hB hR
  have tok : True := trivial
  go_enter Tryd.func35, Tryd.ntmps35
  go_wp2_with (first | (clear tok; refine wpList_store_whole (by rfl) 43 _ _ (by rfl) w.heap.size (Thing.mk k 0 false []).vals _ hb0 (by rfl) (by rfl) (by rfl) (by kernel_rfl) (Thing.one _) ?_) | fail)
  refine ret_cells w.heap.size 0 (Thing.mk k 0 false []).vals Tryd.results35 Tryd.underlying43 rfl (by kernel_rfl) rfl HQ.out.2.range rfl ?_
  rw [HF.out]
  exact ⟨rfl, HQ.out.1⟩
theorem kind_cases (k : Int) : k = 1 ∨ k = 2 ∨ k = 3 ∨ k = 4 ∨ k = 5 ∨ k = 6 ∨ otherKind k := by unfold otherKind; omega
theorem take_any (g : Nat) (k n : Int) (r : Rs) (w : World) (hR : Rd w g r) (hn : n ≤ 9223372036854775807) (hl : r.s.length ≤ 9223372036854775807) : Calls Tryd.prog 28 #[.pointer (some ⟨g, 0, none⟩), .int .i64 k, .int .i64 n] w (Gave g (tTake k n r).2 (.agg (tTake k n r).1.vals.toArray) w) := by
  rcases kind_cases k with rfl | rfl | rfl | rfl | rfl | rfl | h
  · exact take_1 g n r w hR hn hl
  · exact take_2 g n r w hR hn hl
  · exact take_3 g n r w hR hn hl
  · exact take_4 g n r w hR hn hl
  · exact take_5 g n r w hR hn hl
  · exact take_6 g n r w hR hn hl
  · exact take_none g k n r w hR h
theorem takeF_any (g : Nat) (k n : Int) (r : Rs) (w : World) (hR : RdF w g r) (hn : n ≤ 9223372036854775807) (hl : r.s.length ≤ 9223372036854775807) : Calls Tryd.prog 35 #[.pointer (some ⟨g, 0, none⟩), .int .i64 k, .int .i64 n] w (GaveF g (tTake k n r).2 (.agg (tTake k n r).1.vals.toArray) w) := by
  rcases kind_cases k with rfl | rfl | rfl | rfl | rfl | rfl | h
  · exact takeF_1 g n r w hR hn hl
  · exact takeF_2 g n r w hR hn hl
  · exact takeF_3 g n r w hR hn hl
  · exact takeF_4 g n r w hR hn hl
  · exact takeF_5 g n r w hR hn hl
  · exact takeF_6 g n r w hR hn hl
  · exact takeF_none g k n r w hR h
theorem rFixed_len {n : Int} {r : Rs} (h : r.s.length ≤ 9223372036854775807) : (rFixed n r).2.s.length ≤ r.s.length := by
  unfold rFixed; split
  · exact Nat.le_refl _
  · split
    · simp [Rs.fail]
    · exact rPadded_len h
theorem rOpaque_len {n : Int} {r : Rs} (h : r.s.length ≤ 9223372036854775807) : (rOpaque n r).2.s.length ≤ r.s.length := by
  unfold rOpaque; split
  · exact rU32_len h
  · split
    · simp [Rs.fail]
    · exact Nat.le_trans (rPadded_len (Nat.le_trans (rU32_len h) h)) (rU32_len h)
theorem tTake_len {k n : Int} {r : Rs} (h : r.s.length ≤ 9223372036854775807) : (tTake k n r).2.s.length ≤ r.s.length := by
  rcases kind_cases k with rfl | rfl | rfl | rfl | rfl | rfl | hk
  · exact rU32_len h
  · exact rU64_len h
  · exact rBool_len h
  · exact rFixed_len h
  · exact rOpaque_len h
  · exact rOpt_len h
  · rw [tTake_other hk]; exact Nat.le_refl _
end Go.Proofs.YtolcecpmiepggaaDoor

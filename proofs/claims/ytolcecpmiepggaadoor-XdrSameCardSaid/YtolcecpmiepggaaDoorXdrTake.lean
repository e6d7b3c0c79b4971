/-
  Layer 1, walks: a thing of a kind is taken, by the program's reader and by the document's (written by wip/tools/gentake.py). Conditions: sizes.
-/
import Derived.Test.YtolcecpmiepggaaDoorXdrReadD
import Derived.Test.YtolcecpmiepggaaDoorRefReadC
import Derived.Test.YtolcecpmiepggaaDoorRefReadB
import Derived.Test.YtolcecpmiepggaaDoorXdrThing
namespace Go.Proofs.YtolcecpmiepggaaDoor
open Go.RowKit
attribute [local go_sem ↓] Go.wp_at_zero Go.wp_at_succ
attribute [local go_sem] rowAt_ptr rowOf_drew rowOf_drewN rowOf_alloc_past rowOf_new
theorem Thing.tlen (x : Thing) : x.vals.length = 4 := rfl
theorem Thing.tlat0 (x : Thing) : x.vals[0]? = some (.int .i64 x.kind) := rfl
theorem Thing.tlat1 (x : Thing) : x.vals[1]? = some (.int .i64 x.n) := rfl
theorem Thing.tlat2 (x : Thing) : x.vals[2]? = some (.bool x.is) := rfl
theorem Thing.tlat3 (x : Thing) : x.vals[3]? = some (.string (bs x.s)) := rfl
theorem ldThing {ρ : Operand → Value} {w : World} {dst : Option Tmp} {ty : TypeId} {pos : String} {after : Array Edge} {g : Option (Nat × Bool)} {x : Operand} (h : (rowAt w 4 (ρ x)).isSome = true) :
    (execOp ρ ⟨dst, .load 43 x, ty, pos, after, g⟩).run Tryd.prog w = .ok (.value (.agg ((rowAt w 4 (ρ x)).getD #[]))) w := ex_load 43 4 Tryd.underlying43 rfl (by kernel_rfl) h
theorem Reads.poke {w wx : World} {g b o : Nat} {r : Rs} (h : Reads g r w wx) (hne : b ≠ g) (hB : w.heap.size ≤ b) (v : Value) : Reads g r w (wx.setCell ⟨b, o, none⟩ v) :=
  ⟨h.1.touch ((Touch.refl (fun k => k = b) wx).setCell_ (g := b) (o := o) (.inl rfl) v) (fun e => hne e.symm), h.2.setCell_ (g := b) (o := o) (.inr hB) v⟩
theorem ReadsF.poke {w wx : World} {g b o : Nat} {r : Rs} (h : ReadsF g r w wx) (hne : b ≠ g) (hB : w.heap.size ≤ b) (v : Value) : ReadsF g r w (wx.setCell ⟨b, o, none⟩ v) :=
  ⟨h.1.touch ((Touch.refl (fun k => k = b) wx).setCell_ (g := b) (o := o) (.inl rfl) v) (fun e => hne e.symm), h.2.setCell_ (g := b) (o := o) (.inr hB) v⟩

/-- a thing of a kind is taken -/
def tTake (k n : Int) (r : Rs) : Thing × Rs :=
  if k = 1 then (⟨k, (rU32 r).1, false, []⟩, (rU32 r).2)
  else if k = 2 then (⟨k, (rU64 r).1, false, []⟩, (rU64 r).2)
  else if k = 3 then (⟨k, 0, (rBool r).1, []⟩, (rBool r).2)
  else if k = 4 then (⟨k, 0, false, (rFixed n r).1⟩, (rFixed n r).2)
  else if k = 5 then (⟨k, 0, false, (rOpaque n r).1⟩, (rOpaque n r).2)
  else if k = 6 then (⟨k, (rOpt r).1.2, (rOpt r).1.1, []⟩, (rOpt r).2)
  else (⟨k, 0, false, []⟩, r)
def thing0 : Thing := ⟨0, 0, false, []⟩
attribute [local go_sem ↓] ldThing

theorem optV_lat0 (o : Bool × Nat) : (optV o)[0]? = some (.bool o.1) := rfl
theorem optV_lat1 (o : Bool × Nat) : (optV o)[1]? = some (.int .i64 o.2) := rfl
attribute [local go_sem] optV_lat0 optV_lat1 Thing.tlat0 Thing.tlat1 Thing.tlat2 Thing.tlat3

set_option maxRecDepth 20000 in
set_option maxHeartbeats 1600000 in
theorem take_1 (g : Nat) (n : Int) (r : Rs) (w : World) (hR : Rd w g r) (hn : n ≤ 9223372036854775807) (hl : r.s.length ≤ 9223372036854775807) : Calls Tryd.prog 28 #[.pointer (some ⟨g, 0, none⟩), .int .i64 1, .int .i64 n] w (Gave g (tTake 1 n r).2 (.agg (tTake 1 n r).1.vals.toArray) w) := by
  have hs0 : (w.alloc (.cells thing0.vals.toArray 43)).heap.size = w.heap.size + 1 := by simp
  have hb0 := (Blk.new w 43 thing0.vals).alloc (.cells (Thing.mk 1 0 false []).vals.toArray 43)
  have hb1 := Blk.new (w.alloc (.cells thing0.vals.toArray 43)) 43 (Thing.mk 1 0 false []).vals
  rw [hs0] at hb1
  have hB0 : Below w.heap.size w (w.alloc (.cells thing0.vals.toArray 43)) := (Below.refl _ _).alloc (Nat.le_refl _) _
  have hB := hB0.alloc hB0.size (.cells (Thing.mk 1 0 false []).vals.toArray 43)
  have hR1 := hR.stays hB
  have hlt := hR.lt
  have hq := rU32_any g r _ hR1 hl
  have HF := Lib.hid (show tTake 1 n r = (⟨1, (rU32 r).1, false, []⟩, (rU32 r).2) by simp [tTake])
  generalize rU32 r = x at *
  obtain ⟨v, r2⟩ := x
  simp only at HF hq
  have HQ0 := Lib.hid hq
  clear hq hB0 hs0 hR hR1
  go_enter Tryd.func28, Tryd.ntmps28
  go_wp2_with fail
  refine HQ0.out.mono ?_
  rintro e w1 ⟨rfl, hQ⟩
  have hc0 := hQ.keeps hb0 (by omega)
  have hc1 := hQ.keeps hb1 (by omega)
  have hQ2 := Reads.behind hB hQ
  clear HQ0 hQ hb0 hb1 hB
  have hcell := hc1.cell
  have hfz := hc1.frozen
  have hd1 : Blk (w1.setCell ⟨w.heap.size + 1, 1, none⟩ (.int .i64 v)) (w.heap.size + 1) 43 (Thing.mk 1 v false []).vals := hc1.set_ 1 (.int .i64 v)
  have hd0 : Blk (w1.setCell ⟨w.heap.size + 1, 1, none⟩ (.int .i64 v)) w.heap.size 43 thing0.vals := hc0.far (p := ⟨w.heap.size + 1, 1, none⟩) (by show w.heap.size ≠ w.heap.size + 1; omega) _
  have hQ3 := hQ2.poke (b := w.heap.size + 1) (o := 1) (by omega) (by omega) (.int .i64 v)
  have r1 : rowOf (w1.setCell ⟨w.heap.size + 1, 1, none⟩ (.int .i64 v)) (w.heap.size + 1) 0 4 = some (Thing.mk 1 v false []).vals.toArray := hd1.row 0 4 (by rw [Thing.tlen]; omega)
  have HQ := Lib.hid (hQ3.lay (cs := (Thing.mk 1 v false []).vals) hd0 rfl (by omega) (Nat.le_refl _))
  clear hc0 hc1 hd1 hQ2 hQ3
  have tok : True := trivial
  go_wp2_with (first | (clear tok; refine wpList_store_whole (by rfl) 43 _ _ (by rfl) w.heap.size (Thing.mk 1 v false []).vals _ hd0 (by rfl) (by rfl) (by rfl) (by kernel_rfl) (Thing.one _) ?_) | fail)
  refine ret_cells w.heap.size 0 (Thing.mk 1 v false []).vals Tryd.results28 Tryd.underlying43 rfl (by kernel_rfl) rfl HQ.out.2.range rfl ?_
  rw [HF.out]
  exact ⟨rfl, HQ.out.1⟩
set_option maxRecDepth 20000 in
set_option maxHeartbeats 1600000 in
theorem take_2 (g : Nat) (n : Int) (r : Rs) (w : World) (hR : Rd w g r) (hn : n ≤ 9223372036854775807) (hl : r.s.length ≤ 9223372036854775807) : Calls Tryd.prog 28 #[.pointer (some ⟨g, 0, none⟩), .int .i64 2, .int .i64 n] w (Gave g (tTake 2 n r).2 (.agg (tTake 2 n r).1.vals.toArray) w) := by
  have hs0 : (w.alloc (.cells thing0.vals.toArray 43)).heap.size = w.heap.size + 1 := by simp
  have hb0 := (Blk.new w 43 thing0.vals).alloc (.cells (Thing.mk 2 0 false []).vals.toArray 43)
  have hb1 := Blk.new (w.alloc (.cells thing0.vals.toArray 43)) 43 (Thing.mk 2 0 false []).vals
  rw [hs0] at hb1
  have hB0 : Below w.heap.size w (w.alloc (.cells thing0.vals.toArray 43)) := (Below.refl _ _).alloc (Nat.le_refl _) _
  have hB := hB0.alloc hB0.size (.cells (Thing.mk 2 0 false []).vals.toArray 43)
  have hR1 := hR.stays hB
  have hlt := hR.lt
  have hq := rU64_any g r _ hR1 hl
  have HF := Lib.hid (show tTake 2 n r = (⟨2, (rU64 r).1, false, []⟩, (rU64 r).2) by simp [tTake])
  generalize rU64 r = x at *
  obtain ⟨v, r2⟩ := x
  simp only at HF hq
  have HQ0 := Lib.hid hq
  clear hq hB0 hs0 hR hR1
  go_enter Tryd.func28, Tryd.ntmps28
  go_wp2_with fail
  refine HQ0.out.mono ?_
  rintro e w1 ⟨rfl, hQ⟩
  have hc0 := hQ.keeps hb0 (by omega)
  have hc1 := hQ.keeps hb1 (by omega)
  have hQ2 := Reads.behind hB hQ
  clear HQ0 hQ hb0 hb1 hB
  have hcell := hc1.cell
  have hfz := hc1.frozen
  have hd1 : Blk (w1.setCell ⟨w.heap.size + 1, 1, none⟩ (.int .i64 v)) (w.heap.size + 1) 43 (Thing.mk 2 v false []).vals := hc1.set_ 1 (.int .i64 v)
  have hd0 : Blk (w1.setCell ⟨w.heap.size + 1, 1, none⟩ (.int .i64 v)) w.heap.size 43 thing0.vals := hc0.far (p := ⟨w.heap.size + 1, 1, none⟩) (by show w.heap.size ≠ w.heap.size + 1; omega) _
  have hQ3 := hQ2.poke (b := w.heap.size + 1) (o := 1) (by omega) (by omega) (.int .i64 v)
  have r1 : rowOf (w1.setCell ⟨w.heap.size + 1, 1, none⟩ (.int .i64 v)) (w.heap.size + 1) 0 4 = some (Thing.mk 2 v false []).vals.toArray := hd1.row 0 4 (by rw [Thing.tlen]; omega)
  have HQ := Lib.hid (hQ3.lay (cs := (Thing.mk 2 v false []).vals) hd0 rfl (by omega) (Nat.le_refl _))
  clear hc0 hc1 hd1 hQ2 hQ3
  have tok : True := trivial
  go_wp2_with (first | (clear tok; refine wpList_store_whole (by rfl) 43 _ _ (by rfl) w.heap.size (Thing.mk 2 v false []).vals _ hd0 (by rfl) (by rfl) (by rfl) (by kernel_rfl) (Thing.one _) ?_) | fail)
  refine ret_cells w.heap.size 0 (Thing.mk 2 v false []).vals Tryd.results28 Tryd.underlying43 rfl (by kernel_rfl) rfl HQ.out.2.range rfl ?_
  rw [HF.out]
  exact ⟨rfl, HQ.out.1⟩
set_option maxRecDepth 20000 in
set_option maxHeartbeats 1600000 in
theorem take_3 (g : Nat) (n : Int) (r : Rs) (w : World) (hR : Rd w g r) (hn : n ≤ 9223372036854775807) (hl : r.s.length ≤ 9223372036854775807) : Calls Tryd.prog 28 #[.pointer (some ⟨g, 0, none⟩), .int .i64 3, .int .i64 n] w (Gave g (tTake 3 n r).2 (.agg (tTake 3 n r).1.vals.toArray) w) := by
  have hs0 : (w.alloc (.cells thing0.vals.toArray 43)).heap.size = w.heap.size + 1 := by simp
  have hb0 := (Blk.new w 43 thing0.vals).alloc (.cells (Thing.mk 3 0 false []).vals.toArray 43)
  have hb1 := Blk.new (w.alloc (.cells thing0.vals.toArray 43)) 43 (Thing.mk 3 0 false []).vals
  rw [hs0] at hb1
  have hB0 : Below w.heap.size w (w.alloc (.cells thing0.vals.toArray 43)) := (Below.refl _ _).alloc (Nat.le_refl _) _
  have hB := hB0.alloc hB0.size (.cells (Thing.mk 3 0 false []).vals.toArray 43)
  have hR1 := hR.stays hB
  have hlt := hR.lt
  have hq := rBool_any g r _ hR1 hl
  have HF := Lib.hid (show tTake 3 n r = (⟨3, 0, (rBool r).1, []⟩, (rBool r).2) by simp [tTake])
  generalize rBool r = x at *
  obtain ⟨v, r2⟩ := x
  simp only at HF hq
  have HQ0 := Lib.hid hq
  clear hq hB0 hs0 hR hR1
  go_enter Tryd.func28, Tryd.ntmps28
  go_wp2_with fail
  refine HQ0.out.mono ?_
  rintro e w1 ⟨rfl, hQ⟩
  have hc0 := hQ.keeps hb0 (by omega)
  have hc1 := hQ.keeps hb1 (by omega)
  have hQ2 := Reads.behind hB hQ
  clear HQ0 hQ hb0 hb1 hB
  have hcell := hc1.cell
  have hfz := hc1.frozen
  have hd1 : Blk (w1.setCell ⟨w.heap.size + 1, 2, none⟩ (.bool v)) (w.heap.size + 1) 43 (Thing.mk 3 0 v []).vals := hc1.set_ 2 (.bool v)
  have hd0 : Blk (w1.setCell ⟨w.heap.size + 1, 2, none⟩ (.bool v)) w.heap.size 43 thing0.vals := hc0.far (p := ⟨w.heap.size + 1, 2, none⟩) (by show w.heap.size ≠ w.heap.size + 1; omega) _
  have hQ3 := hQ2.poke (b := w.heap.size + 1) (o := 2) (by omega) (by omega) (.bool v)
  have r1 : rowOf (w1.setCell ⟨w.heap.size + 1, 2, none⟩ (.bool v)) (w.heap.size + 1) 0 4 = some (Thing.mk 3 0 v []).vals.toArray := hd1.row 0 4 (by rw [Thing.tlen]; omega)
  have HQ := Lib.hid (hQ3.lay (cs := (Thing.mk 3 0 v []).vals) hd0 rfl (by omega) (Nat.le_refl _))
  clear hc0 hc1 hd1 hQ2 hQ3
  have tok : True := trivial
  go_wp2_with (first | (clear tok; refine wpList_store_whole (by rfl) 43 _ _ (by rfl) w.heap.size (Thing.mk 3 0 v []).vals _ hd0 (by rfl) (by rfl) (by rfl) (by kernel_rfl) (Thing.one _) ?_) | fail)
  refine ret_cells w.heap.size 0 (Thing.mk 3 0 v []).vals Tryd.results28 Tryd.underlying43 rfl (by kernel_rfl) rfl HQ.out.2.range rfl ?_
  rw [HF.out]
  exact ⟨rfl, HQ.out.1⟩
set_option maxRecDepth 20000 in
set_option maxHeartbeats 1600000 in
theorem take_4 (g : Nat) (n : Int) (r : Rs) (w : World) (hR : Rd w g r) (hn : n ≤ 9223372036854775807) (hl : r.s.length ≤ 9223372036854775807) : Calls Tryd.prog 28 #[.pointer (some ⟨g, 0, none⟩), .int .i64 4, .int .i64 n] w (Gave g (tTake 4 n r).2 (.agg (tTake 4 n r).1.vals.toArray) w) := by
  have hs0 : (w.alloc (.cells thing0.vals.toArray 43)).heap.size = w.heap.size + 1 := by simp
  have hb0 := (Blk.new w 43 thing0.vals).alloc (.cells (Thing.mk 4 0 false []).vals.toArray 43)
  have hb1 := Blk.new (w.alloc (.cells thing0.vals.toArray 43)) 43 (Thing.mk 4 0 false []).vals
  rw [hs0] at hb1
  have hB0 : Below w.heap.size w (w.alloc (.cells thing0.vals.toArray 43)) := (Below.refl _ _).alloc (Nat.le_refl _) _
  have hB := hB0.alloc hB0.size (.cells (Thing.mk 4 0 false []).vals.toArray 43)
  have hR1 := hR.stays hB
  have hlt := hR.lt
  have hq := rFixed_any g n r _ hR1 hn hl
  have HF := Lib.hid (show tTake 4 n r = (⟨4, 0, false, (rFixed n r).1⟩, (rFixed n r).2) by simp [tTake])
  generalize rFixed n r = x at *
  obtain ⟨v, r2⟩ := x
  simp only at HF hq
  have HQ0 := Lib.hid hq
  clear hq hB0 hs0 hR hR1
  go_enter Tryd.func28, Tryd.ntmps28
  go_wp2_with fail
  refine HQ0.out.mono ?_
  rintro e w1 ⟨rfl, hQ⟩
  have hc0 := hQ.keeps hb0 (by omega)
  have hc1 := hQ.keeps hb1 (by omega)
  have hQ2 := Reads.behind hB hQ
  clear HQ0 hQ hb0 hb1 hB
  have hcell := hc1.cell
  have hfz := hc1.frozen
  have hd1 : Blk (w1.setCell ⟨w.heap.size + 1, 3, none⟩ (.string (bs v))) (w.heap.size + 1) 43 (Thing.mk 4 0 false v).vals := hc1.set_ 3 (.string (bs v))
  have hd0 : Blk (w1.setCell ⟨w.heap.size + 1, 3, none⟩ (.string (bs v))) w.heap.size 43 thing0.vals := hc0.far (p := ⟨w.heap.size + 1, 3, none⟩) (by show w.heap.size ≠ w.heap.size + 1; omega) _
  have hQ3 := hQ2.poke (b := w.heap.size + 1) (o := 3) (by omega) (by omega) (.string (bs v))
  have r1 : rowOf (w1.setCell ⟨w.heap.size + 1, 3, none⟩ (.string (bs v))) (w.heap.size + 1) 0 4 = some (Thing.mk 4 0 false v).vals.toArray := hd1.row 0 4 (by rw [Thing.tlen]; omega)
  have HQ := Lib.hid (hQ3.lay (cs := (Thing.mk 4 0 false v).vals) hd0 rfl (by omega) (Nat.le_refl _))
  clear hc0 hc1 hd1 hQ2 hQ3
  have tok : True := trivial
  go_wp2_with (first | (clear tok; refine wpList_store_whole (by rfl) 43 _ _ (by rfl) w.heap.size (Thing.mk 4 0 false v).vals _ hd0 (by rfl) (by rfl) (by rfl) (by kernel_rfl) (Thing.one _) ?_) | fail)
  refine ret_cells w.heap.size 0 (Thing.mk 4 0 false v).vals Tryd.results28 Tryd.underlying43 rfl (by kernel_rfl) rfl HQ.out.2.range rfl ?_
  rw [HF.out]
  exact ⟨rfl, HQ.out.1⟩
set_option maxRecDepth 20000 in
set_option maxHeartbeats 1600000 in
theorem take_5 (g : Nat) (n : Int) (r : Rs) (w : World) (hR : Rd w g r) (hn : n ≤ 9223372036854775807) (hl : r.s.length ≤ 9223372036854775807) : Calls Tryd.prog 28 #[.pointer (some ⟨g, 0, none⟩), .int .i64 5, .int .i64 n] w (Gave g (tTake 5 n r).2 (.agg (tTake 5 n r).1.vals.toArray) w) := by
  have hs0 : (w.alloc (.cells thing0.vals.toArray 43)).heap.size = w.heap.size + 1 := by simp
  have hb0 := (Blk.new w 43 thing0.vals).alloc (.cells (Thing.mk 5 0 false []).vals.toArray 43)
  have hb1 := Blk.new (w.alloc (.cells thing0.vals.toArray 43)) 43 (Thing.mk 5 0 false []).vals
  rw [hs0] at hb1
  have hB0 : Below w.heap.size w (w.alloc (.cells thing0.vals.toArray 43)) := (Below.refl _ _).alloc (Nat.le_refl _) _
  have hB := hB0.alloc hB0.size (.cells (Thing.mk 5 0 false []).vals.toArray 43)
  have hR1 := hR.stays hB
  have hlt := hR.lt
  have hq := rOpaque_any g n r _ hR1 hl
  have HF := Lib.hid (show tTake 5 n r = (⟨5, 0, false, (rOpaque n r).1⟩, (rOpaque n r).2) by simp [tTake])
  generalize rOpaque n r = x at *
  obtain ⟨v, r2⟩ := x
  simp only at HF hq
  have HQ0 := Lib.hid hq
  clear hq hB0 hs0 hR hR1
  go_enter Tryd.func28, Tryd.ntmps28
  go_wp2_with fail
  refine HQ0.out.mono ?_
  rintro e w1 ⟨rfl, hQ⟩
  have hc0 := hQ.keeps hb0 (by omega)
  have hc1 := hQ.keeps hb1 (by omega)
  have hQ2 := Reads.behind hB hQ
  clear HQ0 hQ hb0 hb1 hB
  have hcell := hc1.cell
  have hfz := hc1.frozen
  have hd1 : Blk (w1.setCell ⟨w.heap.size + 1, 3, none⟩ (.string (bs v))) (w.heap.size + 1) 43 (Thing.mk 5 0 false v).vals := hc1.set_ 3 (.string (bs v))
  have hd0 : Blk (w1.setCell ⟨w.heap.size + 1, 3, none⟩ (.string (bs v))) w.heap.size 43 thing0.vals := hc0.far (p := ⟨w.heap.size + 1, 3, none⟩) (by show w.heap.size ≠ w.heap.size + 1; omega) _
  have hQ3 := hQ2.poke (b := w.heap.size + 1) (o := 3) (by omega) (by omega) (.string (bs v))
  have r1 : rowOf (w1.setCell ⟨w.heap.size + 1, 3, none⟩ (.string (bs v))) (w.heap.size + 1) 0 4 = some (Thing.mk 5 0 false v).vals.toArray := hd1.row 0 4 (by rw [Thing.tlen]; omega)
  have HQ := Lib.hid (hQ3.lay (cs := (Thing.mk 5 0 false v).vals) hd0 rfl (by omega) (Nat.le_refl _))
  clear hc0 hc1 hd1 hQ2 hQ3
  have tok : True := trivial
  go_wp2_with (first | (clear tok; refine wpList_store_whole (by rfl) 43 _ _ (by rfl) w.heap.size (Thing.mk 5 0 false v).vals _ hd0 (by rfl) (by rfl) (by rfl) (by kernel_rfl) (Thing.one _) ?_) | fail)
  refine ret_cells w.heap.size 0 (Thing.mk 5 0 false v).vals Tryd.results28 Tryd.underlying43 rfl (by kernel_rfl) rfl HQ.out.2.range rfl ?_
  rw [HF.out]
  exact ⟨rfl, HQ.out.1⟩
set_option maxRecDepth 20000 in
set_option maxHeartbeats 1600000 in
theorem take_6 (g : Nat) (n : Int) (r : Rs) (w : World) (hR : Rd w g r) (hn : n ≤ 9223372036854775807) (hl : r.s.length ≤ 9223372036854775807) : Calls Tryd.prog 28 #[.pointer (some ⟨g, 0, none⟩), .int .i64 6, .int .i64 n] w (Gave g (tTake 6 n r).2 (.agg (tTake 6 n r).1.vals.toArray) w) := by
  have hs0 : (w.alloc (.cells thing0.vals.toArray 43)).heap.size = w.heap.size + 1 := by simp
  have hb0 := (Blk.new w 43 thing0.vals).alloc (.cells (Thing.mk 6 0 false []).vals.toArray 43)
  have hb1 := Blk.new (w.alloc (.cells thing0.vals.toArray 43)) 43 (Thing.mk 6 0 false []).vals
  rw [hs0] at hb1
  have hB0 : Below w.heap.size w (w.alloc (.cells thing0.vals.toArray 43)) := (Below.refl _ _).alloc (Nat.le_refl _) _
  have hB := hB0.alloc hB0.size (.cells (Thing.mk 6 0 false []).vals.toArray 43)
  have hR1 := hR.stays hB
  have hlt := hR.lt
  have hq := rOpt_any g r _ hR1 hl
  have HF := Lib.hid (show tTake 6 n r = (⟨6, (rOpt r).1.2, (rOpt r).1.1, []⟩, (rOpt r).2) by simp [tTake])
  generalize rOpt r = x at *
  obtain ⟨v, r2⟩ := x
  simp only at HF hq
  have HQ0 := Lib.hid hq
  clear hq hB0 hs0 hR hR1
  go_enter Tryd.func28, Tryd.ntmps28
  go_wp2_with fail
  refine HQ0.out.mono ?_
  rintro e w1 ⟨rfl, hQ⟩
  have hc0 := hQ.keeps hb0 (by omega)
  have hc1 := hQ.keeps hb1 (by omega)
  have hQ2 := Reads.behind hB hQ
  clear HQ0 hQ hb0 hb1 hB
  have hcell := hc1.cell
  have hfz := hc1.frozen
  have hgo : w.heap.size + 1 < w1.heap.size := hc1.lt
  have hdm := hc1.set_ 2 (.bool v.1)
  have hcm := hdm.cell
  have hfm := hdm.frozen
  have hd1 : Blk (((w1.setCell ⟨w.heap.size + 1, 2, none⟩ (.bool v.1)).setCell ⟨w.heap.size + 1, 1, none⟩ (.int .i64 v.2)).alloc (.cells (optV v).toArray 81)) (w.heap.size + 1) 43 (Thing.mk 6 v.2 v.1 []).vals := (hdm.set_ 1 (.int .i64 v.2)).alloc (.cells (optV v).toArray 81)
  have hd0 : Blk (((w1.setCell ⟨w.heap.size + 1, 2, none⟩ (.bool v.1)).setCell ⟨w.heap.size + 1, 1, none⟩ (.int .i64 v.2)).alloc (.cells (optV v).toArray 81)) w.heap.size 43 thing0.vals := ((hc0.far (p := ⟨w.heap.size + 1, 2, none⟩) (by show w.heap.size ≠ w.heap.size + 1; omega) _).far (p := ⟨w.heap.size + 1, 1, none⟩) (by show w.heap.size ≠ w.heap.size + 1; omega) _).alloc (.cells (optV v).toArray 81)
  have hQ3 : Reads g r2 w (((w1.setCell ⟨w.heap.size + 1, 2, none⟩ (.bool v.1)).setCell ⟨w.heap.size + 1, 1, none⟩ (.int .i64 v.2)).alloc (.cells (optV v).toArray 81)) := ((hQ2.poke (b := w.heap.size + 1) (o := 2) (by omega) (by omega) (.bool v.1)).poke (b := w.heap.size + 1) (o := 1) (by omega) (by omega) (.int .i64 v.2)).new ((Below.refl _ _).alloc (Nat.le_refl _) (.cells (optV v).toArray 81))
  clear hdm
  have r1 : rowOf (((w1.setCell ⟨w.heap.size + 1, 2, none⟩ (.bool v.1)).setCell ⟨w.heap.size + 1, 1, none⟩ (.int .i64 v.2)).alloc (.cells (optV v).toArray 81)) (w.heap.size + 1) 0 4 = some (Thing.mk 6 v.2 v.1 []).vals.toArray := hd1.row 0 4 (by rw [Thing.tlen]; omega)
  have HQ := Lib.hid (hQ3.lay (cs := (Thing.mk 6 v.2 v.1 []).vals) hd0 rfl (by omega) (Nat.le_refl _))
  clear hc0 hc1 hd1 hQ2 hQ3
  have tok : True := trivial
  go_wp2_with (first | (refine wpList_new_struct (by rfl) (by rfl) 81 (by rfl) _ _ (by rfl) (optV v) infoOptR (by rfl) (by rfl) (optV_one _) (by rfl) (by rfl) ?_) | (clear tok; refine wpList_store_whole (by rfl) 43 _ _ (by rfl) w.heap.size (Thing.mk 6 v.2 v.1 []).vals _ hd0 (by rfl) (by rfl) (by rfl) (by kernel_rfl) (Thing.one _) ?_) | fail)
  refine ret_cells w.heap.size 0 (Thing.mk 6 v.2 v.1 []).vals Tryd.results28 Tryd.underlying43 rfl (by kernel_rfl) rfl HQ.out.2.range rfl ?_
  rw [HF.out]
  exact ⟨rfl, HQ.out.1⟩
set_option maxRecDepth 20000 in
set_option maxHeartbeats 1600000 in
theorem takeF_1 (g : Nat) (n : Int) (r : Rs) (w : World) (hR : RdF w g r) (hn : n ≤ 9223372036854775807) (hl : r.s.length ≤ 9223372036854775807) : Calls Tryd.prog 35 #[.pointer (some ⟨g, 0, none⟩), .int .i64 1, .int .i64 n] w (GaveF g (tTake 1 n r).2 (.agg (tTake 1 n r).1.vals.toArray) w) := by
  have hs0 : (w.alloc (.cells thing0.vals.toArray 43)).heap.size = w.heap.size + 1 := by simp
  have hb0 := (Blk.new w 43 thing0.vals).alloc (.cells (Thing.mk 1 0 false []).vals.toArray 43)
  have hb1 := Blk.new (w.alloc (.cells thing0.vals.toArray 43)) 43 (Thing.mk 1 0 false []).vals
  rw [hs0] at hb1
  have hB0 : Below w.heap.size w (w.alloc (.cells thing0.vals.toArray 43)) := (Below.refl _ _).alloc (Nat.le_refl _) _
  have hB := hB0.alloc hB0.size (.cells (Thing.mk 1 0 false []).vals.toArray 43)
  have hR1 := hR.stays hB
  have hlt := hR.lt
  have hq := refU4_any g r _ hR1
  have HF := Lib.hid (show tTake 1 n r = (⟨1, (rU32 r).1, false, []⟩, (rU32 r).2) by simp [tTake])
  generalize rU32 r = x at *
  obtain ⟨v, r2⟩ := x
  simp only at HF hq
  have HQ0 := Lib.hid hq
  clear hq hB0 hs0 hR hR1
  go_enter Tryd.func35, Tryd.ntmps35
  go_wp2_with fail
  refine HQ0.out.mono ?_
  rintro e w1 ⟨rfl, hQ⟩
  have hc0 := hQ.keeps hb0 (by omega)
  have hc1 := hQ.keeps hb1 (by omega)
  have hQ2 := ReadsF.behind hB hQ
  clear HQ0 hQ hb0 hb1 hB
  have hcell := hc1.cell
  have hfz := hc1.frozen
  have hd1 : Blk (w1.setCell ⟨w.heap.size + 1, 1, none⟩ (.int .i64 v)) (w.heap.size + 1) 43 (Thing.mk 1 v false []).vals := hc1.set_ 1 (.int .i64 v)
  have hd0 : Blk (w1.setCell ⟨w.heap.size + 1, 1, none⟩ (.int .i64 v)) w.heap.size 43 thing0.vals := hc0.far (p := ⟨w.heap.size + 1, 1, none⟩) (by show w.heap.size ≠ w.heap.size + 1; omega) _
  have hQ3 := hQ2.poke (b := w.heap.size + 1) (o := 1) (by omega) (by omega) (.int .i64 v)
  have r1 : rowOf (w1.setCell ⟨w.heap.size + 1, 1, none⟩ (.int .i64 v)) (w.heap.size + 1) 0 4 = some (Thing.mk 1 v false []).vals.toArray := hd1.row 0 4 (by rw [Thing.tlen]; omega)
  have HQ := Lib.hid (hQ3.lay (cs := (Thing.mk 1 v false []).vals) hd0 rfl (by omega) (Nat.le_refl _))
  clear hc0 hc1 hd1 hQ2 hQ3
  have tok : True := trivial
  go_wp2_with (first | (clear tok; refine wpList_store_whole (by rfl) 43 _ _ (by rfl) w.heap.size (Thing.mk 1 v false []).vals _ hd0 (by rfl) (by rfl) (by rfl) (by kernel_rfl) (Thing.one _) ?_) | fail)
  refine ret_cells w.heap.size 0 (Thing.mk 1 v false []).vals Tryd.results35 Tryd.underlying43 rfl (by kernel_rfl) rfl HQ.out.2.range rfl ?_
  rw [HF.out]
  exact ⟨rfl, HQ.out.1⟩
set_option maxRecDepth 20000 in
set_option maxHeartbeats 1600000 in
theorem takeF_2 (g : Nat) (n : Int) (r : Rs) (w : World) (hR : RdF w g r) (hn : n ≤ 9223372036854775807) (hl : r.s.length ≤ 9223372036854775807) : Calls Tryd.prog 35 #[.pointer (some ⟨g, 0, none⟩), .int .i64 2, .int .i64 n] w (GaveF g (tTake 2 n r).2 (.agg (tTake 2 n r).1.vals.toArray) w) := by
  have hs0 : (w.alloc (.cells thing0.vals.toArray 43)).heap.size = w.heap.size + 1 := by simp
  have hb0 := (Blk.new w 43 thing0.vals).alloc (.cells (Thing.mk 2 0 false []).vals.toArray 43)
  have hb1 := Blk.new (w.alloc (.cells thing0.vals.toArray 43)) 43 (Thing.mk 2 0 false []).vals
  rw [hs0] at hb1
  have hB0 : Below w.heap.size w (w.alloc (.cells thing0.vals.toArray 43)) := (Below.refl _ _).alloc (Nat.le_refl _) _
  have hB := hB0.alloc hB0.size (.cells (Thing.mk 2 0 false []).vals.toArray 43)
  have hR1 := hR.stays hB
  have hlt := hR.lt
  have hq := refU8_any g r _ hR1
  have HF := Lib.hid (show tTake 2 n r = (⟨2, (rU64 r).1, false, []⟩, (rU64 r).2) by simp [tTake])
  generalize rU64 r = x at *
  obtain ⟨v, r2⟩ := x
  simp only at HF hq
  have HQ0 := Lib.hid hq
  clear hq hB0 hs0 hR hR1
  go_enter Tryd.func35, Tryd.ntmps35
  go_wp2_with fail
  refine HQ0.out.mono ?_
  rintro e w1 ⟨rfl, hQ⟩
  have hc0 := hQ.keeps hb0 (by omega)
  have hc1 := hQ.keeps hb1 (by omega)
  have hQ2 := ReadsF.behind hB hQ
  clear HQ0 hQ hb0 hb1 hB
  have hcell := hc1.cell
  have hfz := hc1.frozen
  have hd1 : Blk (w1.setCell ⟨w.heap.size + 1, 1, none⟩ (.int .i64 v)) (w.heap.size + 1) 43 (Thing.mk 2 v false []).vals := hc1.set_ 1 (.int .i64 v)
  have hd0 : Blk (w1.setCell ⟨w.heap.size + 1, 1, none⟩ (.int .i64 v)) w.heap.size 43 thing0.vals := hc0.far (p := ⟨w.heap.size + 1, 1, none⟩) (by show w.heap.size ≠ w.heap.size + 1; omega) _
  have hQ3 := hQ2.poke (b := w.heap.size + 1) (o := 1) (by omega) (by omega) (.int .i64 v)
  have r1 : rowOf (w1.setCell ⟨w.heap.size + 1, 1, none⟩ (.int .i64 v)) (w.heap.size + 1) 0 4 = some (Thing.mk 2 v false []).vals.toArray := hd1.row 0 4 (by rw [Thing.tlen]; omega)
  have HQ := Lib.hid (hQ3.lay (cs := (Thing.mk 2 v false []).vals) hd0 rfl (by omega) (Nat.le_refl _))
  clear hc0 hc1 hd1 hQ2 hQ3
  have tok : True := trivial
  go_wp2_with (first | (clear tok; refine wpList_store_whole (by rfl) 43 _ _ (by rfl) w.heap.size (Thing.mk 2 v false []).vals _ hd0 (by rfl) (by rfl) (by rfl) (by kernel_rfl) (Thing.one _) ?_) | fail)
  refine ret_cells w.heap.size 0 (Thing.mk 2 v false []).vals Tryd.results35 Tryd.underlying43 rfl (by kernel_rfl) rfl HQ.out.2.range rfl ?_
  rw [HF.out]
  exact ⟨rfl, HQ.out.1⟩
set_option maxRecDepth 20000 in
set_option maxHeartbeats 1600000 in
theorem takeF_3 (g : Nat) (n : Int) (r : Rs) (w : World) (hR : RdF w g r) (hn : n ≤ 9223372036854775807) (hl : r.s.length ≤ 9223372036854775807) : Calls Tryd.prog 35 #[.pointer (some ⟨g, 0, none⟩), .int .i64 3, .int .i64 n] w (GaveF g (tTake 3 n r).2 (.agg (tTake 3 n r).1.vals.toArray) w) := by
  have hs0 : (w.alloc (.cells thing0.vals.toArray 43)).heap.size = w.heap.size + 1 := by simp
  have hb0 := (Blk.new w 43 thing0.vals).alloc (.cells (Thing.mk 3 0 false []).vals.toArray 43)
  have hb1 := Blk.new (w.alloc (.cells thing0.vals.toArray 43)) 43 (Thing.mk 3 0 false []).vals
  rw [hs0] at hb1
  have hB0 : Below w.heap.size w (w.alloc (.cells thing0.vals.toArray 43)) := (Below.refl _ _).alloc (Nat.le_refl _) _
  have hB := hB0.alloc hB0.size (.cells (Thing.mk 3 0 false []).vals.toArray 43)
  have hR1 := hR.stays hB
  have hlt := hR.lt
  have hq := refTruthR_any g r _ hR1
  have HF := Lib.hid (show tTake 3 n r = (⟨3, 0, (rBool r).1, []⟩, (rBool r).2) by simp [tTake])
  generalize rBool r = x at *
  obtain ⟨v, r2⟩ := x
  simp only at HF hq
  have HQ0 := Lib.hid hq
  clear hq hB0 hs0 hR hR1
  go_enter Tryd.func35, Tryd.ntmps35
  go_wp2_with fail
  refine HQ0.out.mono ?_
  rintro e w1 ⟨rfl, hQ⟩
  have hc0 := hQ.keeps hb0 (by omega)
  have hc1 := hQ.keeps hb1 (by omega)
  have hQ2 := ReadsF.behind hB hQ
  clear HQ0 hQ hb0 hb1 hB
  have hcell := hc1.cell
  have hfz := hc1.frozen
  have hd1 : Blk (w1.setCell ⟨w.heap.size + 1, 2, none⟩ (.bool v)) (w.heap.size + 1) 43 (Thing.mk 3 0 v []).vals := hc1.set_ 2 (.bool v)
  have hd0 : Blk (w1.setCell ⟨w.heap.size + 1, 2, none⟩ (.bool v)) w.heap.size 43 thing0.vals := hc0.far (p := ⟨w.heap.size + 1, 2, none⟩) (by show w.heap.size ≠ w.heap.size + 1; omega) _
  have hQ3 := hQ2.poke (b := w.heap.size + 1) (o := 2) (by omega) (by omega) (.bool v)
  have r1 : rowOf (w1.setCell ⟨w.heap.size + 1, 2, none⟩ (.bool v)) (w.heap.size + 1) 0 4 = some (Thing.mk 3 0 v []).vals.toArray := hd1.row 0 4 (by rw [Thing.tlen]; omega)
  have HQ := Lib.hid (hQ3.lay (cs := (Thing.mk 3 0 v []).vals) hd0 rfl (by omega) (Nat.le_refl _))
  clear hc0 hc1 hd1 hQ2 hQ3
  have tok : True := trivial
  go_wp2_with (first | (clear tok; refine wpList_store_whole (by rfl) 43 _ _ (by rfl) w.heap.size (Thing.mk 3 0 v []).vals _ hd0 (by rfl) (by rfl) (by rfl) (by kernel_rfl) (Thing.one _) ?_) | fail)
  refine ret_cells w.heap.size 0 (Thing.mk 3 0 v []).vals Tryd.results35 Tryd.underlying43 rfl (by kernel_rfl) rfl HQ.out.2.range rfl ?_
  rw [HF.out]
  exact ⟨rfl, HQ.out.1⟩
set_option maxRecDepth 20000 in
set_option maxHeartbeats 1600000 in
theorem takeF_4 (g : Nat) (n : Int) (r : Rs) (w : World) (hR : RdF w g r) (hn : n ≤ 9223372036854775807) (hl : r.s.length ≤ 9223372036854775807) : Calls Tryd.prog 35 #[.pointer (some ⟨g, 0, none⟩), .int .i64 4, .int .i64 n] w (GaveF g (tTake 4 n r).2 (.agg (tTake 4 n r).1.vals.toArray) w) := by
  have hs0 : (w.alloc (.cells thing0.vals.toArray 43)).heap.size = w.heap.size + 1 := by simp
  have hb0 := (Blk.new w 43 thing0.vals).alloc (.cells (Thing.mk 4 0 false []).vals.toArray 43)
  have hb1 := Blk.new (w.alloc (.cells thing0.vals.toArray 43)) 43 (Thing.mk 4 0 false []).vals
  rw [hs0] at hb1
  have hB0 : Below w.heap.size w (w.alloc (.cells thing0.vals.toArray 43)) := (Below.refl _ _).alloc (Nat.le_refl _) _
  have hB := hB0.alloc hB0.size (.cells (Thing.mk 4 0 false []).vals.toArray 43)
  have hR1 := hR.stays hB
  have hlt := hR.lt
  have hq := refFixed_any g n r _ hR1 hn
  have HF := Lib.hid (show tTake 4 n r = (⟨4, 0, false, (rFixed n r).1⟩, (rFixed n r).2) by simp [tTake])
  generalize rFixed n r = x at *
  obtain ⟨v, r2⟩ := x
  simp only at HF hq
  have HQ0 := Lib.hid hq
  clear hq hB0 hs0 hR hR1
  go_enter Tryd.func35, Tryd.ntmps35
  go_wp2_with fail
  refine HQ0.out.mono ?_
  rintro e w1 ⟨rfl, hQ⟩
  have hc0 := hQ.keeps hb0 (by omega)
  have hc1 := hQ.keeps hb1 (by omega)
  have hQ2 := ReadsF.behind hB hQ
  clear HQ0 hQ hb0 hb1 hB
  have hcell := hc1.cell
  have hfz := hc1.frozen
  have hd1 : Blk (w1.setCell ⟨w.heap.size + 1, 3, none⟩ (.string (bs v))) (w.heap.size + 1) 43 (Thing.mk 4 0 false v).vals := hc1.set_ 3 (.string (bs v))
  have hd0 : Blk (w1.setCell ⟨w.heap.size + 1, 3, none⟩ (.string (bs v))) w.heap.size 43 thing0.vals := hc0.far (p := ⟨w.heap.size + 1, 3, none⟩) (by show w.heap.size ≠ w.heap.size + 1; omega) _
  have hQ3 := hQ2.poke (b := w.heap.size + 1) (o := 3) (by omega) (by omega) (.string (bs v))
  have r1 : rowOf (w1.setCell ⟨w.heap.size + 1, 3, none⟩ (.string (bs v))) (w.heap.size + 1) 0 4 = some (Thing.mk 4 0 false v).vals.toArray := hd1.row 0 4 (by rw [Thing.tlen]; omega)
  have HQ := Lib.hid (hQ3.lay (cs := (Thing.mk 4 0 false v).vals) hd0 rfl (by omega) (Nat.le_refl _))
  clear hc0 hc1 hd1 hQ2 hQ3
  have tok : True := trivial
  go_wp2_with (first | (clear tok; refine wpList_store_whole (by rfl) 43 _ _ (by rfl) w.heap.size (Thing.mk 4 0 false v).vals _ hd0 (by rfl) (by rfl) (by rfl) (by kernel_rfl) (Thing.one _) ?_) | fail)
  refine ret_cells w.heap.size 0 (Thing.mk 4 0 false v).vals Tryd.results35 Tryd.underlying43 rfl (by kernel_rfl) rfl HQ.out.2.range rfl ?_
  rw [HF.out]
  exact ⟨rfl, HQ.out.1⟩
set_option maxRecDepth 20000 in
set_option maxHeartbeats 1600000 in
theorem takeF_5 (g : Nat) (n : Int) (r : Rs) (w : World) (hR : RdF w g r) (hn : n ≤ 9223372036854775807) (hl : r.s.length ≤ 9223372036854775807) : Calls Tryd.prog 35 #[.pointer (some ⟨g, 0, none⟩), .int .i64 5, .int .i64 n] w (GaveF g (tTake 5 n r).2 (.agg (tTake 5 n r).1.vals.toArray) w) := by
  have hs0 : (w.alloc (.cells thing0.vals.toArray 43)).heap.size = w.heap.size + 1 := by simp
  have hb0 := (Blk.new w 43 thing0.vals).alloc (.cells (Thing.mk 5 0 false []).vals.toArray 43)
  have hb1 := Blk.new (w.alloc (.cells thing0.vals.toArray 43)) 43 (Thing.mk 5 0 false []).vals
  rw [hs0] at hb1
  have hB0 : Below w.heap.size w (w.alloc (.cells thing0.vals.toArray 43)) := (Below.refl _ _).alloc (Nat.le_refl _) _
  have hB := hB0.alloc hB0.size (.cells (Thing.mk 5 0 false []).vals.toArray 43)
  have hR1 := hR.stays hB
  have hlt := hR.lt
  have hq := refTextR_any g n r _ hR1 hl
  have HF := Lib.hid (show tTake 5 n r = (⟨5, 0, false, (rOpaque n r).1⟩, (rOpaque n r).2) by simp [tTake])
  generalize rOpaque n r = x at *
  obtain ⟨v, r2⟩ := x
  simp only at HF hq
  have HQ0 := Lib.hid hq
  clear hq hB0 hs0 hR hR1
  go_enter Tryd.func35, Tryd.ntmps35
  go_wp2_with fail
  refine HQ0.out.mono ?_
  rintro e w1 ⟨rfl, hQ⟩
  have hc0 := hQ.keeps hb0 (by omega)
  have hc1 := hQ.keeps hb1 (by omega)
  have hQ2 := ReadsF.behind hB hQ
  clear HQ0 hQ hb0 hb1 hB
  have hcell := hc1.cell
  have hfz := hc1.frozen
  have hd1 : Blk (w1.setCell ⟨w.heap.size + 1, 3, none⟩ (.string (bs v))) (w.heap.size + 1) 43 (Thing.mk 5 0 false v).vals := hc1.set_ 3 (.string (bs v))
  have hd0 : Blk (w1.setCell ⟨w.heap.size + 1, 3, none⟩ (.string (bs v))) w.heap.size 43 thing0.vals := hc0.far (p := ⟨w.heap.size + 1, 3, none⟩) (by show w.heap.size ≠ w.heap.size + 1; omega) _
  have hQ3 := hQ2.poke (b := w.heap.size + 1) (o := 3) (by omega) (by omega) (.string (bs v))
  have r1 : rowOf (w1.setCell ⟨w.heap.size + 1, 3, none⟩ (.string (bs v))) (w.heap.size + 1) 0 4 = some (Thing.mk 5 0 false v).vals.toArray := hd1.row 0 4 (by rw [Thing.tlen]; omega)
  have HQ := Lib.hid (hQ3.lay (cs := (Thing.mk 5 0 false v).vals) hd0 rfl (by omega) (Nat.le_refl _))
  clear hc0 hc1 hd1 hQ2 hQ3
  have tok : True := trivial
  go_wp2_with (first | (clear tok; refine wpList_store_whole (by rfl) 43 _ _ (by rfl) w.heap.size (Thing.mk 5 0 false v).vals _ hd0 (by rfl) (by rfl) (by rfl) (by kernel_rfl) (Thing.one _) ?_) | fail)
  refine ret_cells w.heap.size 0 (Thing.mk 5 0 false v).vals Tryd.results35 Tryd.underlying43 rfl (by kernel_rfl) rfl HQ.out.2.range rfl ?_
  rw [HF.out]
  exact ⟨rfl, HQ.out.1⟩
set_option maxRecDepth 20000 in
set_option maxHeartbeats 1600000 in
theorem takeF_6 (g : Nat) (n : Int) (r : Rs) (w : World) (hR : RdF w g r) (hn : n ≤ 9223372036854775807) (hl : r.s.length ≤ 9223372036854775807) : Calls Tryd.prog 35 #[.pointer (some ⟨g, 0, none⟩), .int .i64 6, .int .i64 n] w (GaveF g (tTake 6 n r).2 (.agg (tTake 6 n r).1.vals.toArray) w) := by
  have hs0 : (w.alloc (.cells thing0.vals.toArray 43)).heap.size = w.heap.size + 1 := by simp
  have hb0 := (Blk.new w 43 thing0.vals).alloc (.cells (Thing.mk 6 0 false []).vals.toArray 43)
  have hb1 := Blk.new (w.alloc (.cells thing0.vals.toArray 43)) 43 (Thing.mk 6 0 false []).vals
  rw [hs0] at hb1
  have hB0 : Below w.heap.size w (w.alloc (.cells thing0.vals.toArray 43)) := (Below.refl _ _).alloc (Nat.le_refl _) _
  have hB := hB0.alloc hB0.size (.cells (Thing.mk 6 0 false []).vals.toArray 43)
  have hR1 := hR.stays hB
  have hlt := hR.lt
  have hq := refOptR_any g r _ hR1
  have HF := Lib.hid (show tTake 6 n r = (⟨6, (rOpt r).1.2, (rOpt r).1.1, []⟩, (rOpt r).2) by simp [tTake])
  generalize rOpt r = x at *
  obtain ⟨v, r2⟩ := x
  simp only at HF hq
  have HQ0 := Lib.hid hq
  clear hq hB0 hs0 hR hR1
  go_enter Tryd.func35, Tryd.ntmps35
  go_wp2_with fail
  refine HQ0.out.mono ?_
  rintro e w1 ⟨rfl, hQ⟩
  have hc0 := hQ.keeps hb0 (by omega)
  have hc1 := hQ.keeps hb1 (by omega)
  have hQ2 := ReadsF.behind hB hQ
  clear HQ0 hQ hb0 hb1 hB
  have hcell := hc1.cell
  have hfz := hc1.frozen
  have hgo : w.heap.size + 1 < w1.heap.size := hc1.lt
  have hdm := hc1.set_ 2 (.bool v.1)
  have hcm := hdm.cell
  have hfm := hdm.frozen
  have hd1 : Blk (((w1.setCell ⟨w.heap.size + 1, 2, none⟩ (.bool v.1)).setCell ⟨w.heap.size + 1, 1, none⟩ (.int .i64 v.2)).alloc (.cells (optV v).toArray 81)) (w.heap.size + 1) 43 (Thing.mk 6 v.2 v.1 []).vals := (hdm.set_ 1 (.int .i64 v.2)).alloc (.cells (optV v).toArray 81)
  have hd0 : Blk (((w1.setCell ⟨w.heap.size + 1, 2, none⟩ (.bool v.1)).setCell ⟨w.heap.size + 1, 1, none⟩ (.int .i64 v.2)).alloc (.cells (optV v).toArray 81)) w.heap.size 43 thing0.vals := ((hc0.far (p := ⟨w.heap.size + 1, 2, none⟩) (by show w.heap.size ≠ w.heap.size + 1; omega) _).far (p := ⟨w.heap.size + 1, 1, none⟩) (by show w.heap.size ≠ w.heap.size + 1; omega) _).alloc (.cells (optV v).toArray 81)
  have hQ3 : ReadsF g r2 w (((w1.setCell ⟨w.heap.size + 1, 2, none⟩ (.bool v.1)).setCell ⟨w.heap.size + 1, 1, none⟩ (.int .i64 v.2)).alloc (.cells (optV v).toArray 81)) := ((hQ2.poke (b := w.heap.size + 1) (o := 2) (by omega) (by omega) (.bool v.1)).poke (b := w.heap.size + 1) (o := 1) (by omega) (by omega) (.int .i64 v.2)).new ((Below.refl _ _).alloc (Nat.le_refl _) (.cells (optV v).toArray 81))
  clear hdm
  have r1 : rowOf (((w1.setCell ⟨w.heap.size + 1, 2, none⟩ (.bool v.1)).setCell ⟨w.heap.size + 1, 1, none⟩ (.int .i64 v.2)).alloc (.cells (optV v).toArray 81)) (w.heap.size + 1) 0 4 = some (Thing.mk 6 v.2 v.1 []).vals.toArray := hd1.row 0 4 (by rw [Thing.tlen]; omega)
  have HQ := Lib.hid (hQ3.lay (cs := (Thing.mk 6 v.2 v.1 []).vals) hd0 rfl (by omega) (Nat.le_refl _))
  clear hc0 hc1 hd1 hQ2 hQ3
  have tok : True := trivial
  go_wp2_with (first | (refine wpList_new_struct (by rfl) (by rfl) 81 (by rfl) _ _ (by rfl) (optV v) infoOptR (by rfl) (by rfl) (optV_one _) (by rfl) (by rfl) ?_) | (clear tok; refine wpList_store_whole (by rfl) 43 _ _ (by rfl) w.heap.size (Thing.mk 6 v.2 v.1 []).vals _ hd0 (by rfl) (by rfl) (by rfl) (by kernel_rfl) (Thing.one _) ?_) | fail)
  refine ret_cells w.heap.size 0 (Thing.mk 6 v.2 v.1 []).vals Tryd.results35 Tryd.underlying43 rfl (by kernel_rfl) rfl HQ.out.2.range rfl ?_
  rw [HF.out]
  exact ⟨rfl, HQ.out.1⟩
end Go.Proofs.YtolcecpmiepggaaDoor

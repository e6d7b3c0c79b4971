/-
  Layer 1, walks: of no reader nothing is read, and to no writer nothing is written (written by wip/tools/genxnil.py). No condition.
-/
import Derived.Test.YtolcecpmiepggaaDoorXdrLawB
namespace Go.Proofs.YtolcecpmiepggaaDoor
open Go.RowKit
attribute [local go_sem ↓] Go.wp_at_zero Go.wp_at_succ
attribute [local go_sem] rowAt_ptr rowOf_drew rowOf_drewN rowOf_alloc_past rowOf_new
attribute [local go_sem ↓] ldThing

attribute [local go_sem] optV Thing.tlat0 Thing.tlat1 Thing.tlat2 Thing.tlat3

theorem xtake_nil (n : Int) (f : Value) (w : World) : Calls Tryd.prog 96 #[.pointer none, .int .i64 n, f] w fun e w' => e = .returned (.tuple #[]) ∧ w = w' := by
  go_enter Tryd.func96, Tryd.ntmps96
  go_wp2_with fail
  refine (rErr_nil _).mono ?_
  rintro e w1 ⟨rfl, rfl⟩
  go_wp2
  exact bodyPost_ret (results_none Tryd.results96 _ _ _) rfl ⟨rfl, rfl⟩
theorem xrNumber_nil (k : Int) (w : World) : Calls Tryd.prog 84 #[.pointer none, .int .i64 k] w fun e w' => e = .returned (.int .u64 0) ∧ Below w.heap.size w w' := by
  have hc := (Blk.new w 102 [.int .u64 0]).cell
  go_enter Tryd.func84, Tryd.ntmps84
  go_wp2_with fail
  refine (xtake_nil _ _ _).mono ?_
  rintro e w1 ⟨rfl, rfl⟩
  go_wp2
  go_ret
  exact ⟨rfl, (Below.refl _ _).alloc (Nat.le_refl _) _⟩
theorem xrU32_nil (w : World) : Calls Tryd.prog 47 #[.pointer none] w fun e w' => e = .returned (.int .i64 0) ∧ Below w.heap.size w w' := by
  go_enter Tryd.func47, Tryd.ntmps47
  go_wp2_with fail
  refine (xrNumber_nil 4 _).mono ?_
  rintro e w1 ⟨rfl, hb⟩
  go_wp2
  go_ret
  exact ⟨rfl, hb⟩
theorem xrU64_nil (w : World) : Calls Tryd.prog 48 #[.pointer none] w fun e w' => e = .returned (.int .i64 0) ∧ Below w.heap.size w w' := by
  go_enter Tryd.func48, Tryd.ntmps48
  go_wp2_with fail
  refine (xrNumber_nil 8 _).mono ?_
  rintro e w1 ⟨rfl, hb⟩
  go_wp2
  go_ret
  exact ⟨rfl, hb⟩
theorem xrBool_nil (w : World) : Calls Tryd.prog 58 #[.pointer none] w fun e w' => e = .returned (.bool false) ∧ Below w.heap.size w w' := by
  go_enter Tryd.func58, Tryd.ntmps58
  go_wp2_with fail
  refine (xrU32_nil _).mono ?_
  rintro e w1 ⟨rfl, hb⟩
  go_wp2
  go_ret
  exact ⟨rfl, hb⟩
set_option maxHeartbeats 800000 in
theorem xrOpt_nil (w : World) : Calls Tryd.prog 61 #[.pointer none] w fun e w' => e = .returned (.agg (optV (false, 0)).toArray) ∧ Below w.heap.size w w' := by
  have hb0 := Blk.new w 81 (optV (false, 0))
  have hB : Below w.heap.size w (w.alloc (.cells (optV (false, 0)).toArray 81)) := (Below.refl _ _).alloc (Nat.le_refl _) _
  go_enter Tryd.func61, Tryd.ntmps61
  go_wp2_with fail
  change Calls _ _ _ (w.alloc (.cells (optV (false, 0)).toArray 81)) _
  generalize w.alloc (.cells (optV (false, 0)).toArray 81) = w0 at *
  refine (xrBool_nil _).mono ?_
  rintro e w1 ⟨rfl, hb⟩
  have hb1 := hb0.stays hb
  have hB1 := below_then hB hb
  clear hb hb0 hB
  go_wp2_with (first | (refine wpList_store_whole (by rfl) 81 _ _ (by rfl) w.heap.size (optV (false, 0)) _ hb1 (by rfl) (by rfl) (by rfl) (by kernel_rfl) (optV_one _) ?_) | fail)
  exact ret_cells w.heap.size 0 (optV (false, 0)) Tryd.results61 Tryd.underlying81 rfl (by kernel_rfl) rfl (hb1.whole (by rfl)).range rfl ⟨rfl, Below.setWhole hB1 (Nat.le_refl _) _⟩


theorem rFixed_nil (n : Int) (w : World) : Calls Tryd.prog 59 #[.pointer none, .int .i64 n] w fun e w' => e = .returned (.string (bs [])) ∧ w = w' := by
  go_enter Tryd.func59, Tryd.ntmps59
  go_wp2_with fail
  refine (rErr_nil _).mono ?_
  rintro e w1 ⟨rfl, rfl⟩
  go_wp2
  go_ret
  exact ⟨rfl, rfl⟩
theorem rOpaque_nil (n : Int) (w : World) : Calls Tryd.prog 60 #[.pointer none, .int .i64 n] w fun e w' => e = .returned (.string (bs [])) ∧ Below w.heap.size w w' := by
  go_enter Tryd.func60, Tryd.ntmps60
  go_wp2_with fail
  refine (xrU32_nil _).mono ?_
  rintro e w1 ⟨rfl, hb⟩
  go_wp2_with fail
  refine (rErr_nil _).mono ?_
  rintro e w2 ⟨rfl, rfl⟩
  go_wp2
  go_ret
  exact ⟨rfl, hb⟩
theorem rLeft_nil (w : World) : Calls Tryd.prog 31 #[.pointer none] w fun e w' => e = .returned (.int .i64 0) ∧ w = w' := by
  go_enter Tryd.func31, Tryd.ntmps31
  go_wp2_with fail
  refine (rErr_nil _).mono ?_
  rintro e w1 ⟨rfl, rfl⟩
  go_wp2
  go_ret
  exact ⟨rfl, rfl⟩
theorem rDone_nil (w : World) : Calls Tryd.prog 34 #[.pointer none] w fun e w' => e = .returned (.int .i64 1) ∧ w = w' := by
  go_enter Tryd.func34, Tryd.ntmps34
  go_wp2_with fail
  refine (rErr_nil _).mono ?_
  rintro e w1 ⟨rfl, rfl⟩
  go_wp2
  go_ret
  exact ⟨rfl, rfl⟩
theorem wU32_nil (n : Int) (w : World) : Calls Tryd.prog 62 #[.pointer none, .int .i64 n] w fun e w' => e = .returned (.int .i64 1) ∧ w = w' := by
  go_enter Tryd.func62, Tryd.ntmps62
  go_wp2
  go_ret
  exact ⟨rfl, rfl⟩
theorem wU64_nil (n : Int) (w : World) : Calls Tryd.prog 63 #[.pointer none, .int .i64 n] w fun e w' => e = .returned (.int .i64 1) ∧ w = w' := by
  go_enter Tryd.func63, Tryd.ntmps63
  go_wp2
  go_ret
  exact ⟨rfl, rfl⟩
theorem wFixed_nil (s : List UInt8) (w : World) : Calls Tryd.prog 65 #[.pointer none, .string (bs s)] w fun e w' => e = .returned (.int .i64 1) ∧ w = w' := by
  go_enter Tryd.func65, Tryd.ntmps65
  go_wp2
  go_ret
  exact ⟨rfl, rfl⟩
theorem wOpaque_nil (s : List UInt8) (w : World) : Calls Tryd.prog 55 #[.pointer none, .string (bs s)] w fun e w' => e = .returned (.int .i64 1) ∧ w = w' := by
  go_enter Tryd.func55, Tryd.ntmps55
  go_wp2
  go_ret
  exact ⟨rfl, rfl⟩
theorem wBool_nil (b : Bool) (w : World) : Calls Tryd.prog 64 #[.pointer none, .bool b] w fun e w' => e = .returned (.int .i64 1) ∧ w = w' := by
  cases b
  all_goals
    go_enter Tryd.func64, Tryd.ntmps64
    go_wp2_with fail
    refine (wU32_nil _ _).mono ?_
    rintro e w1 ⟨rfl, rfl⟩
    go_wp2
    go_ret
    exact ⟨rfl, rfl⟩
theorem wOpt_nil (b : Bool) (n : Int) (w : World) : Calls Tryd.prog 56 #[.pointer none, .agg #[.bool b, .int .i64 n]] w fun e w' => e = .returned (.int .i64 1) ∧ Below w.heap.size w w' := by
  go_enter Tryd.func56, Tryd.ntmps56
  go_wp2
  go_ret
  exact ⟨rfl, (Below.refl _ _).alloc (Nat.le_refl _) _⟩
theorem wText_nil (w : World) : Calls Tryd.prog 32 #[.pointer none] w fun e w' => e = .returned (.string (bs [])) ∧ w = w' := by
  go_enter Tryd.func32, Tryd.ntmps32
  go_wp2
  go_ret
  exact ⟨rfl, rfl⟩
theorem wLen_nil (w : World) : Calls Tryd.prog 37 #[.pointer none] w fun e w' => e = .returned (.int .i64 0) ∧ w = w' := by
  go_enter Tryd.func37, Tryd.ntmps37
  go_wp2
  go_ret
  exact ⟨rfl, rfl⟩

/-- what comes of a thing that is put to no writer -/
def nilErr (k : Int) : Int := if k < 1 ∨ 6 < k then 0 else 1
theorem put_nil_1 (n : Int) (is : Bool) (s : List UInt8) (w : World) : Calls Tryd.prog 30 #[.pointer none, .agg (Thing.mk 1 n is s).vals.toArray] w fun e w' => e = .returned (.int .i64 1) ∧ Below w.heap.size w w' := by
  have hr := range_new w (Thing.mk 1 n is s).vals 43
  have c0 := hr 0 _ (Thing.tlat0 _)
  have c1 := hr 1 _ (Thing.tlat1 _)
  have c2 := hr 2 _ (Thing.tlat2 _)
  have c3 := hr 3 _ (Thing.tlat3 _)
  have hB0 : Below w.heap.size w (w.alloc (.cells (Thing.mk 1 n is s).vals.toArray 43)) := (Below.refl _ _).alloc (Nat.le_refl _) _
  go_enter Tryd.func30, Tryd.ntmps30
  go_wp2_with fail
  refine (wU32_nil _ _).mono ?_
  rintro e w1 ⟨rfl, rfl⟩
  go_wp2
  go_ret
  exact ⟨rfl, hB0⟩
theorem put_nil_2 (n : Int) (is : Bool) (s : List UInt8) (w : World) : Calls Tryd.prog 30 #[.pointer none, .agg (Thing.mk 2 n is s).vals.toArray] w fun e w' => e = .returned (.int .i64 1) ∧ Below w.heap.size w w' := by
  have hr := range_new w (Thing.mk 2 n is s).vals 43
  have c0 := hr 0 _ (Thing.tlat0 _)
  have c1 := hr 1 _ (Thing.tlat1 _)
  have c2 := hr 2 _ (Thing.tlat2 _)
  have c3 := hr 3 _ (Thing.tlat3 _)
  have hB0 : Below w.heap.size w (w.alloc (.cells (Thing.mk 2 n is s).vals.toArray 43)) := (Below.refl _ _).alloc (Nat.le_refl _) _
  go_enter Tryd.func30, Tryd.ntmps30
  go_wp2_with fail
  refine (wU64_nil _ _).mono ?_
  rintro e w1 ⟨rfl, rfl⟩
  go_wp2
  go_ret
  exact ⟨rfl, hB0⟩
theorem put_nil_3 (n : Int) (is : Bool) (s : List UInt8) (w : World) : Calls Tryd.prog 30 #[.pointer none, .agg (Thing.mk 3 n is s).vals.toArray] w fun e w' => e = .returned (.int .i64 1) ∧ Below w.heap.size w w' := by
  have hr := range_new w (Thing.mk 3 n is s).vals 43
  have c0 := hr 0 _ (Thing.tlat0 _)
  have c1 := hr 1 _ (Thing.tlat1 _)
  have c2 := hr 2 _ (Thing.tlat2 _)
  have c3 := hr 3 _ (Thing.tlat3 _)
  have hB0 : Below w.heap.size w (w.alloc (.cells (Thing.mk 3 n is s).vals.toArray 43)) := (Below.refl _ _).alloc (Nat.le_refl _) _
  go_enter Tryd.func30, Tryd.ntmps30
  go_wp2_with fail
  refine (wBool_nil _ _).mono ?_
  rintro e w1 ⟨rfl, rfl⟩
  go_wp2
  go_ret
  exact ⟨rfl, hB0⟩
theorem put_nil_4 (n : Int) (is : Bool) (s : List UInt8) (w : World) : Calls Tryd.prog 30 #[.pointer none, .agg (Thing.mk 4 n is s).vals.toArray] w fun e w' => e = .returned (.int .i64 1) ∧ Below w.heap.size w w' := by
  have hr := range_new w (Thing.mk 4 n is s).vals 43
  have c0 := hr 0 _ (Thing.tlat0 _)
  have c1 := hr 1 _ (Thing.tlat1 _)
  have c2 := hr 2 _ (Thing.tlat2 _)
  have c3 := hr 3 _ (Thing.tlat3 _)
  have hB0 : Below w.heap.size w (w.alloc (.cells (Thing.mk 4 n is s).vals.toArray 43)) := (Below.refl _ _).alloc (Nat.le_refl _) _
  go_enter Tryd.func30, Tryd.ntmps30
  go_wp2_with fail
  refine (wFixed_nil s _).mono ?_
  rintro e w1 ⟨rfl, rfl⟩
  go_wp2
  go_ret
  exact ⟨rfl, hB0⟩
theorem put_nil_5 (n : Int) (is : Bool) (s : List UInt8) (w : World) : Calls Tryd.prog 30 #[.pointer none, .agg (Thing.mk 5 n is s).vals.toArray] w fun e w' => e = .returned (.int .i64 1) ∧ Below w.heap.size w w' := by
  have hr := range_new w (Thing.mk 5 n is s).vals 43
  have c0 := hr 0 _ (Thing.tlat0 _)
  have c1 := hr 1 _ (Thing.tlat1 _)
  have c2 := hr 2 _ (Thing.tlat2 _)
  have c3 := hr 3 _ (Thing.tlat3 _)
  have hB0 : Below w.heap.size w (w.alloc (.cells (Thing.mk 5 n is s).vals.toArray 43)) := (Below.refl _ _).alloc (Nat.le_refl _) _
  go_enter Tryd.func30, Tryd.ntmps30
  go_wp2_with fail
  refine (wOpaque_nil s _).mono ?_
  rintro e w1 ⟨rfl, rfl⟩
  go_wp2
  go_ret
  exact ⟨rfl, hB0⟩
theorem put_nil_6 (n : Int) (is : Bool) (s : List UInt8) (w : World) : Calls Tryd.prog 30 #[.pointer none, .agg (Thing.mk 6 n is s).vals.toArray] w fun e w' => e = .returned (.int .i64 1) ∧ Below w.heap.size w w' := by
  have hr := range_new w (Thing.mk 6 n is s).vals 43
  have c0 := hr 0 _ (Thing.tlat0 _)
  have c1 := hr 1 _ (Thing.tlat1 _)
  have c2 := hr 2 _ (Thing.tlat2 _)
  have c3 := hr 3 _ (Thing.tlat3 _)
  have hB0 : Below w.heap.size w (w.alloc (.cells (Thing.mk 6 n is s).vals.toArray 43)) := (Below.refl _ _).alloc (Nat.le_refl _) _
  go_enter Tryd.func30, Tryd.ntmps30
  go_wp2_with fail
  refine (wOpt_nil _ _ _).mono ?_
  rintro e w1 ⟨rfl, hb⟩
  go_wp2
  go_ret
  exact ⟨rfl, below_then hB0 hb⟩
theorem put_nil_0 (k n : Int) (is : Bool) (s : List UInt8) (w : World) (h : otherKind k) : Calls Tryd.prog 30 #[.pointer none, .agg (Thing.mk k n is s).vals.toArray] w fun e w' => e = .returned (.int .i64 0) ∧ Below w.heap.size w w' := by
  have hr := range_new w (Thing.mk k n is s).vals 43
  have c0 := hr 0 _ (Thing.tlat0 _)
  obtain ⟨h1, h2, h3, h4, h5, h6⟩ := h
  go_enter Tryd.func30, Tryd.ntmps30
  go_wp2
  go_ret
  exact ⟨rfl, (Below.refl _ _).alloc (Nat.le_refl _) _⟩
theorem put_nil (t : Thing) (w : World) : Calls Tryd.prog 30 #[.pointer none, .agg t.vals.toArray] w fun e w' => e = .returned (.int .i64 (nilErr t.kind)) ∧ Below w.heap.size w w' := by
  obtain ⟨k, n, is, s⟩ := t
  rcases kind_cases k with rfl | rfl | rfl | rfl | rfl | rfl | h
  · exact put_nil_1 n is s w
  · exact put_nil_2 n is s w
  · exact put_nil_3 n is s w
  · exact put_nil_4 n is s w
  · exact put_nil_5 n is s w
  · exact put_nil_6 n is s w
  · have hk : nilErr k = 0 := by
      have := h
      unfold otherKind at this
      unfold nilErr; rw [if_pos (by omega)]
    simp only [hk]
    exact put_nil_0 k n is s w h

set_option maxRecDepth 20000 in
set_option maxHeartbeats 1600000 in
theorem take_nil_1 (n : Int) (w : World) : Calls Tryd.prog 28 #[.pointer none, .int .i64 1, .int .i64 n] w fun e w' => e = .returned (.agg (Thing.mk 1 0 false []).vals.toArray) ∧ Below w.heap.size w w' := by
  have hs0 : (w.alloc (.cells thing0.vals.toArray 43)).heap.size = w.heap.size + 1 := by simp
  have hb0 := (Blk.new w 43 thing0.vals).alloc (.cells (Thing.mk 1 0 false []).vals.toArray 43)
  have hb1 := Blk.new (w.alloc (.cells thing0.vals.toArray 43)) 43 (Thing.mk 1 0 false []).vals
  rw [hs0] at hb1
  have hB0 : Below w.heap.size w (w.alloc (.cells thing0.vals.toArray 43)) := (Below.refl _ _).alloc (Nat.le_refl _) _
  have hB := hB0.alloc hB0.size (.cells (Thing.mk 1 0 false []).vals.toArray 43)
  clear hB0 hs0
  go_enter Tryd.func28, Tryd.ntmps28
  go_wp2_with fail
  change Calls _ _ _ ((w.alloc (.cells thing0.vals.toArray 43)).alloc (.cells (Thing.mk 1 0 false []).vals.toArray 43)) _
  generalize (w.alloc (.cells thing0.vals.toArray 43)).alloc (.cells (Thing.mk 1 0 false []).vals.toArray 43) = w0 at *
  refine (xrU32_nil _).mono ?_
  rintro e w1 ⟨rfl, hb⟩
  have hc0 := hb0.stays hb
  have hc1 := hb1.stays hb
  have hB2 := below_then hB hb
  clear hb
  clear hb0 hb1 hB
  have hcell := hc1.cell
  have hfz := hc1.frozen
  have hd1 : Blk (w1.setCell ⟨w.heap.size + 1, 1, none⟩ (.int .i64 0)) (w.heap.size + 1) 43 (Thing.mk 1 0 false []).vals := hc1.set_ 1 (.int .i64 0)
  have hd0 : Blk (w1.setCell ⟨w.heap.size + 1, 1, none⟩ (.int .i64 0)) w.heap.size 43 thing0.vals := hc0.far (p := ⟨w.heap.size + 1, 1, none⟩) (by show w.heap.size ≠ w.heap.size + 1; omega) _
  have hB3 : Below w.heap.size w (w1.setCell ⟨w.heap.size + 1, 1, none⟩ (.int .i64 0)) := hB2.setCell (p := ⟨w.heap.size + 1, 1, none⟩) (by show w.heap.size ≤ w.heap.size + 1; omega) _
  have r1 : rowOf (w1.setCell ⟨w.heap.size + 1, 1, none⟩ (.int .i64 0)) (w.heap.size + 1) 0 4 = some (Thing.mk 1 0 false []).vals.toArray := hd1.row 0 4 (by rw [Thing.tlen]; omega)
  have HQ := Lib.hid (And.intro (Below.setWhole hB3 (Nat.le_refl _) (Thing.mk 1 0 false []).vals) (hd0.whole (cs := (Thing.mk 1 0 false []).vals) rfl).range)
  clear hc0 hc1 hd1 hB2 hB3
  have tok : True := trivial
  go_wp2_with (first | (clear tok; refine wpList_store_whole (by rfl) 43 _ _ (by rfl) w.heap.size (Thing.mk 1 0 false []).vals _ hd0 (by rfl) (by rfl) (by rfl) (by kernel_rfl) (Thing.one _) ?_) | fail)
  exact ret_cells w.heap.size 0 (Thing.mk 1 0 false []).vals Tryd.results28 Tryd.underlying43 rfl (by kernel_rfl) rfl HQ.out.2 rfl ⟨rfl, HQ.out.1⟩
set_option maxRecDepth 20000 in
set_option maxHeartbeats 1600000 in
theorem take_nil_2 (n : Int) (w : World) : Calls Tryd.prog 28 #[.pointer none, .int .i64 2, .int .i64 n] w fun e w' => e = .returned (.agg (Thing.mk 2 0 false []).vals.toArray) ∧ Below w.heap.size w w' := by
  have hs0 : (w.alloc (.cells thing0.vals.toArray 43)).heap.size = w.heap.size + 1 := by simp
  have hb0 := (Blk.new w 43 thing0.vals).alloc (.cells (Thing.mk 2 0 false []).vals.toArray 43)
  have hb1 := Blk.new (w.alloc (.cells thing0.vals.toArray 43)) 43 (Thing.mk 2 0 false []).vals
  rw [hs0] at hb1
  have hB0 : Below w.heap.size w (w.alloc (.cells thing0.vals.toArray 43)) := (Below.refl _ _).alloc (Nat.le_refl _) _
  have hB := hB0.alloc hB0.size (.cells (Thing.mk 2 0 false []).vals.toArray 43)
  clear hB0 hs0
  go_enter Tryd.func28, Tryd.ntmps28
  go_wp2_with fail
  change Calls _ _ _ ((w.alloc (.cells thing0.vals.toArray 43)).alloc (.cells (Thing.mk 2 0 false []).vals.toArray 43)) _
  generalize (w.alloc (.cells thing0.vals.toArray 43)).alloc (.cells (Thing.mk 2 0 false []).vals.toArray 43) = w0 at *
  refine (xrU64_nil _).mono ?_
  rintro e w1 ⟨rfl, hb⟩
  have hc0 := hb0.stays hb
  have hc1 := hb1.stays hb
  have hB2 := below_then hB hb
  clear hb
  clear hb0 hb1 hB
  have hcell := hc1.cell
  have hfz := hc1.frozen
  have hd1 : Blk (w1.setCell ⟨w.heap.size + 1, 1, none⟩ (.int .i64 0)) (w.heap.size + 1) 43 (Thing.mk 2 0 false []).vals := hc1.set_ 1 (.int .i64 0)
  have hd0 : Blk (w1.setCell ⟨w.heap.size + 1, 1, none⟩ (.int .i64 0)) w.heap.size 43 thing0.vals := hc0.far (p := ⟨w.heap.size + 1, 1, none⟩) (by show w.heap.size ≠ w.heap.size + 1; omega) _
  have hB3 : Below w.heap.size w (w1.setCell ⟨w.heap.size + 1, 1, none⟩ (.int .i64 0)) := hB2.setCell (p := ⟨w.heap.size + 1, 1, none⟩) (by show w.heap.size ≤ w.heap.size + 1; omega) _
  have r1 : rowOf (w1.setCell ⟨w.heap.size + 1, 1, none⟩ (.int .i64 0)) (w.heap.size + 1) 0 4 = some (Thing.mk 2 0 false []).vals.toArray := hd1.row 0 4 (by rw [Thing.tlen]; omega)
  have HQ := Lib.hid (And.intro (Below.setWhole hB3 (Nat.le_refl _) (Thing.mk 2 0 false []).vals) (hd0.whole (cs := (Thing.mk 2 0 false []).vals) rfl).range)
  clear hc0 hc1 hd1 hB2 hB3
  have tok : True := trivial
  go_wp2_with (first | (clear tok; refine wpList_store_whole (by rfl) 43 _ _ (by rfl) w.heap.size (Thing.mk 2 0 false []).vals _ hd0 (by rfl) (by rfl) (by rfl) (by kernel_rfl) (Thing.one _) ?_) | fail)
  exact ret_cells w.heap.size 0 (Thing.mk 2 0 false []).vals Tryd.results28 Tryd.underlying43 rfl (by kernel_rfl) rfl HQ.out.2 rfl ⟨rfl, HQ.out.1⟩
set_option maxRecDepth 20000 in
set_option maxHeartbeats 1600000 in
theorem take_nil_3 (n : Int) (w : World) : Calls Tryd.prog 28 #[.pointer none, .int .i64 3, .int .i64 n] w fun e w' => e = .returned (.agg (Thing.mk 3 0 false []).vals.toArray) ∧ Below w.heap.size w w' := by
  have hs0 : (w.alloc (.cells thing0.vals.toArray 43)).heap.size = w.heap.size + 1 := by simp
  have hb0 := (Blk.new w 43 thing0.vals).alloc (.cells (Thing.mk 3 0 false []).vals.toArray 43)
  have hb1 := Blk.new (w.alloc (.cells thing0.vals.toArray 43)) 43 (Thing.mk 3 0 false []).vals
  rw [hs0] at hb1
  have hB0 : Below w.heap.size w (w.alloc (.cells thing0.vals.toArray 43)) := (Below.refl _ _).alloc (Nat.le_refl _) _
  have hB := hB0.alloc hB0.size (.cells (Thing.mk 3 0 false []).vals.toArray 43)
  clear hB0 hs0
  go_enter Tryd.func28, Tryd.ntmps28
  go_wp2_with fail
  change Calls _ _ _ ((w.alloc (.cells thing0.vals.toArray 43)).alloc (.cells (Thing.mk 3 0 false []).vals.toArray 43)) _
  generalize (w.alloc (.cells thing0.vals.toArray 43)).alloc (.cells (Thing.mk 3 0 false []).vals.toArray 43) = w0 at *
  refine (xrBool_nil _).mono ?_
  rintro e w1 ⟨rfl, hb⟩
  have hc0 := hb0.stays hb
  have hc1 := hb1.stays hb
  have hB2 := below_then hB hb
  clear hb
  clear hb0 hb1 hB
  have hcell := hc1.cell
  have hfz := hc1.frozen
  have hd1 : Blk (w1.setCell ⟨w.heap.size + 1, 2, none⟩ (.bool false)) (w.heap.size + 1) 43 (Thing.mk 3 0 false []).vals := hc1.set_ 2 (.bool false)
  have hd0 : Blk (w1.setCell ⟨w.heap.size + 1, 2, none⟩ (.bool false)) w.heap.size 43 thing0.vals := hc0.far (p := ⟨w.heap.size + 1, 2, none⟩) (by show w.heap.size ≠ w.heap.size + 1; omega) _
  have hB3 : Below w.heap.size w (w1.setCell ⟨w.heap.size + 1, 2, none⟩ (.bool false)) := hB2.setCell (p := ⟨w.heap.size + 1, 2, none⟩) (by show w.heap.size ≤ w.heap.size + 1; omega) _
  have r1 : rowOf (w1.setCell ⟨w.heap.size + 1, 2, none⟩ (.bool false)) (w.heap.size + 1) 0 4 = some (Thing.mk 3 0 false []).vals.toArray := hd1.row 0 4 (by rw [Thing.tlen]; omega)
  have HQ := Lib.hid (And.intro (Below.setWhole hB3 (Nat.le_refl _) (Thing.mk 3 0 false []).vals) (hd0.whole (cs := (Thing.mk 3 0 false []).vals) rfl).range)
  clear hc0 hc1 hd1 hB2 hB3
  have tok : True := trivial
  go_wp2_with (first | (clear tok; refine wpList_store_whole (by rfl) 43 _ _ (by rfl) w.heap.size (Thing.mk 3 0 false []).vals _ hd0 (by rfl) (by rfl) (by rfl) (by kernel_rfl) (Thing.one _) ?_) | fail)
  exact ret_cells w.heap.size 0 (Thing.mk 3 0 false []).vals Tryd.results28 Tryd.underlying43 rfl (by kernel_rfl) rfl HQ.out.2 rfl ⟨rfl, HQ.out.1⟩
set_option maxRecDepth 20000 in
set_option maxHeartbeats 1600000 in
theorem take_nil_4 (n : Int) (w : World) : Calls Tryd.prog 28 #[.pointer none, .int .i64 4, .int .i64 n] w fun e w' => e = .returned (.agg (Thing.mk 4 0 false []).vals.toArray) ∧ Below w.heap.size w w' := by
  have hs0 : (w.alloc (.cells thing0.vals.toArray 43)).heap.size = w.heap.size + 1 := by simp
  have hb0 := (Blk.new w 43 thing0.vals).alloc (.cells (Thing.mk 4 0 false []).vals.toArray 43)
  have hb1 := Blk.new (w.alloc (.cells thing0.vals.toArray 43)) 43 (Thing.mk 4 0 false []).vals
  rw [hs0] at hb1
  have hB0 : Below w.heap.size w (w.alloc (.cells thing0.vals.toArray 43)) := (Below.refl _ _).alloc (Nat.le_refl _) _
  have hB := hB0.alloc hB0.size (.cells (Thing.mk 4 0 false []).vals.toArray 43)
  clear hB0 hs0
  go_enter Tryd.func28, Tryd.ntmps28
  go_wp2_with fail
  change Calls _ _ _ ((w.alloc (.cells thing0.vals.toArray 43)).alloc (.cells (Thing.mk 4 0 false []).vals.toArray 43)) _
  generalize (w.alloc (.cells thing0.vals.toArray 43)).alloc (.cells (Thing.mk 4 0 false []).vals.toArray 43) = w0 at *
  refine (rFixed_nil _ _).mono ?_
  rintro e w1 ⟨rfl, rfl⟩
  have hc0 := hb0
  have hc1 := hb1
  have hB2 := hB
  generalize w0 = w1 at *
  clear hb0 hb1 hB
  have hcell := hc1.cell
  have hfz := hc1.frozen
  have hd1 : Blk (w1.setCell ⟨w.heap.size + 1, 3, none⟩ (.string (bs []))) (w.heap.size + 1) 43 (Thing.mk 4 0 false []).vals := hc1.set_ 3 (.string (bs []))
  have hd0 : Blk (w1.setCell ⟨w.heap.size + 1, 3, none⟩ (.string (bs []))) w.heap.size 43 thing0.vals := hc0.far (p := ⟨w.heap.size + 1, 3, none⟩) (by show w.heap.size ≠ w.heap.size + 1; omega) _
  have hB3 : Below w.heap.size w (w1.setCell ⟨w.heap.size + 1, 3, none⟩ (.string (bs []))) := hB2.setCell (p := ⟨w.heap.size + 1, 3, none⟩) (by show w.heap.size ≤ w.heap.size + 1; omega) _
  have r1 : rowOf (w1.setCell ⟨w.heap.size + 1, 3, none⟩ (.string (bs []))) (w.heap.size + 1) 0 4 = some (Thing.mk 4 0 false []).vals.toArray := hd1.row 0 4 (by rw [Thing.tlen]; omega)
  have HQ := Lib.hid (And.intro (Below.setWhole hB3 (Nat.le_refl _) (Thing.mk 4 0 false []).vals) (hd0.whole (cs := (Thing.mk 4 0 false []).vals) rfl).range)
  clear hc0 hc1 hd1 hB2 hB3
  have tok : True := trivial
  go_wp2_with (first | (clear tok; refine wpList_store_whole (by rfl) 43 _ _ (by rfl) w.heap.size (Thing.mk 4 0 false []).vals _ hd0 (by rfl) (by rfl) (by rfl) (by kernel_rfl) (Thing.one _) ?_) | fail)
  exact ret_cells w.heap.size 0 (Thing.mk 4 0 false []).vals Tryd.results28 Tryd.underlying43 rfl (by kernel_rfl) rfl HQ.out.2 rfl ⟨rfl, HQ.out.1⟩
set_option maxRecDepth 20000 in
set_option maxHeartbeats 1600000 in
theorem take_nil_5 (n : Int) (w : World) : Calls Tryd.prog 28 #[.pointer none, .int .i64 5, .int .i64 n] w fun e w' => e = .returned (.agg (Thing.mk 5 0 false []).vals.toArray) ∧ Below w.heap.size w w' := by
  have hs0 : (w.alloc (.cells thing0.vals.toArray 43)).heap.size = w.heap.size + 1 := by simp
  have hb0 := (Blk.new w 43 thing0.vals).alloc (.cells (Thing.mk 5 0 false []).vals.toArray 43)
  have hb1 := Blk.new (w.alloc (.cells thing0.vals.toArray 43)) 43 (Thing.mk 5 0 false []).vals
  rw [hs0] at hb1
  have hB0 : Below w.heap.size w (w.alloc (.cells thing0.vals.toArray 43)) := (Below.refl _ _).alloc (Nat.le_refl _) _
  have hB := hB0.alloc hB0.size (.cells (Thing.mk 5 0 false []).vals.toArray 43)
  clear hB0 hs0
  go_enter Tryd.func28, Tryd.ntmps28
  go_wp2_with fail
  change Calls _ _ _ ((w.alloc (.cells thing0.vals.toArray 43)).alloc (.cells (Thing.mk 5 0 false []).vals.toArray 43)) _
  generalize (w.alloc (.cells thing0.vals.toArray 43)).alloc (.cells (Thing.mk 5 0 false []).vals.toArray 43) = w0 at *
  refine (rOpaque_nil _ _).mono ?_
  rintro e w1 ⟨rfl, hb⟩
  have hc0 := hb0.stays hb
  have hc1 := hb1.stays hb
  have hB2 := below_then hB hb
  clear hb
  clear hb0 hb1 hB
  have hcell := hc1.cell
  have hfz := hc1.frozen
  have hd1 : Blk (w1.setCell ⟨w.heap.size + 1, 3, none⟩ (.string (bs []))) (w.heap.size + 1) 43 (Thing.mk 5 0 false []).vals := hc1.set_ 3 (.string (bs []))
  have hd0 : Blk (w1.setCell ⟨w.heap.size + 1, 3, none⟩ (.string (bs []))) w.heap.size 43 thing0.vals := hc0.far (p := ⟨w.heap.size + 1, 3, none⟩) (by show w.heap.size ≠ w.heap.size + 1; omega) _
  have hB3 : Below w.heap.size w (w1.setCell ⟨w.heap.size + 1, 3, none⟩ (.string (bs []))) := hB2.setCell (p := ⟨w.heap.size + 1, 3, none⟩) (by show w.heap.size ≤ w.heap.size + 1; omega) _
  have r1 : rowOf (w1.setCell ⟨w.heap.size + 1, 3, none⟩ (.string (bs []))) (w.heap.size + 1) 0 4 = some (Thing.mk 5 0 false []).vals.toArray := hd1.row 0 4 (by rw [Thing.tlen]; omega)
  have HQ := Lib.hid (And.intro (Below.setWhole hB3 (Nat.le_refl _) (Thing.mk 5 0 false []).vals) (hd0.whole (cs := (Thing.mk 5 0 false []).vals) rfl).range)
  clear hc0 hc1 hd1 hB2 hB3
  have tok : True := trivial
  go_wp2_with (first | (clear tok; refine wpList_store_whole (by rfl) 43 _ _ (by rfl) w.heap.size (Thing.mk 5 0 false []).vals _ hd0 (by rfl) (by rfl) (by rfl) (by kernel_rfl) (Thing.one _) ?_) | fail)
  exact ret_cells w.heap.size 0 (Thing.mk 5 0 false []).vals Tryd.results28 Tryd.underlying43 rfl (by kernel_rfl) rfl HQ.out.2 rfl ⟨rfl, HQ.out.1⟩
set_option maxRecDepth 20000 in
set_option maxHeartbeats 1600000 in
theorem take_nil_6 (n : Int) (w : World) : Calls Tryd.prog 28 #[.pointer none, .int .i64 6, .int .i64 n] w fun e w' => e = .returned (.agg (Thing.mk 6 0 false []).vals.toArray) ∧ Below w.heap.size w w' := by
  have hs0 : (w.alloc (.cells thing0.vals.toArray 43)).heap.size = w.heap.size + 1 := by simp
  have hb0 := (Blk.new w 43 thing0.vals).alloc (.cells (Thing.mk 6 0 false []).vals.toArray 43)
  have hb1 := Blk.new (w.alloc (.cells thing0.vals.toArray 43)) 43 (Thing.mk 6 0 false []).vals
  rw [hs0] at hb1
  have hB0 : Below w.heap.size w (w.alloc (.cells thing0.vals.toArray 43)) := (Below.refl _ _).alloc (Nat.le_refl _) _
  have hB := hB0.alloc hB0.size (.cells (Thing.mk 6 0 false []).vals.toArray 43)
  clear hB0 hs0
  go_enter Tryd.func28, Tryd.ntmps28
  go_wp2_with fail
  change Calls _ _ _ ((w.alloc (.cells thing0.vals.toArray 43)).alloc (.cells (Thing.mk 6 0 false []).vals.toArray 43)) _
  generalize (w.alloc (.cells thing0.vals.toArray 43)).alloc (.cells (Thing.mk 6 0 false []).vals.toArray 43) = w0 at *
  refine (xrOpt_nil _).mono ?_
  rintro e w1 ⟨rfl, hb⟩
  have hc0 := hb0.stays hb
  have hc1 := hb1.stays hb
  have hB2 := below_then hB hb
  clear hb
  clear hb0 hb1 hB
  have hcell := hc1.cell
  have hfz := hc1.frozen
  have hgo : w.heap.size + 1 < w1.heap.size := hc1.lt
  have hdm := hc1.set_ 2 (.bool false)
  have hcm := hdm.cell
  have hfm := hdm.frozen
  have hd1 : Blk (((w1.setCell ⟨w.heap.size + 1, 2, none⟩ (.bool false)).setCell ⟨w.heap.size + 1, 1, none⟩ (.int .i64 0)).alloc (.cells (optV (false, 0)).toArray 81)) (w.heap.size + 1) 43 (Thing.mk 6 0 false []).vals := (hdm.set_ 1 (.int .i64 0)).alloc (.cells (optV (false, 0)).toArray 81)
  have hd0 : Blk (((w1.setCell ⟨w.heap.size + 1, 2, none⟩ (.bool false)).setCell ⟨w.heap.size + 1, 1, none⟩ (.int .i64 0)).alloc (.cells (optV (false, 0)).toArray 81)) w.heap.size 43 thing0.vals := ((hc0.far (p := ⟨w.heap.size + 1, 2, none⟩) (by show w.heap.size ≠ w.heap.size + 1; omega) _).far (p := ⟨w.heap.size + 1, 1, none⟩) (by show w.heap.size ≠ w.heap.size + 1; omega) _).alloc (.cells (optV (false, 0)).toArray 81)
  have hBm : Below w.heap.size w ((w1.setCell ⟨w.heap.size + 1, 2, none⟩ (.bool false)).setCell ⟨w.heap.size + 1, 1, none⟩ (.int .i64 0)) := (hB2.setCell (p := ⟨w.heap.size + 1, 2, none⟩) (by show w.heap.size ≤ w.heap.size + 1; omega) _).setCell (p := ⟨w.heap.size + 1, 1, none⟩) (by show w.heap.size ≤ w.heap.size + 1; omega) _
  have hB3 := hBm.alloc hBm.size (.cells (optV (false, 0)).toArray 81)
  clear hdm hBm
  have r1 : rowOf (((w1.setCell ⟨w.heap.size + 1, 2, none⟩ (.bool false)).setCell ⟨w.heap.size + 1, 1, none⟩ (.int .i64 0)).alloc (.cells #[.bool false, .int .i64 0] 81)) (w.heap.size + 1) 0 4 = some (Thing.mk 6 0 false []).vals.toArray := hd1.row 0 4 (by rw [Thing.tlen]; omega)
  have HQ := Lib.hid (And.intro (Below.setWhole hB3 (Nat.le_refl _) (Thing.mk 6 0 false []).vals) (hd0.whole (cs := (Thing.mk 6 0 false []).vals) rfl).range)
  clear hc0 hc1 hd1 hB2 hB3
  have tok : True := trivial
  go_wp2_with (first | (refine wpList_new_struct (by rfl) (by rfl) 81 (by rfl) _ _ (by rfl) (optV (false, 0)) infoOptR (by rfl) (by rfl) (optV_one _) (by rfl) (by rfl) ?_) | (clear tok; refine wpList_store_whole (by rfl) 43 _ _ (by rfl) w.heap.size (Thing.mk 6 0 false []).vals _ hd0 (by rfl) (by rfl) (by rfl) (by kernel_rfl) (Thing.one _) ?_) | fail)
  exact ret_cells w.heap.size 0 (Thing.mk 6 0 false []).vals Tryd.results28 Tryd.underlying43 rfl (by kernel_rfl) rfl HQ.out.2 rfl ⟨rfl, HQ.out.1⟩
set_option maxHeartbeats 800000 in
theorem take_nil_0 (k n : Int) (w : World) (h : otherKind k) : Calls Tryd.prog 28 #[.pointer none, .int .i64 k, .int .i64 n] w fun e w' => e = .returned (.agg (Thing.mk k 0 false []).vals.toArray) ∧ Below w.heap.size w w' := by
  have hs0 : (w.alloc (.cells thing0.vals.toArray 43)).heap.size = w.heap.size + 1 := by simp
  have hb0 := (Blk.new w 43 thing0.vals).alloc (.cells (Thing.mk k 0 false []).vals.toArray 43)
  have hb1 := Blk.new (w.alloc (.cells thing0.vals.toArray 43)) 43 (Thing.mk k 0 false []).vals
  rw [hs0] at hb1
  have hB0 : Below w.heap.size w (w.alloc (.cells thing0.vals.toArray 43)) := (Below.refl _ _).alloc (Nat.le_refl _) _
  have hB := hB0.alloc hB0.size (.cells (Thing.mk k 0 false []).vals.toArray 43)
  have HQ := Lib.hid (And.intro (Below.setWhole hB (Nat.le_refl _) (Thing.mk k 0 false []).vals) (hb0.whole (cs := (Thing.mk k 0 false []).vals) rfl).range)
  obtain ⟨h1, h2, h3, h4, h5, h6⟩ := h
  have r1 : rowOf ((w.alloc (.cells thing0.vals.toArray 43)).alloc (.cells (Thing.mk k 0 false []).vals.toArray 43)) (w.heap.size + 1) 0 4 = some (Thing.mk k 0 false []).vals.toArray := hb1.row 0 4 (by rw [Thing.tlen]; omega)
  clear hb1 hB0 hs0 hB
  have tok : True := trivial
  go_enter Tryd.func28, Tryd.ntmps28
  go_wp2_with (first | (clear tok; refine wpList_store_whole (by rfl) 43 _ _ (by rfl) w.heap.size (Thing.mk k 0 false []).vals _ hb0 (by rfl) (by rfl) (by rfl) (by kernel_rfl) (Thing.one _) ?_) | fail)
  exact ret_cells w.heap.size 0 (Thing.mk k 0 false []).vals Tryd.results28 Tryd.underlying43 rfl (by kernel_rfl) rfl HQ.out.2 rfl ⟨rfl, HQ.out.1⟩
theorem takeN_nil (k n : Int) (w : World) : Calls Tryd.prog 28 #[.pointer none, .int .i64 k, .int .i64 n] w fun e w' => e = .returned (.agg (Thing.mk k 0 false []).vals.toArray) ∧ Below w.heap.size w w' := by
  rcases kind_cases k with rfl | rfl | rfl | rfl | rfl | rfl | h
  · exact take_nil_1 n w
  · exact take_nil_2 n w
  · exact take_nil_3 n w
  · exact take_nil_4 n w
  · exact take_nil_5 n w
  · exact take_nil_6 n w
  · exact take_nil_0 k n w h
end Go.Proofs.YtolcecpmiepggaaDoor

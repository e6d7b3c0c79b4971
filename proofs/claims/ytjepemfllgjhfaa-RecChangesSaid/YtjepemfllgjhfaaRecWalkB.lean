/-
  Layer 17, walks: the document's changes that make a cache (written by wip/tools/genrefchanges.py). Conditions: at most 100 of each kind.
-/
import Derived.Test.YtjepemfllgjhfaaRecWalkA
namespace Go.Proofs.Ytjepemfllgjhfaa
open Go.RowKit
attribute [local go_sem ↓] Go.wp_at_zero Go.wp_at_succ
attribute [local go_sem] rowAt_ptr rowOf_drew rowOf_drewN rowOf_alloc_past rowOf_new
attribute [local go_sem] Cch.lat0 Cch.lat1 Cch.lat2 Cch.lat3

set_option maxRecDepth 20000 in
set_option maxHeartbeats 3200000 in
theorem refChanges17_any (c : Cch) (w : World) (h1 : c.hs.length ≤ 100) (h2 : c.fs.length ≤ 100) (h3 : c.ns.length ≤ 100) (h4 : c.bl.length ≤ 100) (hT : c.There w) :
    Calls Try.prog 12 #[.agg c.vals.toArray] w fun e w' => ∃ v, e = .returned v ∧ RowL Change.vals w' w.heap.size 66 18 v (c.hs.map hChange ++ c.fs.map fChange ++ c.ns.map nChange ++ c.bl.map bChange) ∧ Below w.heap.size w w' := by
  obtain ⟨i0, hi, hz, hsize, hby⟩ := info_parts infoChange17
  have hB0 : Below w.heap.size w (w.alloc (.cells c.vals.toArray 27)) := (Below.refl _ _).alloc (Nat.le_refl _) _
  have hX := Blk.new w 27 c.vals
  have hs1 : (w.alloc (.cells c.vals.toArray 27)).heap.size = w.heap.size + 1 := by simp
  have hT1 : c.There (w.alloc (.cells c.vals.toArray 27)) := hT.below hB0
  have HX := Lib.hid hX
  have HT := Lib.hid hT1
  have HB0 := Lib.hid hB0
  have HS1 := Lib.hid hs1
  clear hX hT1 hT hB0 hs1
  go_enter Try.func12, Try.ntmps12
  go_wp2
  generalize w.alloc (.cells c.vals.toArray 27) = w1 at *
  go_loopw [3, 4] (fun v i wr => ∃ k : Nat, k ≤ c.hs.length ∧ i = .int .i64 k ∧ RowL Change.vals wr w1.heap.size 66 18 v ([] ++ (c.hs.take k).map hChange) ∧ Below w1.heap.size w1 wr) (fun _ i _ => c.hs.length - (intOf i).toNat)
  case atStart => exact ⟨0, Nat.zero_le _, rfl, RowS.none_, Below.refl _ _⟩
  case round =>
    obtain ⟨k, hk, rfl, hR, hB⟩ := hrel
    have hXw := (HX.out.stays hB).cell
    have hX1 := HX.out.cell
    have hlt1 : w.heap.size < w1.heap.size := HX.out.lt
    by_cases hlt : k < c.hs.length
    · have hAt := HT.out.h
      obtain ⟨b, off, hA, hb, hc⟩ := rowCell hAt hlt
      have hap := RowS.append (P := Try.prog) 30 30 i0 Try.underlying30 hi hz hsize hby rfl (by omega) (by omega) (show RowS wr.drew _ _ _ _ _ from hR) hB.size (hChange c.hs[k]).vals (Change.len _) (Change.one _) (by have := hR.at_; simp; omega)
      rw [map_snoc, snoc_next _ _ _ _ hlt] at hap
      have HA := Lib.hid hap
      have HB := Lib.hid hB
      have hk0 : (0 : Int) ≤ (k : Int) := Int.natCast_nonneg _
      have hk1 : (k : Int) < (c.hs.length : Int) := by omega
      have e0 := hc 0 _ (Held.lat0 _)
      have e1 := hc 1 _ (Held.lat1 _)
      have e2 := hc 2 _ (Held.lat2 _)
      simp only [Nat.add_zero] at e0
      clear hap hR hB hAt hc
      go_wp2_with fail
      go_region_held3 (fun W => Stb w1 W) (first | exact Stb.of HB.out.drew | assumption | (exact Stb.alloc (by assumption) _) | (exact Stb.of (hb' w1 HB.out.drew))) (first
        | (refine step_append_by (by rfl) (.tmp 15) (.tmp 35) #[30, 30] (by rfl) _ _ (by rfl) (by rfl) HA.out ?_; rintro v' w' ⟨hR', hb'⟩))
      have HR := Lib.hid hR'
      have HB2 := Lib.hid (hb' w1 HB.out.drew)
      clear hR' hb'
      go_wp2
      go_roundw
      case rel => exact ⟨k + 1, by omega, by go_num, HR.out, HB2.out⟩
      case measure => simp [intOf]; omega
    · obtain rfl : k = c.hs.length := by omega
      rw [List.take_length] at hR
      have HR1 := Lib.hid hR
      have HB1 := Lib.hid hB
      clear hR hB hlt hk
      go_wp2
      go_loopw [3, 5] (fun v i wr => ∃ k : Nat, k ≤ c.fs.length ∧ i = .int .i64 k ∧ RowL Change.vals wr w1.heap.size 66 18 v (([] ++ c.hs.map hChange) ++ (c.fs.take k).map fChange) ∧ Below w1.heap.size w1 wr) (fun _ i _ => c.fs.length - (intOf i).toNat)
      case atStart => exact ⟨0, Nat.zero_le _, rfl, by simpa using HR1.out, HB1.out⟩
      case round =>
        obtain ⟨k, hk, rfl, hR, hB⟩ := hrel
        have hXw := (HX.out.stays hB).cell
        have hX1 := HX.out.cell
        have hlt1 : w.heap.size < w1.heap.size := HX.out.lt
        by_cases hlt : k < c.fs.length
        · have hAt := HT.out.f
          obtain ⟨b, off, hA, hb, hc⟩ := rowCell hAt hlt
          have hap := RowS.append (P := Try.prog) 30 30 i0 Try.underlying30 hi hz hsize hby rfl (by omega) (by omega) (show RowS wr.drew _ _ _ _ _ from hR) hB.size (fChange c.fs[k]).vals (Change.len _) (Change.one _) (by have := hR.at_; simp; omega)
          rw [map_snoc, snoc_next _ _ _ _ hlt] at hap
          have HA := Lib.hid hap
          have HB := Lib.hid hB
          have hk0 : (0 : Int) ≤ (k : Int) := Int.natCast_nonneg _
          have hk1 : (k : Int) < (c.fs.length : Int) := by omega
          have e0 := hc 0 _ (Cached.lat0 _)
          have e1 := hc 1 _ (Cached.lat1 _)
          have e2 := hc 2 _ (Cached.lat2 _)
          have e3 := hc 3 _ (Cached.lat3 _)
          have e4 := hc 4 _ (Cached.lat4 _)
          have e5 := hc 5 _ (Cached.lat5 _)
          have e6 := hc 6 _ (Cached.lat6 _)
          have e7 := hc 7 _ (Cached.lat7 _)
          have e8 := hc 8 _ (Cached.lat8 _)
          have e9 := hc 9 _ (Cached.lat9 _)
          have e10 := hc 10 _ (Cached.lat10 _)
          simp only [Nat.add_zero] at e0
          clear hap hR hB hAt hc
          go_wp2_with fail
          go_region_held3 (fun W => Stb w1 W) (first | exact Stb.of HB.out.drew | assumption | (exact Stb.alloc (by assumption) _) | (exact Stb.of (hb' w1 HB.out.drew))) (first
            | (refine step_append_by (by rfl) (.tmp 44) (.tmp 58) #[30, 30] (by rfl) _ _ (by rfl) (by rfl) HA.out ?_; rintro v' w' ⟨hR', hb'⟩))
          have HR := Lib.hid hR'
          have HB2 := Lib.hid (hb' w1 HB.out.drew)
          clear hR' hb'
          go_wp2
          go_roundw
          case rel => exact ⟨k + 1, by omega, by go_num, HR.out, HB2.out⟩
          case measure => simp [intOf]; omega
        · obtain rfl : k = c.fs.length := by omega
          rw [List.take_length] at hR
          have HR2 := Lib.hid hR
          have HB2 := Lib.hid hB
          clear hR hB hlt hk
          go_wp2
          go_loopw [3, 6] (fun v i wr => ∃ k : Nat, k ≤ c.ns.length ∧ i = .int .i64 k ∧ RowL Change.vals wr w1.heap.size 66 18 v (([] ++ c.hs.map hChange) ++ c.fs.map fChange ++ (c.ns.take k).map nChange) ∧ Below w1.heap.size w1 wr) (fun _ i _ => c.ns.length - (intOf i).toNat)
          case atStart => exact ⟨0, Nat.zero_le _, rfl, by simpa using HR2.out, HB2.out⟩
          case round =>
            obtain ⟨k, hk, rfl, hR, hB⟩ := hrel
            have hXw := (HX.out.stays hB).cell
            have hX1 := HX.out.cell
            have hlt1 : w.heap.size < w1.heap.size := HX.out.lt
            by_cases hlt : k < c.ns.length
            · have hAt := HT.out.n
              obtain ⟨b, off, hA, hb, hc⟩ := rowCell hAt hlt
              have hap := RowS.append (P := Try.prog) 30 30 i0 Try.underlying30 hi hz hsize hby rfl (by omega) (by omega) (show RowS wr.drew _ _ _ _ _ from hR) hB.size (nChange c.ns[k]).vals (Change.len _) (Change.one _) (by have := hR.at_; simp; omega)
              rw [map_snoc, snoc_next _ _ _ _ hlt] at hap
              have HA := Lib.hid hap
              have HB := Lib.hid hB
              have hk0 : (0 : Int) ≤ (k : Int) := Int.natCast_nonneg _
              have hk1 : (k : Int) < (c.ns.length : Int) := by omega
              have e0 := hc 0 _ (Known.lat0 _)
              have e1 := hc 1 _ (Known.lat1 _)
              have e2 := hc 2 _ (Known.lat2 _)
              simp only [Nat.add_zero] at e0
              clear hap hR hB hAt hc
              go_wp2_with fail
              go_region_held3 (fun W => Stb w1 W) (first | exact Stb.of HB.out.drew | assumption | (exact Stb.alloc (by assumption) _) | (exact Stb.of (hb' w1 HB.out.drew))) (first
                | (refine step_append_by (by rfl) (.tmp 67) (.tmp 87) #[30, 30] (by rfl) _ _ (by rfl) (by rfl) HA.out ?_; rintro v' w' ⟨hR', hb'⟩))
              have HR := Lib.hid hR'
              have HB2 := Lib.hid (hb' w1 HB.out.drew)
              clear hR' hb'
              go_wp2
              go_roundw
              case rel => exact ⟨k + 1, by omega, by go_num, HR.out, HB2.out⟩
              case measure => simp [intOf]; omega
            · obtain rfl : k = c.ns.length := by omega
              rw [List.take_length] at hR
              have HR3 := Lib.hid hR
              have HB3 := Lib.hid hB
              clear hR hB hlt hk
              go_wp2
              go_loopw [3, 7] (fun v i wr => ∃ k : Nat, k ≤ c.bl.length ∧ i = .int .i64 k ∧ RowL Change.vals wr w1.heap.size 66 18 v (([] ++ c.hs.map hChange) ++ c.fs.map fChange ++ c.ns.map nChange ++ (c.bl.take k).map bChange) ∧ Below w1.heap.size w1 wr) (fun _ i _ => c.bl.length - (intOf i).toNat)
              case atStart => exact ⟨0, Nat.zero_le _, rfl, by simpa using HR3.out, HB3.out⟩
              case round =>
                obtain ⟨k, hk, rfl, hR, hB⟩ := hrel
                have hXw := (HX.out.stays hB).cell
                have hX1 := HX.out.cell
                have hlt1 : w.heap.size < w1.heap.size := HX.out.lt
                by_cases hlt : k < c.bl.length
                · have hAt := HT.out.b
                  obtain ⟨b, off, hA, hb, hc⟩ := rowCell hAt hlt
                  have hap := RowS.append (P := Try.prog) 30 30 i0 Try.underlying30 hi hz hsize hby rfl (by omega) (by omega) (show RowS wr.drew _ _ _ _ _ from hR) hB.size (bChange c.bl[k]).vals (Change.len _) (Change.one _) (by have := hR.at_; simp; omega)
                  rw [map_snoc, snoc_next _ _ _ _ hlt] at hap
                  have HA := Lib.hid hap
                  have HB := Lib.hid hB
                  have hk0 : (0 : Int) ≤ (k : Int) := Int.natCast_nonneg _
                  have hk1 : (k : Int) < (c.bl.length : Int) := by omega
                  have e0 := hc 0 _ (Placed.lat0 _)
                  have e1 := hc 1 _ (Placed.lat1 _)
                  have e2 := hc 2 _ (Placed.lat2 _)
                  simp only [Nat.add_zero] at e0
                  clear hap hR hB hAt hc
                  go_wp2_with fail
                  go_region_held3 (fun W => Stb w1 W) (first | exact Stb.of HB.out.drew | assumption | (exact Stb.alloc (by assumption) _) | (exact Stb.of (hb' w1 HB.out.drew))) (first
                    | (refine step_append_by (by rfl) (.tmp 96) (.tmp 116) #[30, 30] (by rfl) _ _ (by rfl) (by rfl) HA.out ?_; rintro v' w' ⟨hR', hb'⟩))
                  have HR := Lib.hid hR'
                  have HB2 := Lib.hid (hb' w1 HB.out.drew)
                  clear hR' hb'
                  go_wp2
                  go_roundw
                  case rel => exact ⟨k + 1, by omega, by go_num, HR.out, HB2.out⟩
                  case measure => simp [intOf]; omega
                · obtain rfl : k = c.bl.length := by omega
                  rw [List.take_length] at hR
                  have HR4 := Lib.hid hR
                  have HB4 := Lib.hid hB
                  clear hR hB hlt hk
                  go_wp2
                  go_ret
                  exact ⟨_, rfl, by have h := HR4.out.base (C := w.heap.size) (by have := HS1.out; omega); rwa [List.nil_append] at h, below_then HB0.out HB4.out⟩
end Go.Proofs.Ytjepemfllgjhfaa

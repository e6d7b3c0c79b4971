/-
  Layer 17, walks: the program's changes that make a cache (written by wip/tools/genchanges.py). Conditions: at most 100 of each kind.
-/
import Derived.Test.YtjepemfllgjhfaaProg
import Derived.Test.YtjepemfllgjhfaaRecPure
import Derived.Test.YtjepemfllgjhfaaWireOpen
import Derived.Deep.Light
namespace Go.Proofs.Ytjepemfllgjhfaa
open Go.RowKit
attribute [local go_sem ↓] Go.wp_at_zero Go.wp_at_succ
attribute [local go_sem] rowAt_ptr rowOf_drew rowOf_drewN rowOf_alloc_past rowOf_new
attribute [local go_sem] Held.at0 Held.lat0 Held.at1 Held.lat1 Held.at2 Held.lat2 Held.sub0_3 Held.lsub0_3 Held.len Cached.at0 Cached.lat0 Cached.at1 Cached.lat1 Cached.at2 Cached.lat2 Cached.at3 Cached.lat3 Cached.at4 Cached.lat4 Cached.at5 Cached.lat5 Cached.at6 Cached.lat6 Cached.at7 Cached.lat7 Cached.at8 Cached.lat8 Cached.at9 Cached.lat9 Cached.at10 Cached.lat10 Cached.sub0_11 Cached.lsub0_11 Cached.sub1_10 Cached.lsub1_10 Cached.len Known.at0 Known.lat0 Known.at1 Known.lat1 Known.at2 Known.lat2 Known.sub0_3 Known.lsub0_3 Known.len Placed.at0 Placed.lat0 Placed.at1 Placed.lat1 Placed.at2 Placed.lat2 Placed.sub0_3 Placed.lsub0_3 Placed.len

theorem Cch.lat0 (x : Cch) : x.vals[0]? = some (.slice x.ha x.hs.length x.hc) := rfl
theorem Cch.lat1 (x : Cch) : x.vals[1]? = some (.slice x.fa x.fs.length x.fc) := rfl
theorem Cch.lat2 (x : Cch) : x.vals[2]? = some (.slice x.na x.ns.length x.nc) := rfl
theorem Cch.lat3 (x : Cch) : x.vals[3]? = some (.slice x.ba x.bl.length x.bc) := rfl
attribute [local go_sem] Cch.lat0 Cch.lat1 Cch.lat2 Cch.lat3

theorem infoChange17 : (Try.prog.info? 66).map (fun i => (i.zero, i.size, i.bytes)) = some (some (.agg change0.vals.toArray), 18, 168) := by kernel_rfl
theorem infoHeld17 : (Try.prog.info? 68).map (fun i => (i.zero, i.size)) = some (some (.agg (Held.mk 0 0 []).vals.toArray), 3) := by kernel_rfl
theorem infoCached17 : (Try.prog.info? 70).map (fun i => (i.zero, i.size)) = some (some (.agg (Cached.mk [] attr0).vals.toArray), 11) := by kernel_rfl
theorem infoKnown17 : (Try.prog.info? 72).map (fun i => (i.zero, i.size)) = some (some (.agg (Known.mk [] [] []).vals.toArray), 3) := by kernel_rfl
theorem infoPlaced17 : (Try.prog.info? 74).map (fun i => (i.zero, i.size)) = some (some (.agg (Placed.mk [] 0 0).vals.toArray), 3) := by kernel_rfl

set_option maxRecDepth 20000 in
set_option maxHeartbeats 1600000 in
theorem recChanges_any (c : Cch) (w : World) (h1 : c.hs.length ≤ 100) (h2 : c.fs.length ≤ 100) (h3 : c.ns.length ≤ 100) (h4 : c.bl.length ≤ 100) (hT : c.There w) :
    Calls Try.prog 11 #[.agg c.vals.toArray] w fun e w' => ∃ v, e = .returned v ∧ RowL Change.vals w' w.heap.size 66 18 v (c.hs.map hChange ++ c.fs.map fChange ++ c.ns.map nChange ++ c.bl.map bChange) ∧ Below w.heap.size w w' := by
  obtain ⟨i0, hi, hz, hsize, hby⟩ := info_parts infoChange17
  obtain ⟨ca, hca⟩ : ∃ ca, ca = c.ha := ⟨_, rfl⟩
  have hB0 : Below w.heap.size w (w.alloc (.cells c.vals.toArray 27)) := (Below.refl _ _).alloc (Nat.le_refl _) _
  have hX := Blk.new w 27 c.vals
  have hcx := hX.cell
  have hs1 : (w.alloc (.cells c.vals.toArray 27)).heap.size = w.heap.size + 1 := by simp
  have hT1 : c.There (w.alloc (.cells c.vals.toArray 27)) := hT.below hB0
  have HX := Lib.hid hX
  have HT := Lib.hid hT1
  have HB0 := Lib.hid hB0
  have HS1 := Lib.hid hs1
  clear hX hT1 hT hB0 hs1 hca ca
  go_enter Try.func11, Try.ntmps11
  go_wp2
  generalize w.alloc (.cells c.vals.toArray 27) = w1 at *
  have hAt := HT.out.h
  generalize c.ha = A0 at hAt ⊢
  go_loopw [3, 15] (fun v i wr => ∃ k : Nat, k ≤ c.hs.length ∧ i = .int .i64 k ∧ RowL Change.vals wr w1.heap.size 66 18 v ([] ++ (c.hs.take k).map hChange) ∧ Below w1.heap.size w1 wr) (fun _ i _ => c.hs.length - (intOf i).toNat)
  case atStart => exact ⟨0, Nat.zero_le _, rfl, RowS.none_, Below.refl _ _⟩
  case round =>
    obtain ⟨k, hk, rfl, hR, hB⟩ := hrel
    by_cases hlt : k < c.hs.length
    · have hA2 := hAt.below hB
      obtain ⟨b, off, rfl, hb, hc⟩ := rowCell hA2 hlt
      have hap := RowS.append (P := Try.prog) 30 30 i0 Try.underlying30 hi hz hsize hby rfl (by omega) (by omega) (hR.alloc (.cells c.hs[k].vals.toArray 68)) (by simp; have := hB.size; omega) (hChange c.hs[k]).vals (Change.len _) (Change.one _) (by have := hR.at_; simp; omega)
      rw [map_snoc, snoc_next _ _ _ _ hlt, show (wr.alloc (.cells c.hs[k].vals.toArray 68)).heap.size = wr.heap.size + 1 by simp] at hap
      have HA := Lib.hid hap
      have HB := Lib.hid hB
      clear hap hA2 hR hB hcx hAt
      go_wp2_with (first
        | (refine wpList_load_mid (by rfl) 68 _ (by rfl) _ _ (by rfl) _ _ (by exact hc) Try.underlying68 (by rfl) (by kernel_rfl) ?_)
        | (refine wpList_new_struct (by rfl) (by rfl) 68 (by rfl) _ _ (by rfl) c.hs[k].vals infoHeld17 (by rfl) (by rfl) (Held.one _) (by rfl) (by rfl) ?_)
        | (refine wpList_append_by (by rfl) (.tmp 19) (.tmp 27) #[30, 30] (by rfl) _ _ (by rfl) (by rfl) HA.out ?_; rintro v' w' ⟨hR', hb'⟩)
        | fail)
      have HR := Lib.hid hR'
      have HB2 := Lib.hid (hb' w1 (HB.out.alloc HB.out.size _))
      clear hR' hb'
      go_roundw
      case rel => exact ⟨k + 1, by omega, by go_num, HR.out, HB2.out⟩
      case measure => simp [intOf]; omega
    · obtain rfl : k = c.hs.length := by omega
      rw [List.take_length] at hR
      have HR1 := Lib.hid hR
      have HB1 := Lib.hid hB
      have hX := HX.out.stays hB
      have hcx := hX.cell
      clear hX hR hB hlt hk hAt
      go_wp2
      have hAt := HT.out.f
      generalize c.fa = A1 at hAt ⊢
      go_loopw [3, 33] (fun v i wr => ∃ k : Nat, k ≤ c.fs.length ∧ i = .int .i64 k ∧ RowL Change.vals wr w1.heap.size 66 18 v (([] ++ c.hs.map hChange) ++ (c.fs.take k).map fChange) ∧ Below w1.heap.size w1 wr) (fun _ i _ => c.fs.length - (intOf i).toNat)
      case atStart => exact ⟨0, Nat.zero_le _, rfl, by simpa using HR1.out, HB1.out⟩
      case round =>
        obtain ⟨k, hk, rfl, hR, hB⟩ := hrel
        by_cases hlt : k < c.fs.length
        · have hA2 := hAt.below hB
          obtain ⟨b, off, rfl, hb, hc⟩ := rowCell hA2 hlt
          have hap := RowS.append (P := Try.prog) 30 30 i0 Try.underlying30 hi hz hsize hby rfl (by omega) (by omega) (hR.alloc (.cells c.fs[k].vals.toArray 70)) (by simp; have := hB.size; omega) (fChange c.fs[k]).vals (Change.len _) (Change.one _) (by have := hR.at_; simp; omega)
          rw [map_snoc, snoc_next _ _ _ _ hlt, show (wr.alloc (.cells c.fs[k].vals.toArray 70)).heap.size = wr.heap.size + 1 by simp] at hap
          have HA := Lib.hid hap
          have HB := Lib.hid hB
          clear hap hA2 hR hB hcx hAt
          go_wp2_with (first
            | (refine wpList_load_mid (by rfl) 70 _ (by rfl) _ _ (by rfl) _ _ (by exact hc) Try.underlying70 (by rfl) (by kernel_rfl) ?_)
            | (refine wpList_new_struct (by rfl) (by rfl) 70 (by rfl) _ _ (by rfl) c.fs[k].vals infoCached17 (by rfl) (by rfl) (Cached.one _) (by rfl) (by rfl) ?_)
            | (refine wpList_append_by (by rfl) (.tmp 37) (.tmp 43) #[30, 30] (by rfl) _ _ (by rfl) (by rfl) HA.out ?_; rintro v' w' ⟨hR', hb'⟩)
            | fail)
          have HR := Lib.hid hR'
          have HB2 := Lib.hid (hb' w1 (HB.out.alloc HB.out.size _))
          clear hR' hb'
          go_roundw
          case rel => exact ⟨k + 1, by omega, by go_num, HR.out, HB2.out⟩
          case measure => simp [intOf]; omega
        · obtain rfl : k = c.fs.length := by omega
          rw [List.take_length] at hR
          have HR2 := Lib.hid hR
          have HB2 := Lib.hid hB
          have hX := HX.out.stays hB
          have hcx := hX.cell
          clear hX hR hB hlt hk hAt
          go_wp2
          have hAt := HT.out.n
          generalize c.na = A2 at hAt ⊢
          go_loopw [3, 49] (fun v i wr => ∃ k : Nat, k ≤ c.ns.length ∧ i = .int .i64 k ∧ RowL Change.vals wr w1.heap.size 66 18 v (([] ++ c.hs.map hChange) ++ c.fs.map fChange ++ (c.ns.take k).map nChange) ∧ Below w1.heap.size w1 wr) (fun _ i _ => c.ns.length - (intOf i).toNat)
          case atStart => exact ⟨0, Nat.zero_le _, rfl, by simpa using HR2.out, HB2.out⟩
          case round =>
            obtain ⟨k, hk, rfl, hR, hB⟩ := hrel
            by_cases hlt : k < c.ns.length
            · have hA2 := hAt.below hB
              obtain ⟨b, off, rfl, hb, hc⟩ := rowCell hA2 hlt
              have hap := RowS.append (P := Try.prog) 30 30 i0 Try.underlying30 hi hz hsize hby rfl (by omega) (by omega) (hR.alloc (.cells c.ns[k].vals.toArray 72)) (by simp; have := hB.size; omega) (nChange c.ns[k]).vals (Change.len _) (Change.one _) (by have := hR.at_; simp; omega)
              rw [map_snoc, snoc_next _ _ _ _ hlt, show (wr.alloc (.cells c.ns[k].vals.toArray 72)).heap.size = wr.heap.size + 1 by simp] at hap
              have HA := Lib.hid hap
              have HB := Lib.hid hB
              clear hap hA2 hR hB hcx hAt
              go_wp2_with (first
                | (refine wpList_load_mid (by rfl) 72 _ (by rfl) _ _ (by rfl) _ _ (by exact hc) Try.underlying72 (by rfl) (by kernel_rfl) ?_)
                | (refine wpList_new_struct (by rfl) (by rfl) 72 (by rfl) _ _ (by rfl) c.ns[k].vals infoKnown17 (by rfl) (by rfl) (Known.one _) (by rfl) (by rfl) ?_)
                | (refine wpList_append_by (by rfl) (.tmp 53) (.tmp 61) #[30, 30] (by rfl) _ _ (by rfl) (by rfl) HA.out ?_; rintro v' w' ⟨hR', hb'⟩)
                | fail)
              have HR := Lib.hid hR'
              have HB2 := Lib.hid (hb' w1 (HB.out.alloc HB.out.size _))
              clear hR' hb'
              go_roundw
              case rel => exact ⟨k + 1, by omega, by go_num, HR.out, HB2.out⟩
              case measure => simp [intOf]; omega
            · obtain rfl : k = c.ns.length := by omega
              rw [List.take_length] at hR
              have HR3 := Lib.hid hR
              have HB3 := Lib.hid hB
              have hX := HX.out.stays hB
              have hcx := hX.cell
              clear hX hR hB hlt hk hAt
              go_wp2
              have hAt := HT.out.b
              generalize c.ba = A3 at hAt ⊢
              go_loopw [3, 67] (fun v i wr => ∃ k : Nat, k ≤ c.bl.length ∧ i = .int .i64 k ∧ RowL Change.vals wr w1.heap.size 66 18 v (([] ++ c.hs.map hChange) ++ c.fs.map fChange ++ c.ns.map nChange ++ (c.bl.take k).map bChange) ∧ Below w1.heap.size w1 wr) (fun _ i _ => c.bl.length - (intOf i).toNat)
              case atStart => exact ⟨0, Nat.zero_le _, rfl, by simpa using HR3.out, HB3.out⟩
              case round =>
                obtain ⟨k, hk, rfl, hR, hB⟩ := hrel
                by_cases hlt : k < c.bl.length
                · have hA2 := hAt.below hB
                  obtain ⟨b, off, rfl, hb, hc⟩ := rowCell hA2 hlt
                  have hap := RowS.append (P := Try.prog) 30 30 i0 Try.underlying30 hi hz hsize hby rfl (by omega) (by omega) (hR.alloc (.cells c.bl[k].vals.toArray 74)) (by simp; have := hB.size; omega) (bChange c.bl[k]).vals (Change.len _) (Change.one _) (by have := hR.at_; simp; omega)
                  rw [map_snoc, snoc_next _ _ _ _ hlt, show (wr.alloc (.cells c.bl[k].vals.toArray 74)).heap.size = wr.heap.size + 1 by simp] at hap
                  have HA := Lib.hid hap
                  have HB := Lib.hid hB
                  clear hap hA2 hR hB hcx hAt
                  go_wp2_with (first
                    | (refine wpList_load_mid (by rfl) 74 _ (by rfl) _ _ (by rfl) _ _ (by exact hc) Try.underlying74 (by rfl) (by kernel_rfl) ?_)
                    | (refine wpList_new_struct (by rfl) (by rfl) 74 (by rfl) _ _ (by rfl) c.bl[k].vals infoPlaced17 (by rfl) (by rfl) (Placed.one _) (by rfl) (by rfl) ?_)
                    | (refine wpList_append_by (by rfl) (.tmp 71) (.tmp 79) #[30, 30] (by rfl) _ _ (by rfl) (by rfl) HA.out ?_; rintro v' w' ⟨hR', hb'⟩)
                    | fail)
                  have HR := Lib.hid hR'
                  have HB2 := Lib.hid (hb' w1 (HB.out.alloc HB.out.size _))
                  clear hR' hb'
                  go_roundw
                  case rel => exact ⟨k + 1, by omega, by go_num, HR.out, HB2.out⟩
                  case measure => simp [intOf]; omega
                · obtain rfl : k = c.bl.length := by omega
                  rw [List.take_length] at hR
                  have HR4 := Lib.hid hR
                  have HB4 := Lib.hid hB
                  have hX := HX.out.stays hB
                  have hcx := hX.cell
                  clear hX hR hB hlt hk hAt
                  go_wp2
                  go_ret
                  exact ⟨_, rfl, by have h := HR4.out.base (C := w.heap.size) (by have := HS1.out; omega); rwa [List.nil_append] at h, below_then HB0.out HB4.out⟩
end Go.Proofs.Ytjepemfllgjhfaa

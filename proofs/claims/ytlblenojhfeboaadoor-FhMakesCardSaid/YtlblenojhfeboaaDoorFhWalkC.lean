/-
  Layer 3, walks: the program's Parse. Condition: a machine text; the parts of no handle are noughts.
-/
import Derived.Test.YtlblenojhfeboaaDoorFhWalkB
import Derived.Test.YtlblenojhfeboaaDoorArrEq
import Derived.Test.YtlblenojhfeboaaDoorXdrReadD
import Derived.Test.YtlblenojhfeboaaDoorLater
import Derived.BigQuiet
import Derived.Deep.QuietTactic
import Derived.Deep.RegionWith
namespace Go.Proofs.YtlblenojhfeboaaDoor
open Go.RowKit
attribute [local go_sem ↓] Go.wp_at_zero Go.wp_at_succ
attribute [local go_sem] rowAt_ptr rowOf_drew rowOf_drewN rowOf_alloc_past rowOf_new
attribute [local go_sem] Parts.at0 Parts.lat0 Parts.at1 Parts.lat1 Parts.at2 Parts.lat2 Parts.sub0_3 Parts.lsub0_3 Parts.len

attribute [local go_sem ↓] ldRaw ldParts arr16

/-- the program's own 'parts of no handle' are noughts -/
def FhNone (w : World) : Prop := rowOf w 0 0 3 = some parts0.vals.toArray ∧ 0 < w.heap.size
theorem FhNone.below {w w' : World} (h : FhNone w) (hb : Below w.heap.size w w') : FhNone w' := ⟨(rowOf_below hb h.2 _ _).trans h.1, Nat.lt_of_lt_of_le h.2 hb.size⟩
def ParseP (p : Parts × Int) (w : World) (e : Ending) (w' : World) : Prop := e = .returned (.tuple #[.agg p.1.vals.toArray, .int .i64 p.2]) ∧ Below w.heap.size w w'
theorem ParseP.of {p : Parts × Int} {w w' : World} {q : Parts} {n : Int} (h : p = (q, n)) (hb : Below w.heap.size w w') : ParseP p w (.returned (.tuple #[.agg q.vals.toArray, .int .i64 n])) w' := by subst h; exact ⟨rfl, hb⟩

attribute [local go_sem] laterCv

theorem ldRawL {ρ : Operand → Value} {w : World} {dst : Option Tmp} {ty : TypeId} {pos : String} {after : Array Edge} {g : Option (Nat × Bool)} {x : Operand} (h : (rowAt w 16 (ρ x)).isSome = true) :
    (execOp ρ ⟨dst, laterLd 55 x, ty, pos, after, g⟩).run Tryd.prog w = .ok (.value (.agg ((rowAt w 16 (ρ x)).getD #[]))) w := ldRaw h
attribute [local go_sem ↓] ldRawL

/-- what '[]byte(s)' makes -/
def capS (s : List UInt8) (w : World) : Nat := grownCap w s.length 0 5
def convW (s : List UInt8) (w : World) : World := w.drew.alloc (.cells (bytesRow (bs s) (capS s w)) 5 ((bytesRow (bs s) (capS s w)).size, (bytesRow (bs s) (capS s w)).size + 1))
theorem convS16 {s : List UInt8} (h : s.length = 16) (w : World) : (convert 9 59 (.string (bs s))).run Tryd.prog w = .ok (.slice (some ⟨w.heap.size, 0, none⟩) 16 (capS s w)) (convW s w) := by
  have := run_bytes_of_string (P := Tryd.prog) w 9 59 5 (bs s) Tryd.underlying9 Tryd.underlying59 Tryd.underlying5
  rw [bs_size] at this
  rw [this, h, capS, convW, capS, h]
theorem convW_below (s : List UInt8) (w : World) : Below w.heap.size w (convW s w) := ((Below.refl _ _).drew).alloc (Nat.le_refl _) _
theorem convW_old (s : List UInt8) (w : World) (b o n : Nat) (h : b < w.heap.size) : rowOf (convW s w) b o n = rowOf w b o n := rowOf_below (convW_below s w) h o n
theorem convW_new {s : List UInt8} (h : s.length = 16) (w : World) (b : Nat) (hb : b = w.heap.size) : rowOf (convW s w) b 0 16 = some (rawV s).toArray := by
  subst hb
  have hge := grownCap_ge w s.length 0 5
  have e : (bytesRow (bs s) (capS s w)) = (rawV s ++ zcells (capS s w - s.length)).toArray := by
    apply Array.ext'
    simp [bytesRow, zcells, rawV, u8, bs_size, capS]
  have hh : (convW s w).heap[w.heap.size]? = some (.cells (rawV s ++ zcells (capS s w - s.length)).toArray 5 ((bytesRow (bs s) (capS s w)).size, (bytesRow (bs s) (capS s w)).size + 1)) := by
    unfold convW
    rw [e]
    exact heap_alloc_new w.drew _
  unfold rowOf
  rw [hh]
  simp only
  rw [if_pos (by simp [rawV, h])]
  congr 1
  apply Array.ext'
  simp [rawV, h, List.extract, List.take_append]
set_option maxRecDepth 20000 in
set_option maxHeartbeats 1600000 in
theorem fhParse_any (s : List UInt8) (w : World) (hl : s.length ≤ 9223372036854775807) (hN : FhNone w) : Calls Tryd.prog 12 #[.string (bs s)] w (ParseP (fhParse s) w) := by
  have hsz := bs_size s
  have hR := Blk.new w 24 parts0.vals
  have hB : Below w.heap.size w (w.alloc (.cells parts0.vals.toArray 24)) := (Below.refl _ _).alloc (Nat.le_refl _) _
  have hn1 := hN.below hB
  obtain ⟨Q, hQ⟩ : ∃ Q, Q = fhParse s := ⟨_, rfl⟩
  rw [← hQ]
  have HQ := Lib.hid hQ
  have HR := Lib.hid hR
  have HB := Lib.hid hB
  have HNN := Lib.hid hn1
  clear hQ hR hB
  go_enter Tryd.func12, Tryd.ntmps12
  go_upto_region 1 with fail
  change Code.wp _ _ _ _ (w.alloc (.cells parts0.vals.toArray 24))
  generalize w.alloc (.cells parts0.vals.toArray 24) = w1 at *
  obtain ⟨hn1, hn2⟩ := hn1
  by_cases h16 : s.length = 16
  case neg =>
    have HV := Lib.hid (show Q = (parts0, 14) by
      rw [HQ.out, fhParse, if_neg (by rw [fhGood_iff]; exact fun h => h16 h.1)])
    have hne : ((s.length : Int) != 16) = true := by simp; omega
    clear h16
    go_wp2_with (first | (refine wpList_store_whole (by rfl) 24 _ _ (by rfl) w.heap.size parts0.vals _ HR.out (by rfl) (by rfl) (by rfl) (by kernel_rfl) (Parts.one _) ?_) | fail)
    exact ret_cells2 w.heap.size 0 parts0.vals (.int .i64 14) Tryd.results12 Tryd.underlying24 rfl (by kernel_rfl) rfl rfl (HR.out.whole (by rfl)).range rfl (ParseP.of HV.out (Below.setWhole HB.out (Nat.le_refl _) _))
  have hne : ((s.length : Int) != 16) = false := by simp; omega
  -- what the reader gives
  obtain ⟨k, hk⟩ : ∃ k, k = beVal (s.take 4) := ⟨_, rfl⟩
  obtain ⟨a, ha⟩ : ∃ a, a = beVal ((s.drop 4).take 4) := ⟨_, rfl⟩
  obtain ⟨b, hb⟩ : ∃ b, b = beVal (s.drop 8) := ⟨_, rfl⟩
  have r1 : rU32 ⟨s, 0⟩ = (k, ⟨s.drop 4, 0⟩) := by
    unfold rU32 rNum
    rw [if_neg (by simp), if_neg (by simp only; omega), hk]
  have r2 : rU32 ⟨s.drop 4, 0⟩ = (a, ⟨s.drop 8, 0⟩) := by
    unfold rU32 rNum
    rw [if_neg (by simp), if_neg (by simp only [List.length_drop]; omega), ha, List.drop_drop]
  have r3 : rU64 ⟨s.drop 8, 0⟩ = if 9223372036854775808 ≤ b then (0, Rs.fail 3) else (b, ⟨[], 0⟩) := by
    have e : rNum 8 ⟨s.drop 8, 0⟩ = (b, ⟨[], 0⟩) := by
      unfold rNum
      have h8 : (s.drop 8).length = 8 := by rw [List.length_drop]; omega
      rw [if_neg (by simp), if_neg (by simp only; omega)]
      show (beVal ((s.drop 8).take 8), Rs.mk ((s.drop 8).drop 8) 0) = _
      rw [List.take_of_length_le (l := s.drop 8) (by omega), List.drop_of_length_le (l := s.drop 8) (by omega), hb]
    unfold rU64
    rw [e]
  have hk32 : k < 4294967296 := by have := beVal_lt (s.take 4); rw [List.length_take, h16] at this; rw [hk]; simpa using this
  have ha32 : a < 4294967296 := by have := beVal_lt ((s.drop 4).take 4); rw [List.length_take, List.length_drop, h16] at this; rw [ha]; simpa using this
  have hgood := good_prog h16
  rw [← hk, ← ha, ← hb] at hgood
  have hP : fhGood s = true → fhP s = ⟨((k / 16777216 : Nat) : Int), (a : Int), (b : Int)⟩ := fun h => by
    obtain ⟨h1, h2, h3⟩ := hgood.1 h
    obtain ⟨g1, g2⟩ := parts_good h2 (by simp only; omega)
    rw [h3] at g2
    exact g2
  obtain ⟨q, hq⟩ : ∃ q, q = k / 16777216 := ⟨_, rfl⟩
  rw [← hq] at hgood hP
  have e1 : (k : Int) / 16777216 = (q : Int) := by omega
  have hq256 : q < 256 := by omega
  have HG := Lib.hid hgood
  have HP := Lib.hid hP
  have R1 := Lib.hid r1
  have R2 := Lib.hid r2
  have R3 := Lib.hid r3
  have H16 := Lib.hid h16
  have HN0 := Lib.hid hN
  clear hk ha hb r1 r2 r3 hgood hP hq hN
  have K0 := Lib.hid (readNew_any s w1)
  clear h16
  go_wp2_with fail
  refine K0.out.mono ?_
  rintro e w2 ⟨rfl, hRd, hb2⟩
  obtain ⟨g, hg⟩ : ∃ g, g = w1.heap.size := ⟨_, rfl⟩
  rw [← hg] at hRd ⊢
  have hgw : w.heap.size < g := by have := HR.out.lt; omega
  have HB2 := Lib.hid (below_then HB.out hb2)
  have HR2 := Lib.hid (HR.out.stays hb2)
  have HNN2 := Lib.hid (HNN.out.below hb2)
  have K1 := rU32_any g ⟨s, 0⟩ w2 hRd hl
  rw [R1.out] at K1
  have K1 := Lib.hid K1
  clear hg hRd hb2 K0
  go_wp2_with fail
  refine K1.out.mono ?_
  rintro e w3 ⟨rfl, hRd3, hT3⟩
  have K2 := rU32_any g ⟨s.drop 4, 0⟩ w3 hRd3 (by simp; omega)
  rw [R2.out] at K2
  have K2 := Lib.hid K2
  have HT3 := Lib.hid hT3
  clear hRd3 hT3 K1
  go_wp2_with fail
  refine K2.out.mono ?_
  rintro e w4 ⟨rfl, hRd4, hT4⟩
  have K3 := rU64_any g ⟨s.drop 8, 0⟩ w4 hRd4 (by simp; omega)
  rw [R3.out] at K3
  have HT4 := Lib.hid (HT3.out.then_ hT4)
  clear hRd4 hT4 K2 HT3
  have hpre : ∀ w5, Touch (fun k => k = g) w4 w5 → Below w.heap.size w w5 ∧ Blk w5 w.heap.size 24 parts0.vals := fun w5 hT => by
    have hT2 := HT4.out.then_ hT
    refine ⟨HB2.out.trans (hT2.below (fun k _ hk => by omega) HB2.out.size), HR2.out.touch hT2 (by omega)⟩
  have HPRE := Lib.hid hpre
  clear hpre HB2 HR2 HNN2 HT4 HNN HR HB hn1 hn2
  by_cases hbig : 9223372036854775808 ≤ b
  · rw [if_pos hbig] at K3
    have HV := Lib.hid (show Q = (parts0, 14) by
      rw [HQ.out, fhParse, if_neg (fun h => by have := (HG.out.1 h).1; omega)])
    have K3 := Lib.hid K3
    clear HQ HG HP hbig
    go_wp2_with fail
    refine K3.out.mono ?_
    rintro e w5 ⟨rfl, hRd5, hT5⟩
    obtain ⟨hB5, hR5⟩ := HPRE.out w5 hT5
    have hN5 := HN0.out.below hB5
    have hbx : Below w5.heap.size w5 (w5.alloc (.cells (Parts.mk (q : Int) (a : Int) 0).vals.toArray 24)) := (Below.refl _ _).alloc (Nat.le_refl _) _
    have hP6 := Blk.new w5 24 (Parts.mk (q : Int) (a : Int) 0).vals
    have HS6 := Lib.hid (And.intro (hRd5.stays hbx) (And.intro (hB5.trans (hbx.mono hB5.size)) (And.intro (hR5.stays hbx) (hN5.below hbx))))
    have hrow := hP6.row 0 3 (by simp [Parts.len])
    rw [show ((Parts.mk (q : Int) (a : Int) 0).vals.drop 0).take 3 = (Parts.mk (q : Int) (a : Int) 0).vals from rfl] at hrow
    have HL := Lib.hid (fun W => fhLaid_any (Parts.mk (q : Int) (a : Int) 0) W (by simp only; omega) (by simp only; omega))
    have HW6 := Lib.hid (And.intro hbx (show w5.heap.size < (w5.alloc (.cells (Parts.mk (q : Int) (a : Int) 0).vals.toArray 24)).heap.size by simp))
    clear hRd5 hT5 hB5 hR5 hN5 hbx hP6 K3
    go_wp2_with (first | (refine wpList_new_struct (by rfl) (by rfl) 24 (by rfl) _ _ (by rfl) (Parts.mk (q : Int) (a : Int) 0).vals infoParts (by rfl) (by rfl) (Parts.one _) (by rfl) (by rfl) ?_) | fail)
    generalize w5.alloc (.cells (Parts.mk (q : Int) (a : Int) 0).vals.toArray 24) = w6 at *
    refine (HL.out _).mono ?_
    rintro e w7 ⟨rfl, hb7⟩
    have hd7 := HS6.out.1.stays hb7
    have hB7 := HS6.out.2.1.trans (hb7.mono HS6.out.2.1.size)
    have hR7 := HS6.out.2.2.1.stays hb7
    have hN7 := HS6.out.2.2.2.below hb7
    have h16 := rawF_len (Parts.mk (q : Int) (a : Int) 0)
    generalize rawF (Parts.mk (q : Int) (a : Int) 0) = F at *
    generalize (Parts.mk (q : Int) (a : Int) 0).mayF = M at *
    have hbx : Below w7.heap.size w7 (w7.alloc (.cells (rawV F).toArray 55)) := (Below.refl _ _).alloc (Nat.le_refl _) _
    have HS8 := Lib.hid (And.intro (hd7.stays hbx) (And.intro (hB7.trans (hbx.mono hB7.size)) (And.intro (hR7.stays hbx) (hN7.below hbx))))
    have HI := Lib.hid (And.intro (rawV_len F) h16)
    clear hd7 hB7 hR7 hN7 hbx hb7 h16 hrow HS6 HW6 HL
    go_upto_region 6 with (first | (refine wpList_new_struct (by rfl) (by rfl) 55 (by rfl) _ _ (by rfl) (rawV F) infoRaw (by rw [HI.out.1, HI.out.2]) (by rfl) (rawV_one _) (by rfl) (by rfl) ?_) | fail)
    generalize w7.alloc (.cells (rawV F).toArray 55) = w8 at *
    have KD : ∀ n, Calls Tryd.prog 35 #[.pointer (some ⟨g, 0, none⟩)] (w8.drewN n) fun e w' => e = .returned (.int .i64 3) ∧ ∃ m, w' = (w8.drewN n).drewN m := fun n =>
      (rDone_any g (Rs.fail 3) _ (HS8.out.1.stays (bdN (Below.refl _ _) n))).mono fun e w' ⟨h1, h2⟩ => ⟨h1, 0, h2.symm⟩
    have HKD := Lib.hid KD
    have hgl := HS8.out.2.2.2.1
    clear KD
    go_quiet ((refine Calls.quiet_of (HKD.out _)))
    go_wp2_with (first | (refine wpList_store_whole (by rfl) 24 _ _ (by rfl) w.heap.size parts0.vals _ (HS8.out.2.2.1.drewN _) (by rfl) (by rfl) (by rfl) (by kernel_rfl) (Parts.one _) ?_) | fail)
    exact ret_cells2 w.heap.size 0 parts0.vals (.int .i64 14) Tryd.results12 Tryd.underlying24 rfl (by kernel_rfl) rfl rfl ((HS8.out.2.2.1.drewN _).whole (by rfl)).range rfl (ParseP.of HV.out (Below.setWhole (bdN HS8.out.2.1 _) (Nat.le_refl _) _))
  · rw [if_neg hbig] at K3
    have K3 := Lib.hid K3
    have hb63 : (b : Int) ≤ 9223372036854775807 := by omega
    clear hbig
    go_wp2_with fail
    refine K3.out.mono ?_
    rintro e w5 ⟨rfl, hRd5, hT5⟩
    obtain ⟨hB5, hR5⟩ := HPRE.out w5 hT5
    have hN5 := HN0.out.below hB5
    have hbx : Below w5.heap.size w5 (w5.alloc (.cells (Parts.mk (q : Int) (a : Int) (b : Int)).vals.toArray 24)) := (Below.refl _ _).alloc (Nat.le_refl _) _
    have hP6 := Blk.new w5 24 (Parts.mk (q : Int) (a : Int) (b : Int)).vals
    have HS6 := Lib.hid (And.intro (hRd5.stays hbx) (And.intro (hB5.trans (hbx.mono hB5.size)) (And.intro (hR5.stays hbx) (hN5.below hbx))))
    have hrow := hP6.row 0 3 (by simp [Parts.len])
    rw [show ((Parts.mk (q : Int) (a : Int) (b : Int)).vals.drop 0).take 3 = (Parts.mk (q : Int) (a : Int) (b : Int)).vals from rfl] at hrow
    have HL := Lib.hid (fun W => fhLaid_any (Parts.mk (q : Int) (a : Int) (b : Int)) W (by simp only; omega) hb63)
    have HW6 := Lib.hid (And.intro hbx (show w5.heap.size < (w5.alloc (.cells (Parts.mk (q : Int) (a : Int) (b : Int)).vals.toArray 24)).heap.size by simp))
    clear hRd5 hT5 hB5 hR5 hN5 hbx hP6 K3
    go_wp2_with (first | (refine wpList_new_struct (by rfl) (by rfl) 24 (by rfl) _ _ (by rfl) (Parts.mk (q : Int) (a : Int) (b : Int)).vals infoParts (by rfl) (by rfl) (Parts.one _) (by rfl) (by rfl) ?_) | fail)
    generalize w5.alloc (.cells (Parts.mk (q : Int) (a : Int) (b : Int)).vals.toArray 24) = w6 at *
    refine (HL.out _).mono ?_
    rintro e w7 ⟨rfl, hb7⟩
    have hd7 := HS6.out.1.stays hb7
    have hB7 := HS6.out.2.1.trans (hb7.mono HS6.out.2.1.size)
    have hR7 := HS6.out.2.2.1.stays hb7
    have hN7 := HS6.out.2.2.2.below hb7
    have h16 := rawF_len (Parts.mk (q : Int) (a : Int) (b : Int))
    cases hM : (Parts.mk (q : Int) (a : Int) (b : Int)).mayF with
    | false =>
      have HV := Lib.hid (show Q = (parts0, 14) by
        rw [HQ.out, fhParse, if_neg (fun h => by have := (HG.out.1 h).2.1; rw [hM] at this; cases this)])
      clear HQ HG HP hM
      generalize rawF (Parts.mk (q : Int) (a : Int) (b : Int)) = F at *
      have hbx : Below w7.heap.size w7 (w7.alloc (.cells (rawV F).toArray 55)) := (Below.refl _ _).alloc (Nat.le_refl _) _
      have HS8 := Lib.hid (And.intro (hd7.stays hbx) (And.intro (hB7.trans (hbx.mono hB7.size)) (And.intro (hR7.stays hbx) (hN7.below hbx))))
      have HI := Lib.hid (And.intro (rawV_len F) h16)
      clear hd7 hB7 hR7 hN7 hbx hb7 h16 hrow HS6 HW6 HL
      go_upto_region 6 with (first | (refine wpList_new_struct (by rfl) (by rfl) 55 (by rfl) _ _ (by rfl) (rawV F) infoRaw (by rw [HI.out.1, HI.out.2]) (by rfl) (rawV_one _) (by rfl) (by rfl) ?_) | fail)
      generalize w7.alloc (.cells (rawV F).toArray 55) = w8 at *
      have KD : ∀ n, Calls Tryd.prog 35 #[.pointer (some ⟨g, 0, none⟩)] (w8.drewN n) fun e w' => e = .returned (.int .i64 0) ∧ ∃ m, w' = (w8.drewN n).drewN m := fun n =>
        (rDone_any g (Rs.mk [] 0) _ (HS8.out.1.stays (bdN (Below.refl _ _) n))).mono fun e w' ⟨h1, h2⟩ => ⟨h1, 0, h2.symm⟩
      have HKD := Lib.hid KD
      have hgl := HS8.out.2.2.2.1
      clear KD
      go_quiet ((refine Calls.quiet_of (HKD.out _)))
      go_wp2_with (first | (refine wpList_store_whole (by rfl) 24 _ _ (by rfl) w.heap.size parts0.vals _ (HS8.out.2.2.1.drewN _) (by rfl) (by rfl) (by rfl) (by kernel_rfl) (Parts.one _) ?_) | fail)
      exact ret_cells2 w.heap.size 0 parts0.vals (.int .i64 14) Tryd.results12 Tryd.underlying24 rfl (by kernel_rfl) rfl rfl ((HS8.out.2.2.1.drewN _).whole (by rfl)).range rfl (ParseP.of HV.out (Below.setWhole (bdN HS8.out.2.1 _) (Nat.le_refl _) _))
    | true =>
      have hF : rawF (Parts.mk (q : Int) (a : Int) (b : Int)) = fhB (Parts.mk (q : Int) (a : Int) (b : Int)) := by unfold rawF; rw [if_pos hM]
      have HEQ := Lib.hid (show fhB (Parts.mk (q : Int) (a : Int) (b : Int)) = s → Q = ((Parts.mk (q : Int) (a : Int) (b : Int)), 0) from fun h => by
        have hg := HG.out.2 ⟨by omega, hM, h⟩
        rw [HQ.out, fhParse, if_pos hg, HP.out hg])
      have HNE := Lib.hid (show fhB (Parts.mk (q : Int) (a : Int) (b : Int)) ≠ s → Q = (parts0, 14) from fun h => by
        rw [HQ.out, fhParse, if_neg (fun hg => h (HG.out.1 hg).2.2)])
      have hd7 := HS6.out.1.stays hb7
      have hB7 := HS6.out.2.1.trans (hb7.mono HS6.out.2.1.size)
      have hR7 := HS6.out.2.2.1.stays hb7
      have hN7 := HS6.out.2.2.2.below hb7
      have hp7 : rowOf w7 w5.heap.size 0 3 = some (Parts.mk (q : Int) (a : Int) (b : Int)).vals.toArray := (rowOf_below hb7 (by have := HW6.out.2; omega) _ _).trans hrow
      have hl7 : w5.heap.size < w7.heap.size := by have := HW6.out.2; have := hb7.size; omega
      have h16 := fhB_len (Parts.mk (q : Int) (a : Int) (b : Int))
      rw [hF]
      clear HQ HG HP hM hF
      generalize (Parts.mk (q : Int) (a : Int) (b : Int)) = pp at *
      generalize fhB pp = F at *
      have hbx : Below w7.heap.size w7 (w7.alloc (.cells (rawV F).toArray 55)) := (Below.refl _ _).alloc (Nat.le_refl _) _
      have HS8 := Lib.hid (And.intro (hd7.stays hbx) (And.intro (hB7.trans (hbx.mono hB7.size)) (And.intro (hR7.stays hbx) (hN7.below hbx))))
      have hraw := (Blk.new w7 55 (rawV F)).row 0 16 (by rw [rawV_len]; omega)
      rw [List.drop_zero, List.take_of_length_le (by rw [rawV_len]; omega)] at hraw
      have hp8 : rowOf (w7.alloc (.cells (rawV F).toArray 55)) w5.heap.size 0 3 = some pp.vals.toArray := (rowOf_below hbx hl7 _ _).trans hp7
      have hl8 : w5.heap.size < (w7.alloc (.cells (rawV F).toArray 55)).heap.size ∧ w7.heap.size < (w7.alloc (.cells (rawV F).toArray 55)).heap.size := by simp; omega
      have HI := Lib.hid (And.intro (rawV_len F) h16)
      clear hd7 hB7 hR7 hN7 hbx hb7 h16 hrow HS6 HW6 HL hp7
      go_upto_region 6 with (first | (refine wpList_new_struct (by rfl) (by rfl) 55 (by rfl) _ _ (by rfl) (rawV F) infoRaw (by rw [HI.out.1, HI.out.2]) (by rfl) (rawV_one _) (by rfl) (by rfl) ?_) | fail)
      generalize w7.alloc (.cells (rawV F).toArray 55) = w8 at *
      have HKD := Lib.hid (show ∀ (W : World), Below w8.heap.size w8 W → Calls Tryd.prog 35 #[.pointer (some ⟨g, 0, none⟩)] W fun e w' => e = .returned (.int .i64 0) ∧ W = w' from fun W h => rDone_any g (Rs.mk [] 0) _ (HS8.out.1.stays h))
      obtain ⟨hl8, hl8b⟩ := hl8
      have hgl := HS8.out.2.2.2.1
      have hgl2 := HS8.out.2.2.2.2
      have hcv : (convert 9 59 (.string (bs s))).run Tryd.prog w8.drew = .ok (.slice (some ⟨w8.heap.size, 0, none⟩) 16 (capS s w8.drew)) (convW s w8.drew) := convS16 H16.out w8.drew
      have hcn : rowOf (convW s w8.drew) w8.heap.size 0 16 = some (rawV s).toArray := convW_new H16.out w8.drew _ rfl
      have hbc : Below w8.heap.size w8 (convW s w8.drew) := below_then ((Below.refl _ w8).drew) (convW_below s w8.drew)
      generalize convW s w8.drew = w10 at *
      have hst10 := Stb.of hbc
      have hp10 := (rowOf_below hbc hl8 0 3).trans hp8
      have HR10 := Lib.hid (And.intro (HS8.out.2.2.1.stays hbc) (HS8.out.2.1.trans (hbc.mono HS8.out.2.1.size)))
      have hgl10 := (HS8.out.2.2.2.below hbc).1
      have hnq := fun W => neqRaw HI.out.2 H16.out W
      by_cases hs : F = s
      · have HV := Lib.hid (HEQ.out hs)
        have hs2 : decide (F ≠ s) = false := decide_eq_false (by simpa using hs)
        clear hs HEQ HNE
        rw [laterLd_eq 55 (.tmp 38), laterLd_eq 55 (.tmp 6), laterCv_eq 9 59 (.tmp 36)]
        go_region_held3 (fun W => Stb w8 W) (first | exact Stb.start | assumption | (exact hst10)) (first
          | (go_at_call 35; refine (HKD.out _ (by first | exact Stb.below (by assumption) | exact Stb.below Stb.start)).mono ?_; rintro e w9 ⟨rfl, rfl⟩))
        all_goals
          clear hst10 hbc hcv hcn hraw hp8
          go_wp2_with (first | (refine wpList_store_whole (by rfl) 24 _ _ (by rfl) w.heap.size pp.vals _ HR10.out.1 (by rfl) (by rfl) (by rfl) (by kernel_rfl) (Parts.one _) ?_) | fail)
          exact ret_cells2 w.heap.size 0 pp.vals (.int .i64 0) Tryd.results12 Tryd.underlying24 rfl (by kernel_rfl) rfl rfl (HR10.out.1.whole (by rfl)).range rfl (ParseP.of HV.out (Below.setWhole HR10.out.2 (Nat.le_refl _) _))
      · have HV := Lib.hid (HNE.out hs)
        have hs2 : decide (F ≠ s) = true := decide_eq_true hs
        clear hs HEQ HNE
        rw [laterLd_eq 55 (.tmp 38), laterLd_eq 55 (.tmp 6), laterCv_eq 9 59 (.tmp 36)]
        go_region_held3 (fun W => Stb w8 W) (first | exact Stb.start | assumption | (exact hst10)) (first
          | (go_at_call 35; refine (HKD.out _ (by first | exact Stb.below (by assumption) | exact Stb.below Stb.start)).mono ?_; rintro e w9 ⟨rfl, rfl⟩))
        all_goals
          clear hst10 hbc hcv hcn hraw hp8
          go_wp2_with (first | (refine wpList_store_whole (by rfl) 24 _ _ (by rfl) w.heap.size parts0.vals _ HR10.out.1 (by rfl) (by rfl) (by rfl) (by kernel_rfl) (Parts.one _) ?_) | fail)
          exact ret_cells2 w.heap.size 0 parts0.vals (.int .i64 14) Tryd.results12 Tryd.underlying24 rfl (by kernel_rfl) rfl rfl (HR10.out.1.whole (by rfl)).range rfl (ParseP.of HV.out (Below.setWhole HR10.out.2 (Nat.le_refl _) _))
end Go.Proofs.YtlblenojhfeboaaDoor

/-
  Layer 8, walks: some entries are taken. Condition: texts of Go's length.
-/
import Derived.Test.YtfjflkmhhbhceaaGreatDoorW21
import Derived.Test.YtfjflkmhhbhceaaGreatDoorW08
import Derived.Test.YtfjflkmhhbhceaaGreatDoorW04
import Derived.Test.YtfjflkmhhbhceaaGreatDoorW06
import Derived.Test.YtfjflkmhhbhceaaGreatDoorW10
import Derived.Test.YtfjflkmhhbhceaaGreatDoorW16
import Derived.Test.YtfjflkmhhbhceaaGreatDoorW03
namespace Go.Proofs.YtfjflkmhhbhceaaGreatDoor
open Go.RowKit
attribute [local go_sem ↓] Go.wp_at_zero Go.wp_at_succ
attribute [local go_sem] rowAt_ptr rowOf_drew rowOf_drewN rowOf_alloc_past rowOf_new
attribute [local go_sem ↓] ldEntry

attribute [local go_sem] Entry.at0 Entry.lat0 Entry.at1 Entry.lat1 Entry.at2 Entry.lat2 Entry.at3 Entry.lat3 Entry.at4 Entry.lat4 Entry.at5 Entry.lat5 Entry.at6 Entry.lat6 Entry.at7 Entry.lat7 Entry.at8 Entry.lat8 Entry.at9 Entry.lat9 Entry.at10 Entry.lat10 Entry.at11 Entry.lat11 Entry.at12 Entry.lat12 Entry.at13 Entry.lat13 Entry.at14 Entry.lat14 Entry.sub0_15 Entry.lsub0_15 Entry.sub3_11 Entry.lsub3_11 Entry.sub4_10 Entry.lsub4_10 Entry.len

theorem oneA_len {r : Rs} (h : r.s.length ≤ 9223372036854775807) : (oneA r).2.s.length ≤ 9223372036854775807 := by
  have h1 := Nat.le_trans (rU64_len h) h
  have h2 := Nat.le_trans (rOpaque_len8 (n := 255) h1) h1
  exact Nat.le_trans (rU64_len h2) h2
theorem oneE_len {whole : Bool} {r : Rs} (h : r.s.length ≤ 9223372036854775807) : (oneE whole r).2.s.length ≤ 9223372036854775807 := by
  have h3 := oneA_len h
  unfold oneE
  split
  · have h4 := rPost_len8 h3
    exact Nat.le_trans (rOpaque_len8 (n := 64) h4) h4
  · exact h3
theorem entsK_len {whole : Bool} {r : Rs} (h : r.s.length ≤ 9223372036854775807) : ∀ k, (entsK whole r k).2.s.length ≤ 9223372036854775807
  | 0 => h
  | k + 1 => oneE_len (entsK_len h k)
theorem entsK_one (whole : Bool) (r : Rs) : ∀ k, (entsK whole r k).1.length = k
  | 0 => rfl
  | k + 1 => by simp [entsK, entsK_one whole r k]
def entsOk (whole : Bool) (r : Rs) : Bool := decide ((rU32 r).1 ≤ 64) && (((rU32 r).2.e == 0) && (List.range (rU32 r).1).all fun i => oneOk whole (entsK whole (rU32 r).2 i).2)

set_option maxRecDepth 20000 in
set_option maxHeartbeats 1600000 in
theorem someE_any (g h b : Nat) (c : Int) (whole : Bool) (hc : (c == 112) = whole) (r : Rs) (w : World) (hR : Rd w g r) (hH : Blk w h 167 [.pointer (some ⟨g, 0, none⟩)]) (hL : Blk w b 21 [.int .i32 c]) (hl : r.s.length ≤ 9223372036854775807) :
    Calls Tryz.prog 149 #[.pointer (some ⟨g, 0, none⟩), .int .i64 64, .func (.func 150) #[] #[.pointer (some ⟨h, 0, none⟩), .pointer (some ⟨b, 0, none⟩)]] w
      (SomeP 126 15 Entry.vals (entsOk whole r) (entsK whole (rU32 r).2 (rU32 r).1).1 g (entsK whole (rU32 r).2 (rU32 r).1).2 w) := by
  obtain ⟨i0, hi, hz, hsize, hby⟩ := info_parts infoEntryB
  have K := Lib.hid (rU32_any g r w hR hl)
  have hq := Nat.le_trans (rU32_len hl) hl
  have hqe := rU32_e (r := r)
  have hne := hH.ne_ hR.1 (by decide)
  have hnl := hL.ne_ hR.1 (by decide)
  have hgl := hR.lt
  have hhl := hH.lt
  have hll := hL.lt
  unfold entsOk
  clear hR hl
  generalize rU32 r = y at *
  obtain ⟨n, q⟩ := y
  simp only at hq hqe ⊢
  obtain ⟨OK, hOK⟩ : ∃ o, o = (decide (n ≤ 64) && ((q.e == 0) && (List.range n).all fun i => oneOk whole (entsK whole q i).2)) := ⟨_, rfl⟩
  rw [← hOK]
  have HOK := Lib.hid hOK
  clear hOK
  by_cases hn : 64 < n
  · have hn' : (64 : Int) < n := by omega
    have HO := Lib.hid (show OK = false by rw [HOK.out]; simp; omega)
    go_enter Tryz.func149, Tryz.ntmps149
    go_wp2_with fail
    refine K.out.mono ?_
    rintro e w1 ⟨rfl, hQ⟩
    have HQ := Lib.hid hQ
    clear hQ
    go_wp2
    go_ret2
    rw [HO.out]
    refine ⟨.slice none 0 0, rfl, fun h => ?_, fun _ => rfl, HQ.out.2⟩
    exact absurd h (by simp)
  have hn' : ¬ (64 : Int) < n := by omega
  have HLEN := Lib.hid (entsK_len (whole := whole) hq)
  go_enter Tryz.func149, Tryz.ntmps149
  go_wp2_with fail
  refine K.out.mono ?_
  rintro e w1 ⟨rfl, hQ⟩
  have hH1 := hH.touch hQ.2 hne
  have hL1 := hL.touch hQ.2 hnl
  have HQ := Lib.hid hQ
  have HQE := Lib.hid hqe
  clear hQ hH hL hqe
  go_wp2
  go_loopw [9, 18] (fun v i wr => ∃ k, k ≤ n ∧ i = .int .i64 k ∧ RowS wr w.heap.size 126 15 v ((entsK whole q k).1.map Entry.vals) ∧ Rd wr g (entsK whole q k).2 ∧ (0 < k → (entsK whole q k).2.e = 0) ∧ (k = 0 → v = .slice none 0 0) ∧ (∀ j, j < k → oneOk whole (entsK whole q j).2 = true) ∧ Blk wr h 167 [.pointer (some ⟨g, 0, none⟩)] ∧ Blk wr b 21 [.int .i32 c] ∧ Touch (fun k => k = g) w wr) (fun _ i _ => n - (intOf i).toNat)
  case atStart => exact ⟨0, by omega, rfl, RowS.none_, HQ.out.1, fun h => by omega, fun _ => rfl, fun j hj => by omega, hH1, hL1, HQ.out.2⟩
  case round =>
    obtain ⟨k, hk, rfl, hRow, hR, he, hv0, hall, hH, hL, hT⟩ := hrel
    have hgw := hR.lt
    have hsz := hT.size
    by_cases hlt : k < n
    · have hlt' : (k : Int) < n := by omega
      have KT := Lib.hid (taken2_any g h b c whole hc _ wr hR hH hL (HLEN.out k))
      have hs1 : entsK whole q (k + 1) = ((entsK whole q k).1 ++ [(oneE whole (entsK whole q k).2).1], (oneE whole (entsK whole q k).2).2) := rfl
      have hone := entsK_one whole q k
      cases hok : oneOk whole (entsK whole q k).2
      case true =>
        have he1 : (oneE whole (entsK whole q k).2).2.e = 0 := by
          unfold oneOk at hok
          simp at hok
          exact hok.2
        have HALL := Lib.hid (show ∀ j, j < k + 1 → oneOk whole (entsK whole q j).2 = true from fun j hj => by
          rcases Nat.lt_or_ge j k with h | h
          · exact hall j h
          · obtain rfl : j = k := by omega
            exact hok)
        clear hR hall
        go_wp2_with fail
        refine KT.out.mono ?_
        rintro e w2 ⟨x', rfl, hx, hT2⟩
        rw [hok]
        obtain ⟨hx1, hR2⟩ := hx hok
        rw [← hx1] at hs1
        clear hx hx1 hok KT
        generalize (oneE whole (entsK whole q k).2).2 = q1 at *
        have hx3 := (Below.refl w2.heap.size w2).alloc (Nat.le_refl _) (.cells x'.vals.toArray 126)
        have x3 := Blk.new w2 126 x'.vals
        have hRow3 := (RowS.touch hRow hT2 (fun j hj hg => by have := (RowS.lt hRow j hj).1; omega)).stays hx3
        have hH3 := (hH.touch hT2 hne).stays hx3
        have hL3 := (hL.touch hT2 hnl).stays hx3
        have hT3 := (hT.then_ hT2).then_ (Touch.of_below hx3 _)
        have hR3 := hR2.stays hx3
        obtain ⟨w3, hw3⟩ : ∃ V, V = w2.alloc (.cells x'.vals.toArray 126) := ⟨_, rfl⟩
        rw [← hw3] at x3 hRow3 hH3 hL3 hT3 hR3
        have HW3 := Lib.hid hw3
        have r3 := x3.row 0 15 (by simp [Entry.len])
        rw [show (x'.vals.drop 0).take 15 = x'.vals from rfl] at r3
        have hz3 := hT3.size
        have hap := RowS.append (P := Tryz.prog) 48 48 i0 Tryz.underlying48 hi hz hsize hby rfl (by omega) (by omega) hRow3 (by omega) x'.vals (Entry.len _) (Entry.one _) (by rw [List.length_map, hone]; omega)
        have HA := Lib.hid hap
        have HK := Lib.hid (And.intro hR3 (And.intro hH3 (And.intro hL3 hT3)))
        have HS := Lib.hid hs1
        have hiw : IntKind.i64.wrap ((k : Int) + 1) = (k : Int) + 1 := IntWalk.i64_in _ (by omega)
        clear hap hRow3 hRow hH hL hT hs1 hv0 hx3 hH3 hL3 hT3 hR3 hR2 hT2 hw3 x3
        go_wp2_with (first
          | (refine wpList_store_new (by rfl) 126 _ _ (by rfl) x'.vals entryZ8.vals w2 126 rfl (by rfl) (by rfl) (by rfl) (by kernel_rfl) (Entry.one _) ?_; rw [← HW3.out])
          | (refine wpList_buildSlice_one (by rfl) 48 126 (.tmp 28) (by rfl) x'.vals (by rfl) Tryz.underlying48 i0 _ hi hz rfl hsize (by rw [Entry.len]; omega) (by rw [Entry.len]; omega) ?_)
          | (refine wpList_append_by (by rfl) (.tmp 27) (.tmp 29) #[48, 48] (by rfl) _ _ (by rfl) (by rfl) HA.out ?_; rintro v' w' ⟨hR', hb'⟩)
          | fail)
        have hb1 := hb' w3 (Below.refl _ _)
        have HR := Lib.hid hR'
        have HQ2 := Lib.hid (Rd.belowQ HK.out.1 hb1 (by omega))
        have HH := Lib.hid (HK.out.2.1.below hb1 (by omega))
        have HLL := Lib.hid (HK.out.2.2.1.below hb1 (by omega))
        have HT := Lib.hid (HK.out.2.2.2.belowQ hb1)
        clear hR' hb' hb1 HK HA
        go_roundw
        case rel => exact ⟨k + 1, by omega, by go_num, by rw [HS.out, List.map_append]; exact HR.out, by rw [HS.out]; exact HQ2.out, fun _ => by rw [HS.out]; exact he1, fun h => by omega, HALL.out, HH.out, HLL.out, HT.out⟩
        case measure => simp [intOf]; omega
      case false =>
        have HO := Lib.hid (show OK = false by
          rw [HOK.out]
          have : ((List.range n).all fun i => oneOk whole (entsK whole q i).2) = false := by
            rw [Bool.eq_false_iff]
            intro h
            have := List.all_eq_true.1 h k (by simp; exact hlt)
            rw [hok] at this
            cases this
          simp [this])
        go_wp2_with fail
        refine KT.out.mono ?_
        rintro e w2 ⟨x', rfl, hx, hT2⟩
        rw [hok]
        have HT := Lib.hid ((hT.then_ hT2).then_ (Touch.of_below ((Below.refl w2.heap.size w2).alloc (Nat.le_refl _) (.cells x'.vals.toArray 126)) _))
        obtain ⟨w3, hw3⟩ : ∃ V, V = w2.alloc (.cells x'.vals.toArray 126) := ⟨_, rfl⟩
        rw [← hw3] at HT
        have HW3 := Lib.hid hw3
        clear hx hT2 hRow hH hL hT KT hw3
        go_wp2_with (first
          | (refine wpList_store_new (by rfl) 126 _ _ (by rfl) x'.vals entryZ8.vals w2 126 rfl (by rfl) (by rfl) (by rfl) (by kernel_rfl) (Entry.one _) ?_; rw [← HW3.out])
          | fail)
        go_ret2
        rw [HO.out]
        refine ⟨.slice none 0 0, rfl, fun h => ?_, fun _ => rfl, HT.out⟩
        exact absurd h (by simp)
    · obtain rfl : k = n := by omega
      have HR := Lib.hid hRow
      have HQ2 := Lib.hid hR
      have HT := Lib.hid hT
      have HV := Lib.hid hv0
      have HE := Lib.hid he
      have HALL := Lib.hid hall
      obtain ⟨Q, hQd⟩ : ∃ Q, Q = (entsK whole q k).2 := ⟨_, rfl⟩
      rw [← hQd] at HQ2 HE
      clear hRow hH hL hT hv0 he hall
      go_wp2_with fail
      refine (rErr_any g Q _ HQ2.out).mono ?_
      rintro e w2 ⟨rfl, rfl⟩
      by_cases hQe : Q.e = 0
      · have HO := Lib.hid (show OK = true by
          have hq0 : q.e = 0 := by
            rcases Nat.eq_zero_or_pos k with h | h
            · rw [h] at hQd
              rw [← hQe, hQd]
              rfl
            · rcases Decidable.em (q.e = 0) with h2 | h2
              · exact h2
              · have := HQE.out h2
                omega
          have hal : ((List.range k).all fun i => oneOk whole (entsK whole q i).2) = true := List.all_eq_true.2 fun j hj => HALL.out j (by simpa using hj)
          rw [HOK.out, hal]
          simp [hq0]
          omega)
        rw [hQe]
        go_wp2
        go_ret2
        rw [HO.out, ← hQd]
        refine ⟨_, rfl, fun _ => ⟨HR.out, HQ2.out⟩, fun h => ?_, HT.out⟩
        exact absurd h (by simp)
      · have hk0 : k = 0 := by
          rcases Nat.eq_zero_or_pos k with h | h
          · exact h
          · exact absurd (HE.out h) hQe
        have HO := Lib.hid (show OK = false by
          have hq0 : ¬ q.e = 0 := by
            intro h
            rw [hk0] at hQd
            exact hQe (by rw [hQd]; exact h)
          rw [HOK.out]
          simp [hq0])
        have hv := HV.out hk0
        subst hv
        have hQe2 : (Q.e == 0) = false := by simpa using hQe
        go_wp2
        go_ret2
        rw [HO.out]
        refine ⟨.slice none 0 0, ?_, fun h => ?_, fun _ => rfl, HT.out⟩
        · simp
          intro h
          exact hQe (by rw [hQd, hk0]; exact h)
        · exact absurd h (by simp)
end Go.Proofs.YtfjflkmhhbhceaaGreatDoor

/-
  Layer 8, walks: the field of a letter is taken, but for the rows (written by wip/tools/gentaken8.py). Conditions: a reader and results at blocks of their own; machine texts.
-/
namespace Go.Proofs.YtfjflkmhhbhceaaGreatDoor
open Go.RowKit
attribute [local go_sem ↓] Go.wp_at_zero Go.wp_at_succ
attribute [local go_sem] rowAt_ptr rowOf_drew rowOf_drewN rowOf_alloc_past rowOf_new
attribute [local go_sem ↓] ldPost ldWcc

structure Took8 (g b : Nat) (z : Reply) (r : Rs) (w w' : World) : Prop where
  R : Rd w' g r
  C : Blk w' b 51 z.vals
  T : Touch (fun k => k = g ∨ k = b) w w'

set_option maxRecDepth 20000 in
set_option maxHeartbeats 1600000 in
theorem ptake_h (g b : Nat) (z : Reply) (r : Rs) (w : World) (hR : Rd w g r) (hA : Blk w b 51 z.vals) (hl : r.s.length ≤ 9223372036854775807) : Calls Tryz.prog 103 #[.pointer (some ⟨g, 0, none⟩), .pointer (some ⟨b, 0, none⟩), .int .i32 104] w fun e w' => e = .returned (.bool ((rOpaque 64 r).2.e == 0)) ∧ Took8 g b ({ z with fh := (rOpaque 64 r).1 }) ((rOpaque 64 r).2) w w' := by
  have hne : b ≠ g := Blk.ne_ hA hR.1 (by decide)
  obtain ⟨bh, bl, hB0, hs0⟩ := chain2_blks w [.pointer (some ⟨g, 0, none⟩)] [.int .i32 104] 167 21
  obtain ⟨w0, hw0⟩ : ∃ V, V = (w.alloc (.cells #[.pointer (some ⟨g, 0, none⟩)] 167)).alloc (.cells #[.int .i32 104] 21) := ⟨_, rfl⟩
  have hw0' := hw0
  replace bh : Blk w0 w.heap.size 167 [.pointer (some ⟨g, 0, none⟩)] := by rw [hw0]; exact bh
  replace bl : Blk w0 (w.heap.size + 1) 21 [.int .i32 104] := by rw [hw0]; exact bl
  replace hB0 : Below w.heap.size w w0 := by rw [hw0]; exact hB0
  have hgl := hR.lt
  have hbl := hA.lt
  have nh : w.heap.size ≠ g := by omega
  have nb : w.heap.size ≠ b := by omega
  have nb' : b ≠ w.heap.size := by omega
  have hR0 := hR.stays hB0
  have hA0 := hA.stays hB0
  have hT0 := Touch.of_below hB0 (fun k => k = g ∨ k = b)
  have HW0 := Lib.hid hw0
  clear hw0 hw0' hB0 hs0 hR hA
  have hG := rOpaque_any g 64 r w0 hR0 hl
  generalize rOpaque 64 r = x at *
  have HG := Lib.hid hG
  clear hG
  go_enter Tryz.func103, Tryz.ntmps103
  go_wp2_with fail
  rw [← HW0.out]
  refine HG.out.mono ?_
  rintro e w1 ⟨rfl, hQ⟩
  have hA1 : Blk w1 b 51 z.vals := hA0.touch hQ.2 hne
  have bh1 := bh.touch hQ.2 nh
  have hf := hA1.frozen 1
  have hc := hA1.cell 1
  have c1 : w1.cell? ⟨w.heap.size, 0, none⟩ = some (.pointer (some ⟨g, 0, none⟩)) := bh1.cell 0
  have hc : (w1.cell? ⟨b, 1, none⟩).isSome = true := by rw [hc]; rfl
  obtain ⟨old, hc⟩ := Option.isSome_iff_exists.1 hc
  have hA2 : Blk (w1.setCell ⟨b, 1, none⟩ (.string (bs x.1))) b 51 ({ z with fh := x.1 } : Reply).vals := hA1.set_ 1 (.string (bs x.1))
  have hR2 : Rd (w1.setCell ⟨b, 1, none⟩ (.string (bs x.1))) g x.2 := hQ.1.touch ((Touch.refl (fun k => k = b) w1).setCell_ (g := b) (o := 1) (.inl rfl) (.string (bs x.1))) (fun e => hne e.symm)
  have hT2 : Touch (fun k => k = g ∨ k = b) w (w1.setCell ⟨b, 1, none⟩ (.string (bs x.1))) := (hT0.then_ (hQ.2.mono fun _ _ h => .inl h)).setCell_ (g := b) (o := 1) (.inl (.inr rfl)) (.string (bs x.1))
  have HL := Lib.hid (And.intro hR2 (And.intro hA2 hT2))
  clear hR2 hA2 hT2 hQ hA1 hA0 hR0 HG hT0 bh bh1 bl
  go_wp2_with fail
  refine (rErr_any g x.2 _ HL.out.1).mono ?_
  rintro e w3 ⟨rfl, rfl⟩
  go_wp2
  go_ret
  exact ⟨rfl, HL.out.1, HL.out.2.1, HL.out.2.2⟩

set_option maxRecDepth 20000 in
set_option maxHeartbeats 1600000 in
theorem ptake_x (g b : Nat) (z : Reply) (r : Rs) (w : World) (hR : Rd w g r) (hA : Blk w b 51 z.vals) (hl : r.s.length ≤ 9223372036854775807) : Calls Tryz.prog 103 #[.pointer (some ⟨g, 0, none⟩), .pointer (some ⟨b, 0, none⟩), .int .i32 120] w fun e w' => e = .returned (.bool ((rU32 r).2.e == 0)) ∧ Took8 g b ({ z with access := (rU32 r).1 }) ((rU32 r).2) w w' := by
  have hne : b ≠ g := Blk.ne_ hA hR.1 (by decide)
  obtain ⟨bh, bl, hB0, hs0⟩ := chain2_blks w [.pointer (some ⟨g, 0, none⟩)] [.int .i32 120] 167 21
  obtain ⟨w0, hw0⟩ : ∃ V, V = (w.alloc (.cells #[.pointer (some ⟨g, 0, none⟩)] 167)).alloc (.cells #[.int .i32 120] 21) := ⟨_, rfl⟩
  have hw0' := hw0
  replace bh : Blk w0 w.heap.size 167 [.pointer (some ⟨g, 0, none⟩)] := by rw [hw0]; exact bh
  replace bl : Blk w0 (w.heap.size + 1) 21 [.int .i32 120] := by rw [hw0]; exact bl
  replace hB0 : Below w.heap.size w w0 := by rw [hw0]; exact hB0
  have hgl := hR.lt
  have hbl := hA.lt
  have nh : w.heap.size ≠ g := by omega
  have nb : w.heap.size ≠ b := by omega
  have nb' : b ≠ w.heap.size := by omega
  have hR0 := hR.stays hB0
  have hA0 := hA.stays hB0
  have hT0 := Touch.of_below hB0 (fun k => k = g ∨ k = b)
  have HW0 := Lib.hid hw0
  clear hw0 hw0' hB0 hs0 hR hA
  have hG := rU32_any g r w0 hR0 hl
  generalize rU32 r = x at *
  have HG := Lib.hid hG
  clear hG
  go_enter Tryz.func103, Tryz.ntmps103
  go_wp2_with fail
  rw [← HW0.out]
  refine HG.out.mono ?_
  rintro e w1 ⟨rfl, hQ⟩
  have hA1 : Blk w1 b 51 z.vals := hA0.touch hQ.2 hne
  have bh1 := bh.touch hQ.2 nh
  have hf := hA1.frozen 50
  have hc := hA1.cell 50
  have c1 : w1.cell? ⟨w.heap.size, 0, none⟩ = some (.pointer (some ⟨g, 0, none⟩)) := bh1.cell 0
  have hc : (w1.cell? ⟨b, 50, none⟩).isSome = true := by rw [hc]; rfl
  obtain ⟨old, hc⟩ := Option.isSome_iff_exists.1 hc
  have hA2 : Blk (w1.setCell ⟨b, 50, none⟩ (.int .i64 x.1)) b 51 ({ z with access := x.1 } : Reply).vals := hA1.set_ 50 (.int .i64 x.1)
  have hR2 : Rd (w1.setCell ⟨b, 50, none⟩ (.int .i64 x.1)) g x.2 := hQ.1.touch ((Touch.refl (fun k => k = b) w1).setCell_ (g := b) (o := 50) (.inl rfl) (.int .i64 x.1)) (fun e => hne e.symm)
  have hT2 : Touch (fun k => k = g ∨ k = b) w (w1.setCell ⟨b, 50, none⟩ (.int .i64 x.1)) := (hT0.then_ (hQ.2.mono fun _ _ h => .inl h)).setCell_ (g := b) (o := 50) (.inl (.inr rfl)) (.int .i64 x.1)
  have HL := Lib.hid (And.intro hR2 (And.intro hA2 hT2))
  clear hR2 hA2 hT2 hQ hA1 hA0 hR0 HG hT0 bh bh1 bl
  go_wp2_with fail
  refine (rErr_any g x.2 _ HL.out.1).mono ?_
  rintro e w3 ⟨rfl, rfl⟩
  go_wp2
  go_ret
  exact ⟨rfl, HL.out.1, HL.out.2.1, HL.out.2.2⟩

set_option maxRecDepth 20000 in
set_option maxHeartbeats 1600000 in
theorem ptake_c (g b : Nat) (z : Reply) (r : Rs) (w : World) (hR : Rd w g r) (hA : Blk w b 51 z.vals) (hl : r.s.length ≤ 9223372036854775807) : Calls Tryz.prog 103 #[.pointer (some ⟨g, 0, none⟩), .pointer (some ⟨b, 0, none⟩), .int .i32 99] w fun e w' => e = .returned (.bool ((rU32 r).2.e == 0)) ∧ Took8 g b ({ z with count := (rU32 r).1 }) ((rU32 r).2) w w' := by
  have hne : b ≠ g := Blk.ne_ hA hR.1 (by decide)
  obtain ⟨bh, bl, hB0, hs0⟩ := chain2_blks w [.pointer (some ⟨g, 0, none⟩)] [.int .i32 99] 167 21
  obtain ⟨w0, hw0⟩ : ∃ V, V = (w.alloc (.cells #[.pointer (some ⟨g, 0, none⟩)] 167)).alloc (.cells #[.int .i32 99] 21) := ⟨_, rfl⟩
  have hw0' := hw0
  replace bh : Blk w0 w.heap.size 167 [.pointer (some ⟨g, 0, none⟩)] := by rw [hw0]; exact bh
  replace bl : Blk w0 (w.heap.size + 1) 21 [.int .i32 99] := by rw [hw0]; exact bl
  replace hB0 : Below w.heap.size w w0 := by rw [hw0]; exact hB0
  have hgl := hR.lt
  have hbl := hA.lt
  have nh : w.heap.size ≠ g := by omega
  have nb : w.heap.size ≠ b := by omega
  have nb' : b ≠ w.heap.size := by omega
  have hR0 := hR.stays hB0
  have hA0 := hA.stays hB0
  have hT0 := Touch.of_below hB0 (fun k => k = g ∨ k = b)
  have HW0 := Lib.hid hw0
  clear hw0 hw0' hB0 hs0 hR hA
  have hG := rU32_any g r w0 hR0 hl
  generalize rU32 r = x at *
  have HG := Lib.hid hG
  clear hG
  go_enter Tryz.func103, Tryz.ntmps103
  go_wp2_with fail
  rw [← HW0.out]
  refine HG.out.mono ?_
  rintro e w1 ⟨rfl, hQ⟩
  have hA1 : Blk w1 b 51 z.vals := hA0.touch hQ.2 hne
  have bh1 := bh.touch hQ.2 nh
  have hf := hA1.frozen 51
  have hc := hA1.cell 51
  have c1 : w1.cell? ⟨w.heap.size, 0, none⟩ = some (.pointer (some ⟨g, 0, none⟩)) := bh1.cell 0
  have hc : (w1.cell? ⟨b, 51, none⟩).isSome = true := by rw [hc]; rfl
  obtain ⟨old, hc⟩ := Option.isSome_iff_exists.1 hc
  have hA2 : Blk (w1.setCell ⟨b, 51, none⟩ (.int .i64 x.1)) b 51 ({ z with count := x.1 } : Reply).vals := hA1.set_ 51 (.int .i64 x.1)
  have hR2 : Rd (w1.setCell ⟨b, 51, none⟩ (.int .i64 x.1)) g x.2 := hQ.1.touch ((Touch.refl (fun k => k = b) w1).setCell_ (g := b) (o := 51) (.inl rfl) (.int .i64 x.1)) (fun e => hne e.symm)
  have hT2 : Touch (fun k => k = g ∨ k = b) w (w1.setCell ⟨b, 51, none⟩ (.int .i64 x.1)) := (hT0.then_ (hQ.2.mono fun _ _ h => .inl h)).setCell_ (g := b) (o := 51) (.inl (.inr rfl)) (.int .i64 x.1)
  have HL := Lib.hid (And.intro hR2 (And.intro hA2 hT2))
  clear hR2 hA2 hT2 hQ hA1 hA0 hR0 HG hT0 bh bh1 bl
  go_wp2_with fail
  refine (rErr_any g x.2 _ HL.out.1).mono ?_
  rintro e w3 ⟨rfl, rfl⟩
  go_wp2
  go_ret
  exact ⟨rfl, HL.out.1, HL.out.2.1, HL.out.2.2⟩

set_option maxRecDepth 20000 in
set_option maxHeartbeats 1600000 in
theorem ptake_s (g b : Nat) (z : Reply) (r : Rs) (w : World) (hR : Rd w g r) (hA : Blk w b 51 z.vals) (hl : r.s.length ≤ 9223372036854775807) : Calls Tryz.prog 103 #[.pointer (some ⟨g, 0, none⟩), .pointer (some ⟨b, 0, none⟩), .int .i32 115] w fun e w' => e = .returned (.bool ((rU32 r).2.e == 0)) ∧ Took8 g b ({ z with stable := (rU32 r).1 }) ((rU32 r).2) w w' := by
  have hne : b ≠ g := Blk.ne_ hA hR.1 (by decide)
  obtain ⟨bh, bl, hB0, hs0⟩ := chain2_blks w [.pointer (some ⟨g, 0, none⟩)] [.int .i32 115] 167 21
  obtain ⟨w0, hw0⟩ : ∃ V, V = (w.alloc (.cells #[.pointer (some ⟨g, 0, none⟩)] 167)).alloc (.cells #[.int .i32 115] 21) := ⟨_, rfl⟩
  have hw0' := hw0
  replace bh : Blk w0 w.heap.size 167 [.pointer (some ⟨g, 0, none⟩)] := by rw [hw0]; exact bh
  replace bl : Blk w0 (w.heap.size + 1) 21 [.int .i32 115] := by rw [hw0]; exact bl
  replace hB0 : Below w.heap.size w w0 := by rw [hw0]; exact hB0
  have hgl := hR.lt
  have hbl := hA.lt
  have nh : w.heap.size ≠ g := by omega
  have nb : w.heap.size ≠ b := by omega
  have nb' : b ≠ w.heap.size := by omega
  have hR0 := hR.stays hB0
  have hA0 := hA.stays hB0
  have hT0 := Touch.of_below hB0 (fun k => k = g ∨ k = b)
  have HW0 := Lib.hid hw0
  clear hw0 hw0' hB0 hs0 hR hA
  have hG := rU32_any g r w0 hR0 hl
  generalize rU32 r = x at *
  have HG := Lib.hid hG
  clear hG
  go_enter Tryz.func103, Tryz.ntmps103
  go_wp2_with fail
  rw [← HW0.out]
  refine HG.out.mono ?_
  rintro e w1 ⟨rfl, hQ⟩
  have hA1 : Blk w1 b 51 z.vals := hA0.touch hQ.2 hne
  have bh1 := bh.touch hQ.2 nh
  have hf := hA1.frozen 54
  have hc := hA1.cell 54
  have c1 : w1.cell? ⟨w.heap.size, 0, none⟩ = some (.pointer (some ⟨g, 0, none⟩)) := bh1.cell 0
  have hc : (w1.cell? ⟨b, 54, none⟩).isSome = true := by rw [hc]; rfl
  obtain ⟨old, hc⟩ := Option.isSome_iff_exists.1 hc
  have hA2 : Blk (w1.setCell ⟨b, 54, none⟩ (.int .i64 x.1)) b 51 ({ z with stable := x.1 } : Reply).vals := hA1.set_ 54 (.int .i64 x.1)
  have hR2 : Rd (w1.setCell ⟨b, 54, none⟩ (.int .i64 x.1)) g x.2 := hQ.1.touch ((Touch.refl (fun k => k = b) w1).setCell_ (g := b) (o := 54) (.inl rfl) (.int .i64 x.1)) (fun e => hne e.symm)
  have hT2 : Touch (fun k => k = g ∨ k = b) w (w1.setCell ⟨b, 54, none⟩ (.int .i64 x.1)) := (hT0.then_ (hQ.2.mono fun _ _ h => .inl h)).setCell_ (g := b) (o := 54) (.inl (.inr rfl)) (.int .i64 x.1)
  have HL := Lib.hid (And.intro hR2 (And.intro hA2 hT2))
  clear hR2 hA2 hT2 hQ hA1 hA0 hR0 HG hT0 bh bh1 bl
  go_wp2_with fail
  refine (rErr_any g x.2 _ HL.out.1).mono ?_
  rintro e w3 ⟨rfl, rfl⟩
  go_wp2
  go_ret
  exact ⟨rfl, HL.out.1, HL.out.2.1, HL.out.2.2⟩

set_option maxRecDepth 20000 in
set_option maxHeartbeats 1600000 in
theorem ptake_v (g b : Nat) (z : Reply) (r : Rs) (w : World) (hR : Rd w g r) (hA : Blk w b 51 z.vals) (hl : r.s.length ≤ 9223372036854775807) : Calls Tryz.prog 103 #[.pointer (some ⟨g, 0, none⟩), .pointer (some ⟨b, 0, none⟩), .int .i32 118] w fun e w' => e = .returned (.bool ((rU64 r).2.e == 0)) ∧ Took8 g b ({ z with verf := (rU64 r).1 }) ((rU64 r).2) w w' := by
  have hne : b ≠ g := Blk.ne_ hA hR.1 (by decide)
  obtain ⟨bh, bl, hB0, hs0⟩ := chain2_blks w [.pointer (some ⟨g, 0, none⟩)] [.int .i32 118] 167 21
  obtain ⟨w0, hw0⟩ : ∃ V, V = (w.alloc (.cells #[.pointer (some ⟨g, 0, none⟩)] 167)).alloc (.cells #[.int .i32 118] 21) := ⟨_, rfl⟩
  have hw0' := hw0
  replace bh : Blk w0 w.heap.size 167 [.pointer (some ⟨g, 0, none⟩)] := by rw [hw0]; exact bh
  replace bl : Blk w0 (w.heap.size + 1) 21 [.int .i32 118] := by rw [hw0]; exact bl
  replace hB0 : Below w.heap.size w w0 := by rw [hw0]; exact hB0
  have hgl := hR.lt
  have hbl := hA.lt
  have nh : w.heap.size ≠ g := by omega
  have nb : w.heap.size ≠ b := by omega
  have nb' : b ≠ w.heap.size := by omega
  have hR0 := hR.stays hB0
  have hA0 := hA.stays hB0
  have hT0 := Touch.of_below hB0 (fun k => k = g ∨ k = b)
  have HW0 := Lib.hid hw0
  clear hw0 hw0' hB0 hs0 hR hA
  have hG := rU64_any g r w0 hR0 hl
  generalize rU64 r = x at *
  have HG := Lib.hid hG
  clear hG
  go_enter Tryz.func103, Tryz.ntmps103
  go_wp2_with fail
  rw [← HW0.out]
  refine HG.out.mono ?_
  rintro e w1 ⟨rfl, hQ⟩
  have hA1 : Blk w1 b 51 z.vals := hA0.touch hQ.2 hne
  have bh1 := bh.touch hQ.2 nh
  have hf := hA1.frozen 55
  have hc := hA1.cell 55
  have c1 : w1.cell? ⟨w.heap.size, 0, none⟩ = some (.pointer (some ⟨g, 0, none⟩)) := bh1.cell 0
  have hc : (w1.cell? ⟨b, 55, none⟩).isSome = true := by rw [hc]; rfl
  obtain ⟨old, hc⟩ := Option.isSome_iff_exists.1 hc
  have hA2 : Blk (w1.setCell ⟨b, 55, none⟩ (.int .i64 x.1)) b 51 ({ z with verf := x.1 } : Reply).vals := hA1.set_ 55 (.int .i64 x.1)
  have hR2 : Rd (w1.setCell ⟨b, 55, none⟩ (.int .i64 x.1)) g x.2 := hQ.1.touch ((Touch.refl (fun k => k = b) w1).setCell_ (g := b) (o := 55) (.inl rfl) (.int .i64 x.1)) (fun e => hne e.symm)
  have hT2 : Touch (fun k => k = g ∨ k = b) w (w1.setCell ⟨b, 55, none⟩ (.int .i64 x.1)) := (hT0.then_ (hQ.2.mono fun _ _ h => .inl h)).setCell_ (g := b) (o := 55) (.inl (.inr rfl)) (.int .i64 x.1)
  have HL := Lib.hid (And.intro hR2 (And.intro hA2 hT2))
  clear hR2 hA2 hT2 hQ hA1 hA0 hR0 HG hT0 bh bh1 bl
  go_wp2_with fail
  refine (rErr_any g x.2 _ HL.out.1).mono ?_
  rintro e w3 ⟨rfl, rfl⟩
  go_wp2
  go_ret
  exact ⟨rfl, HL.out.1, HL.out.2.1, HL.out.2.2⟩

set_option maxRecDepth 20000 in
set_option maxHeartbeats 1600000 in
theorem ptake_e (g b : Nat) (z : Reply) (r : Rs) (w : World) (hR : Rd w g r) (hA : Blk w b 51 z.vals) (hl : r.s.length ≤ 9223372036854775807) : Calls Tryz.prog 103 #[.pointer (some ⟨g, 0, none⟩), .pointer (some ⟨b, 0, none⟩), .int .i32 101] w fun e w' => e = .returned (.bool ((rBool r).2.e == 0)) ∧ Took8 g b ({ z with eof := (rBool r).1 }) ((rBool r).2) w w' := by
  have hne : b ≠ g := Blk.ne_ hA hR.1 (by decide)
  obtain ⟨bh, bl, hB0, hs0⟩ := chain2_blks w [.pointer (some ⟨g, 0, none⟩)] [.int .i32 101] 167 21
  obtain ⟨w0, hw0⟩ : ∃ V, V = (w.alloc (.cells #[.pointer (some ⟨g, 0, none⟩)] 167)).alloc (.cells #[.int .i32 101] 21) := ⟨_, rfl⟩
  have hw0' := hw0
  replace bh : Blk w0 w.heap.size 167 [.pointer (some ⟨g, 0, none⟩)] := by rw [hw0]; exact bh
  replace bl : Blk w0 (w.heap.size + 1) 21 [.int .i32 101] := by rw [hw0]; exact bl
  replace hB0 : Below w.heap.size w w0 := by rw [hw0]; exact hB0
  have hgl := hR.lt
  have hbl := hA.lt
  have nh : w.heap.size ≠ g := by omega
  have nb : w.heap.size ≠ b := by omega
  have nb' : b ≠ w.heap.size := by omega
  have hR0 := hR.stays hB0
  have hA0 := hA.stays hB0
  have hT0 := Touch.of_below hB0 (fun k => k = g ∨ k = b)
  have HW0 := Lib.hid hw0
  clear hw0 hw0' hB0 hs0 hR hA
  have hG := rBool_any g r w0 hR0 hl
  generalize rBool r = x at *
  have HG := Lib.hid hG
  clear hG
  go_enter Tryz.func103, Tryz.ntmps103
  go_wp2_with fail
  rw [← HW0.out]
  refine HG.out.mono ?_
  rintro e w1 ⟨rfl, hQ⟩
  have hA1 : Blk w1 b 51 z.vals := hA0.touch hQ.2 hne
  have bh1 := bh.touch hQ.2 nh
  have hf := hA1.frozen 52
  have hc := hA1.cell 52
  have c1 : w1.cell? ⟨w.heap.size, 0, none⟩ = some (.pointer (some ⟨g, 0, none⟩)) := bh1.cell 0
  have hc : (w1.cell? ⟨b, 52, none⟩).isSome = true := by rw [hc]; rfl
  obtain ⟨old, hc⟩ := Option.isSome_iff_exists.1 hc
  have hA2 : Blk (w1.setCell ⟨b, 52, none⟩ (.bool x.1)) b 51 ({ z with eof := x.1 } : Reply).vals := hA1.set_ 52 (.bool x.1)
  have hR2 : Rd (w1.setCell ⟨b, 52, none⟩ (.bool x.1)) g x.2 := hQ.1.touch ((Touch.refl (fun k => k = b) w1).setCell_ (g := b) (o := 52) (.inl rfl) (.bool x.1)) (fun e => hne e.symm)
  have hT2 : Touch (fun k => k = g ∨ k = b) w (w1.setCell ⟨b, 52, none⟩ (.bool x.1)) := (hT0.then_ (hQ.2.mono fun _ _ h => .inl h)).setCell_ (g := b) (o := 52) (.inl (.inr rfl)) (.bool x.1)
  have HL := Lib.hid (And.intro hR2 (And.intro hA2 hT2))
  clear hR2 hA2 hT2 hQ hA1 hA0 hR0 HG hT0 bh bh1 bl
  go_wp2_with fail
  refine (rErr_any g x.2 _ HL.out.1).mono ?_
  rintro e w3 ⟨rfl, rfl⟩
  go_wp2
  go_ret
  exact ⟨rfl, HL.out.1, HL.out.2.1, HL.out.2.2⟩

set_option maxRecDepth 20000 in
set_option maxHeartbeats 1600000 in
theorem ptake_d (g b : Nat) (z : Reply) (r : Rs) (w : World) (hR : Rd w g r) (hA : Blk w b 51 z.vals) (hl : r.s.length ≤ 9223372036854775807) : Calls Tryz.prog 103 #[.pointer (some ⟨g, 0, none⟩), .pointer (some ⟨b, 0, none⟩), .int .i32 100] w fun e w' => e = .returned (.bool ((rOpaque 256 r).2.e == 0)) ∧ Took8 g b ({ z with data := (rOpaque 256 r).1 }) ((rOpaque 256 r).2) w w' := by
  have hne : b ≠ g := Blk.ne_ hA hR.1 (by decide)
  obtain ⟨bh, bl, hB0, hs0⟩ := chain2_blks w [.pointer (some ⟨g, 0, none⟩)] [.int .i32 100] 167 21
  obtain ⟨w0, hw0⟩ : ∃ V, V = (w.alloc (.cells #[.pointer (some ⟨g, 0, none⟩)] 167)).alloc (.cells #[.int .i32 100] 21) := ⟨_, rfl⟩
  have hw0' := hw0
  replace bh : Blk w0 w.heap.size 167 [.pointer (some ⟨g, 0, none⟩)] := by rw [hw0]; exact bh
  replace bl : Blk w0 (w.heap.size + 1) 21 [.int .i32 100] := by rw [hw0]; exact bl
  replace hB0 : Below w.heap.size w w0 := by rw [hw0]; exact hB0
  have hgl := hR.lt
  have hbl := hA.lt
  have nh : w.heap.size ≠ g := by omega
  have nb : w.heap.size ≠ b := by omega
  have nb' : b ≠ w.heap.size := by omega
  have hR0 := hR.stays hB0
  have hA0 := hA.stays hB0
  have hT0 := Touch.of_below hB0 (fun k => k = g ∨ k = b)
  have HW0 := Lib.hid hw0
  clear hw0 hw0' hB0 hs0 hR hA
  have hG := rOpaque_any g 256 r w0 hR0 hl
  generalize rOpaque 256 r = x at *
  have HG := Lib.hid hG
  clear hG
  go_enter Tryz.func103, Tryz.ntmps103
  go_wp2_with fail
  rw [← HW0.out]
  refine HG.out.mono ?_
  rintro e w1 ⟨rfl, hQ⟩
  have hA1 : Blk w1 b 51 z.vals := hA0.touch hQ.2 hne
  have bh1 := bh.touch hQ.2 nh
  have hf := hA1.frozen 53
  have hc := hA1.cell 53
  have c1 : w1.cell? ⟨w.heap.size, 0, none⟩ = some (.pointer (some ⟨g, 0, none⟩)) := bh1.cell 0
  have hc : (w1.cell? ⟨b, 53, none⟩).isSome = true := by rw [hc]; rfl
  obtain ⟨old, hc⟩ := Option.isSome_iff_exists.1 hc
  have hA2 : Blk (w1.setCell ⟨b, 53, none⟩ (.string (bs x.1))) b 51 ({ z with data := x.1 } : Reply).vals := hA1.set_ 53 (.string (bs x.1))
  have hR2 : Rd (w1.setCell ⟨b, 53, none⟩ (.string (bs x.1))) g x.2 := hQ.1.touch ((Touch.refl (fun k => k = b) w1).setCell_ (g := b) (o := 53) (.inl rfl) (.string (bs x.1))) (fun e => hne e.symm)
  have hT2 : Touch (fun k => k = g ∨ k = b) w (w1.setCell ⟨b, 53, none⟩ (.string (bs x.1))) := (hT0.then_ (hQ.2.mono fun _ _ h => .inl h)).setCell_ (g := b) (o := 53) (.inl (.inr rfl)) (.string (bs x.1))
  have HL := Lib.hid (And.intro hR2 (And.intro hA2 hT2))
  clear hR2 hA2 hT2 hQ hA1 hA0 hR0 HG hT0 bh bh1 bl
  go_wp2_with fail
  refine (rErr_any g x.2 _ HL.out.1).mono ?_
  rintro e w3 ⟨rfl, rfl⟩
  go_wp2
  go_ret
  exact ⟨rfl, HL.out.1, HL.out.2.1, HL.out.2.2⟩

set_option maxRecDepth 20000 in
set_option maxHeartbeats 1600000 in
theorem ptake_a (g b : Nat) (z : Reply) (r : Rs) (w : World) (hR : Rd w g r) (hA : Blk w b 51 z.vals) (hl : r.s.length ≤ 9223372036854775807) : Calls Tryz.prog 103 #[.pointer (some ⟨g, 0, none⟩), .pointer (some ⟨b, 0, none⟩), .int .i32 97] w fun e w' => e = .returned (.bool ((gotR Post.ok postZ (rPost r)).2 == 0)) ∧ Took8 g b ({ z with obj := (gotR Post.ok postZ (rPost r)).1 }) ((rPost r).2) w w' := by
  have hne : b ≠ g := Blk.ne_ hA hR.1 (by decide)
  obtain ⟨bh, bl, hB0, hs0⟩ := chain2_blks w [.pointer (some ⟨g, 0, none⟩)] [.int .i32 97] 167 21
  obtain ⟨w0, hw0⟩ : ∃ V, V = (w.alloc (.cells #[.pointer (some ⟨g, 0, none⟩)] 167)).alloc (.cells #[.int .i32 97] 21) := ⟨_, rfl⟩
  have hw0' := hw0
  replace bh : Blk w0 w.heap.size 167 [.pointer (some ⟨g, 0, none⟩)] := by rw [hw0]; exact bh
  replace bl : Blk w0 (w.heap.size + 1) 21 [.int .i32 97] := by rw [hw0]; exact bl
  replace hB0 : Below w.heap.size w w0 := by rw [hw0]; exact hB0
  have hgl := hR.lt
  have hbl := hA.lt
  have nh : w.heap.size ≠ g := by omega
  have nb : w.heap.size ≠ b := by omega
  have nb' : b ≠ w.heap.size := by omega
  have hR0 := hR.stays hB0
  have hA0 := hA.stays hB0
  have hT0 := Touch.of_below hB0 (fun k => k = g ∨ k = b)
  have HW0 := Lib.hid hw0
  clear hw0 hw0' hB0 hs0 hR hA
  have hG := posted8_any g b 2 z.vals r w0.drew hR0 hA0 (by rw [Reply.len]; omega) hl
  have hset : ∀ p, setAt z.vals 2 p.vals = ({ z with obj := p } : Reply).vals := fun p => rfl
  rw [hset] at hG
  generalize gotR Post.ok postZ (rPost r) = x at *
  generalize (rPost r).2 = q at *
  have HG := Lib.hid hG
  have c1 : w0.cell? ⟨w.heap.size, 0, none⟩ = some (.pointer (some ⟨g, 0, none⟩)) := bh.cell 0
  clear hG hset hR0 hA0
  go_enter Tryz.func103, Tryz.ntmps103
  go_wp2_with fail
  rw [← HW0.out]
  go_region_held3 (fun V => V.cell? ⟨w.heap.size, 0, none⟩ = some (.pointer (some ⟨g, 0, none⟩))) (first | (with_reducible assumption) | exact c1 | exact (bh.drew.touch hX.2.2 (fun h => by omega)).cell 0) (first
    | (go_at_call 143; refine HG.out.mono ?_; rintro e w1 ⟨rfl, hX⟩))
  all_goals
    have HL := Lib.hid hX
    have HT := Lib.hid (hT0.drew.then_ hX.2.2)
    clear hX hT0
    go_wp2
    go_ret
    exact ⟨rfl, HL.out.1, HL.out.2.1, HT.out⟩

set_option maxRecDepth 20000 in
set_option maxHeartbeats 1600000 in
theorem ptake_d2 (g b : Nat) (z : Reply) (r : Rs) (w : World) (hR : Rd w g r) (hA : Blk w b 51 z.vals) (hl : r.s.length ≤ 9223372036854775807) : Calls Tryz.prog 103 #[.pointer (some ⟨g, 0, none⟩), .pointer (some ⟨b, 0, none⟩), .int .i32 68] w fun e w' => e = .returned (.bool ((gotR Post.ok postZ (rPost r)).2 == 0)) ∧ Took8 g b ({ z with dir := (gotR Post.ok postZ (rPost r)).1 }) ((rPost r).2) w w' := by
  have hne : b ≠ g := Blk.ne_ hA hR.1 (by decide)
  obtain ⟨bh, bl, hB0, hs0⟩ := chain2_blks w [.pointer (some ⟨g, 0, none⟩)] [.int .i32 68] 167 21
  obtain ⟨w0, hw0⟩ : ∃ V, V = (w.alloc (.cells #[.pointer (some ⟨g, 0, none⟩)] 167)).alloc (.cells #[.int .i32 68] 21) := ⟨_, rfl⟩
  have hw0' := hw0
  replace bh : Blk w0 w.heap.size 167 [.pointer (some ⟨g, 0, none⟩)] := by rw [hw0]; exact bh
  replace bl : Blk w0 (w.heap.size + 1) 21 [.int .i32 68] := by rw [hw0]; exact bl
  replace hB0 : Below w.heap.size w w0 := by rw [hw0]; exact hB0
  have hgl := hR.lt
  have hbl := hA.lt
  have nh : w.heap.size ≠ g := by omega
  have nb : w.heap.size ≠ b := by omega
  have nb' : b ≠ w.heap.size := by omega
  have hR0 := hR.stays hB0
  have hA0 := hA.stays hB0
  have hT0 := Touch.of_below hB0 (fun k => k = g ∨ k = b)
  have HW0 := Lib.hid hw0
  clear hw0 hw0' hB0 hs0 hR hA
  have hG := posted8_any g b 13 z.vals r w0.drew hR0 hA0 (by rw [Reply.len]; omega) hl
  have hset : ∀ p, setAt z.vals 13 p.vals = ({ z with dir := p } : Reply).vals := fun p => rfl
  rw [hset] at hG
  generalize gotR Post.ok postZ (rPost r) = x at *
  generalize (rPost r).2 = q at *
  have HG := Lib.hid hG
  have c1 : w0.cell? ⟨w.heap.size, 0, none⟩ = some (.pointer (some ⟨g, 0, none⟩)) := bh.cell 0
  clear hG hset hR0 hA0
  go_enter Tryz.func103, Tryz.ntmps103
  go_wp2_with fail
  rw [← HW0.out]
  go_region_held3 (fun V => V.cell? ⟨w.heap.size, 0, none⟩ = some (.pointer (some ⟨g, 0, none⟩))) (first | (with_reducible assumption) | exact c1 | exact (bh.drew.touch hX.2.2 (fun h => by omega)).cell 0) (first
    | (go_at_call 143; refine HG.out.mono ?_; rintro e w1 ⟨rfl, hX⟩))
  all_goals
    have HL := Lib.hid hX
    have HT := Lib.hid (hT0.drew.then_ hX.2.2)
    clear hX hT0
    go_wp2
    go_ret
    exact ⟨rfl, HL.out.1, HL.out.2.1, HT.out⟩

set_option maxRecDepth 20000 in
set_option maxHeartbeats 1600000 in
theorem ptake_w (g b : Nat) (z : Reply) (r : Rs) (w : World) (hR : Rd w g r) (hA : Blk w b 51 z.vals) (hl : r.s.length ≤ 9223372036854775807) : Calls Tryz.prog 103 #[.pointer (some ⟨g, 0, none⟩), .pointer (some ⟨b, 0, none⟩), .int .i32 119] w fun e w' => e = .returned (.bool ((gotR Wcc.ok wccZ (rWcc r)).2 == 0)) ∧ Took8 g b ({ z with wcc := (gotR Wcc.ok wccZ (rWcc r)).1 }) ((rWcc r).2) w w' := by
  have hne : b ≠ g := Blk.ne_ hA hR.1 (by decide)
  obtain ⟨bh, bl, hB0, hs0⟩ := chain2_blks w [.pointer (some ⟨g, 0, none⟩)] [.int .i32 119] 167 21
  obtain ⟨w0, hw0⟩ : ∃ V, V = (w.alloc (.cells #[.pointer (some ⟨g, 0, none⟩)] 167)).alloc (.cells #[.int .i32 119] 21) := ⟨_, rfl⟩
  have hw0' := hw0
  replace bh : Blk w0 w.heap.size 167 [.pointer (some ⟨g, 0, none⟩)] := by rw [hw0]; exact bh
  replace bl : Blk w0 (w.heap.size + 1) 21 [.int .i32 119] := by rw [hw0]; exact bl
  replace hB0 : Below w.heap.size w w0 := by rw [hw0]; exact hB0
  have hgl := hR.lt
  have hbl := hA.lt
  have nh : w.heap.size ≠ g := by omega
  have nb : w.heap.size ≠ b := by omega
  have nb' : b ≠ w.heap.size := by omega
  have hR0 := hR.stays hB0
  have hA0 := hA.stays hB0
  have hT0 := Touch.of_below hB0 (fun k => k = g ∨ k = b)
  have HW0 := Lib.hid hw0
  clear hw0 hw0' hB0 hs0 hR hA
  have hG := both8_any g b 24 z.vals r w0.drew hR0 hA0 (by rw [Reply.len]; omega) hl
  have hset : ∀ p, setAt z.vals 24 p.vals = ({ z with wcc := p } : Reply).vals := fun p => rfl
  rw [hset] at hG
  generalize gotR Wcc.ok wccZ (rWcc r) = x at *
  generalize (rWcc r).2 = q at *
  have HG := Lib.hid hG
  have c1 : w0.cell? ⟨w.heap.size, 0, none⟩ = some (.pointer (some ⟨g, 0, none⟩)) := bh.cell 0
  clear hG hset hR0 hA0
  go_enter Tryz.func103, Tryz.ntmps103
  go_wp2_with fail
  rw [← HW0.out]
  go_region_held3 (fun V => V.cell? ⟨w.heap.size, 0, none⟩ = some (.pointer (some ⟨g, 0, none⟩))) (first | (with_reducible assumption) | exact c1 | exact (bh.drew.touch hX.2.2 (fun h => by omega)).cell 0) (first
    | (go_at_call 144; refine HG.out.mono ?_; rintro e w1 ⟨rfl, hX⟩))
  all_goals
    have HL := Lib.hid hX
    have HT := Lib.hid (hT0.drew.then_ hX.2.2)
    clear hX hT0
    go_wp2
    go_ret
    exact ⟨rfl, HL.out.1, HL.out.2.1, HT.out⟩

set_option maxRecDepth 20000 in
set_option maxHeartbeats 1600000 in
theorem ptake_w2 (g b : Nat) (z : Reply) (r : Rs) (w : World) (hR : Rd w g r) (hA : Blk w b 51 z.vals) (hl : r.s.length ≤ 9223372036854775807) : Calls Tryz.prog 103 #[.pointer (some ⟨g, 0, none⟩), .pointer (some ⟨b, 0, none⟩), .int .i32 87] w fun e w' => e = .returned (.bool ((gotR Wcc.ok wccZ (rWcc r)).2 == 0)) ∧ Took8 g b ({ z with wcc2 := (gotR Wcc.ok wccZ (rWcc r)).1 }) ((rWcc r).2) w w' := by
  have hne : b ≠ g := Blk.ne_ hA hR.1 (by decide)
  obtain ⟨bh, bl, hB0, hs0⟩ := chain2_blks w [.pointer (some ⟨g, 0, none⟩)] [.int .i32 87] 167 21
  obtain ⟨w0, hw0⟩ : ∃ V, V = (w.alloc (.cells #[.pointer (some ⟨g, 0, none⟩)] 167)).alloc (.cells #[.int .i32 87] 21) := ⟨_, rfl⟩
  have hw0' := hw0
  replace bh : Blk w0 w.heap.size 167 [.pointer (some ⟨g, 0, none⟩)] := by rw [hw0]; exact bh
  replace bl : Blk w0 (w.heap.size + 1) 21 [.int .i32 87] := by rw [hw0]; exact bl
  replace hB0 : Below w.heap.size w w0 := by rw [hw0]; exact hB0
  have hgl := hR.lt
  have hbl := hA.lt
  have nh : w.heap.size ≠ g := by omega
  have nb : w.heap.size ≠ b := by omega
  have nb' : b ≠ w.heap.size := by omega
  have hR0 := hR.stays hB0
  have hA0 := hA.stays hB0
  have hT0 := Touch.of_below hB0 (fun k => k = g ∨ k = b)
  have HW0 := Lib.hid hw0
  clear hw0 hw0' hB0 hs0 hR hA
  have hG := both8_any g b 37 z.vals r w0.drew hR0 hA0 (by rw [Reply.len]; omega) hl
  have hset : ∀ p, setAt z.vals 37 p.vals = ({ z with wcc2 := p } : Reply).vals := fun p => rfl
  rw [hset] at hG
  generalize gotR Wcc.ok wccZ (rWcc r) = x at *
  generalize (rWcc r).2 = q at *
  have HG := Lib.hid hG
  have c1 : w0.cell? ⟨w.heap.size, 0, none⟩ = some (.pointer (some ⟨g, 0, none⟩)) := bh.cell 0
  clear hG hset hR0 hA0
  go_enter Tryz.func103, Tryz.ntmps103
  go_wp2_with fail
  rw [← HW0.out]
  go_region_held3 (fun V => V.cell? ⟨w.heap.size, 0, none⟩ = some (.pointer (some ⟨g, 0, none⟩))) (first | (with_reducible assumption) | exact c1 | exact (bh.drew.touch hX.2.2 (fun h => by omega)).cell 0) (first
    | (go_at_call 144; refine HG.out.mono ?_; rintro e w1 ⟨rfl, hX⟩))
  all_goals
    have HL := Lib.hid hX
    have HT := Lib.hid (hT0.drew.then_ hX.2.2)
    clear hX hT0
    go_wp2
    go_ret
    exact ⟨rfl, HL.out.1, HL.out.2.1, HT.out⟩

end Go.Proofs.YtfjflkmhhbhceaaGreatDoor


/-
  Layer 8, walks: a reply's Clone. Conditions: lengths.
-/
namespace Go.Proofs.YtfjflkmhhbhceaaGreatDoor
open Go.RowKit
attribute [local go_sem ↓] Go.wp_at_zero Go.wp_at_succ
attribute [local go_sem] rowAt_ptr rowOf_drew rowOf_drewN rowOf_alloc_past rowOf_new
attribute [local go_sem ↓] ldReply

attribute [local go_sem] Reply.at0 Reply.lat0 Reply.at1 Reply.lat1 Reply.at2 Reply.lat2 Reply.at3 Reply.lat3 Reply.at4 Reply.lat4 Reply.at5 Reply.lat5 Reply.at6 Reply.lat6 Reply.at7 Reply.lat7 Reply.at8 Reply.lat8 Reply.at9 Reply.lat9 Reply.at10 Reply.lat10 Reply.at11 Reply.lat11 Reply.at12 Reply.lat12 Reply.at13 Reply.lat13 Reply.at14 Reply.lat14 Reply.at15 Reply.lat15 Reply.at16 Reply.lat16 Reply.at17 Reply.lat17 Reply.at18 Reply.lat18 Reply.at19 Reply.lat19 Reply.at20 Reply.lat20 Reply.at21 Reply.lat21 Reply.at22 Reply.lat22 Reply.at23 Reply.lat23 Reply.at24 Reply.lat24 Reply.at25 Reply.lat25 Reply.at26 Reply.lat26 Reply.at27 Reply.lat27 Reply.at28 Reply.lat28 Reply.at29 Reply.lat29 Reply.at30 Reply.lat30 Reply.at31 Reply.lat31 Reply.at32 Reply.lat32 Reply.at33 Reply.lat33 Reply.at34 Reply.lat34 Reply.at35 Reply.lat35 Reply.at36 Reply.lat36 Reply.at37 Reply.lat37 Reply.at38 Reply.lat38 Reply.at39 Reply.lat39 Reply.at40 Reply.lat40 Reply.at41 Reply.lat41 Reply.at42 Reply.lat42 Reply.at43 Reply.lat43 Reply.at44 Reply.lat44 Reply.at45 Reply.lat45 Reply.at46 Reply.lat46 Reply.at47 Reply.lat47 Reply.at48 Reply.lat48 Reply.at49 Reply.lat49 Reply.at50 Reply.lat50 Reply.at51 Reply.lat51 Reply.at52 Reply.lat52 Reply.at53 Reply.lat53 Reply.at54 Reply.lat54 Reply.at55 Reply.lat55 Reply.at56 Reply.lat56 Reply.at57 Reply.lat57 Reply.sub0_58 Reply.lsub0_58 Reply.sub2_11 Reply.lsub2_11 Reply.sub3_10 Reply.lsub3_10 Reply.sub13_11 Reply.lsub13_11 Reply.sub14_10 Reply.lsub14_10 Reply.sub24_13 Reply.lsub24_13 Reply.sub24_2 Reply.lsub24_2 Reply.sub26_11 Reply.lsub26_11 Reply.sub27_10 Reply.lsub27_10 Reply.sub37_13 Reply.lsub37_13 Reply.sub37_2 Reply.lsub37_2 Reply.sub39_11 Reply.lsub39_11 Reply.sub40_10 Reply.lsub40_10 Reply.len

set_option maxRecDepth 20000 in
set_option maxHeartbeats 1600000 in
theorem clone8_any (x : RepL) (w : World) (hx : x.There w) (h1 : x.es.length ≤ 1000000) (h2 : x.us.length ≤ 1000000) :
    Calls Tryz.prog 50 #[.agg x.r.vals.toArray] w fun e w' => ∃ r : Reply, e = .returned (.agg r.vals.toArray) ∧ r.bare = x.r.bare ∧ (RepL.mk r x.es x.us).There w' ∧ RowS w' w.heap.size 126 15 (.slice r.ea r.en r.ec) (x.es.map Entry.vals) ∧ RowS w' w.heap.size 3 1 (.slice r.ua r.un r.uc) (x.us.map int1) ∧ Below w.heap.size w w' := by
  obtain ⟨x, l, p⟩ := x
  obtain ⟨ne, nu, le, lu, hAe, hAu⟩ := hx
  simp only at ne nu le lu hAe hAu h1 h2 ⊢
  obtain ⟨hX, hZ, hB, -⟩ := chain2_blks w x.vals replyZ.vals 51 51
  obtain ⟨w1, hw1⟩ : ∃ u, u = (w.alloc (.cells x.vals.toArray 51)).alloc (.cells replyZ.vals.toArray 51) := ⟨_, rfl⟩
  rw [← hw1] at hX hZ hB
  have HW1 := Lib.hid hw1
  have hAe1 := hAe.below hB
  have e56 : x.vals[56]? = some (.slice x.ea l.length x.ec) := by rw [← ne]; rfl
  have e57 : x.vals[57]? = some (.slice x.ua p.length x.uc) := by rw [← nu]; rfl
  have a56 : w1.cell? ⟨w.heap.size, 56, none⟩ = some (.slice x.ea l.length x.ec) := (hX.cell 56).trans e56
  have H := Lib.hid (And.intro hX (And.intro hZ (And.intro hB (And.intro e57 (And.intro ne nu)))))
  clear hX hZ hB hw1 e56 e57 ne nu
  go_enter Tryz.func50, Tryz.ntmps50
  go_upto_region 1 with fail
  change Code.wp _ _ _ _ ((w.alloc (.cells x.vals.toArray 51)).alloc (.cells replyZ.vals.toArray 51))
  rw [← HW1.out]
  clear HW1
  go_upto_region 2 with (first
    | (go_at_call 107; refine (cloneE_at x.ea x.ec l w1 h1 hAe1).mono ?_; rintro e w2 ⟨A, c, rfl, hR, hb⟩; have hX2 := (H.out.1.stays hb).cell 56; have hf2 := (H.out.1.stays hb).frozen 56)
    | fail)
  obtain ⟨hX, hZ, hB, e57, ne, nu⟩ := H.out
  have hX3 := (hX.stays hb).set_ 56 (.slice A l.length c)
  have hlz : w.heap.size < w.heap.size + 1 := by omega
  have hB1 : w.heap.size + 1 < w1.heap.size := hZ.lt
  have hZ3 := (hZ.stays hb).far (p := ⟨w.heap.size, 56, none⟩) (by simp) (.slice A l.length c)
  have hT3 : Touch (fun k => k = w.heap.size) w2 (w2.setCell ⟨w.heap.size, 56, none⟩ (.slice A l.length c)) := (Touch.refl (fun k => k = w.heap.size) w2).setCell (p := ⟨w.heap.size, 56, none⟩) (.inl rfl) (.slice A l.length c)
  have hR3 := hR.touch hT3 (fun k hk => by have := (hR.lt k hk).1; omega)
  have hB3 : Below w.heap.size w (w2.setCell ⟨w.heap.size, 56, none⟩ (.slice A l.length c)) := ((hB.trans (hb.mono (by omega)))).trans (hT3.below (fun k _ h => by omega) (by have := hb.size; omega))
  clear hX hZ hB hT3 hR hX2 hf2 a56 hAe1
  generalize w2.setCell ⟨w.heap.size, 56, none⟩ (.slice A l.length c) = w3 at *
  have hAu3 := hAu.below hB3
  have a57 : w3.cell? ⟨w.heap.size, 57, none⟩ = some (.slice x.ua p.length x.uc) := by rw [hX3.cell 57]; exact e57
  have H3 := Lib.hid (And.intro hX3 (And.intro hZ3 (And.intro hR3 hB3)))
  clear hX3 hZ3 hR3 hB3 e57 H hb hlz
  go_upto_region 3 with (first
    | (go_at_call 108; refine (cloneI_at x.ua x.uc p w3 h2 hAu3).mono ?_; rintro e w4 ⟨U, d, rfl, hU, hb⟩; have hX4 := (H3.out.1.stays hb).cell 57; have hf4 := (H3.out.1.stays hb).frozen 57)
    | fail)
  obtain ⟨hX3, hZ3, hR3, hB3⟩ := H3.out
  have hX5 := (hX3.stays hb).set_ 57 (.slice U p.length d)
  have hZ5 := (hZ3.stays hb).far (p := ⟨w.heap.size, 57, none⟩) (by simp) (.slice U p.length d)
  have hltz := hZ3.lt
  have hT5 : Touch (fun k => k = w.heap.size) w4 (w4.setCell ⟨w.heap.size, 57, none⟩ (.slice U p.length d)) := (Touch.refl (fun k => k = w.heap.size) w4).setCell (p := ⟨w.heap.size, 57, none⟩) (.inl rfl) (.slice U p.length d)
  have hU5 := hU.touch hT5 (fun k hk => by have := (hU.lt k hk).1; omega)
  have hR5 := (hR3.stays hb).touch hT5 (fun k hk => by have := (hR3.lt k hk).1; omega)
  have hB5 : Below w.heap.size w (w4.setCell ⟨w.heap.size, 57, none⟩ (.slice U p.length d)) := ((hB3.trans (hb.mono (by omega)))).trans (hT5.below (fun k _ h => by omega) (by have := hb.size; omega))
  clear hX3 hZ3 hT5 hU hX4 hf4 a57 hAu3 hR3 hB3
  generalize w4.setCell ⟨w.heap.size, 57, none⟩ (.slice U p.length d) = w5 at *
  obtain ⟨r, hr⟩ : ∃ r : Reply, r = { x with ea := A, en := l.length, ec := c, ua := U, un := p.length, uc := d } := ⟨_, rfl⟩
  have hrv : (x.vals.set 56 (.slice A l.length c)).set 57 (.slice U p.length d) = r.vals := by rw [hr]; rfl
  rw [hrv] at hX5
  have hrow : rowOf w5 w.heap.size 0 58 = some r.vals.toArray := rowOf_of hX5.range (Reply.len r) (by omega)
  have hT6 : Touch (fun k => k = w.heap.size + 1) w5 (w5.setCells (w.heap.size + 1) 0 r.vals) := Touch.setRow (F := fun k => k = w.heap.size + 1) rfl _ _ (Touch.refl _ _)
  have hR6 := hR5.touch hT6 (fun k hk => by have := (hR5.lt k hk).1; omega)
  have hU6 := hU5.touch hT6 (fun k hk => by have := (hU5.lt k hk).1; omega)
  have hB6 : Below w.heap.size w (w5.setCells (w.heap.size + 1) 0 r.vals) := hB5.trans (hT6.below (fun k _ h => by omega) (by have := hZ5.lt; omega))
  have H6 := Lib.hid (And.intro hR6 (And.intro hU6 hB6))
  have HR := Lib.hid (show r.bare = x.bare ∧ r.ea = A ∧ r.en = l.length ∧ r.ec = c ∧ r.ua = U ∧ r.un = p.length ∧ r.uc = d from by subst hr; exact ⟨rfl, rfl, rfl, rfl, rfl, rfl, rfl⟩)
  clear hr
  clear hT6 hR6 hU6 hB6 hR5 hU5 hX5 hrv hB5 hAe hAu
  go_wp2_with (first | (refine wpList_store_whole (by rfl) 51 _ _ (by rfl) (w.heap.size + 1) r.vals _ hZ5 (by rfl) (by rfl) (by rfl) (by kernel_rfl) (Reply.one _) ?_) | fail)
  refine ret_cells (w.heap.size + 1) 0 r.vals Tryz.results50 Tryz.underlying51 rfl (by kernel_rfl) rfl (hZ5.whole (by rfl)).range rfl ?_
  obtain ⟨q0, q1, q2, q3, q4, q5, q6⟩ := HR.out
  obtain ⟨hR6, hU6, hB6⟩ := H6.out
  obtain ⟨A', c', hA', hAt⟩ := hR6.at_
  obtain ⟨U', d', hU', hUt⟩ := hU6.at_
  injection hA' with hA1
  injection hU' with hU1
  subst hA1 hU1
  have hTh : (RepL.mk r l p).There (w5.setCells (w.heap.size + 1) 0 r.vals) := ⟨q2, q5, le, lu, by rw [q1]; exact hAt, by rw [q4]; exact hUt⟩
  have hb3 := hltz
  have hRr := hR6.base (C := w.heap.size) (by omega)
  rw [← q1, ← q2, ← q3] at hRr
  have hUr := hU6.base (C := w.heap.size) (by have := hB1; have := hb3; omega)
  rw [← q4, ← q5, ← q6] at hUr
  exact ⟨r, rfl, q0, hTh, hRr, hUr, hB6⟩
end Go.Proofs.YtfjflkmhhbhceaaGreatDoor


/-
  Layer 8, walks: the document takes the field of a letter, but for the rows (written by wip/tools/gentakef8.py). Conditions: a reader and results at blocks of their own.
-/
namespace Go.Proofs.YtfjflkmhhbhceaaGreatDoor
open Go.RowKit
end Go.Proofs.YtfjflkmhhbhceaaGreatDoor


/-
  Layer 8, walks: the document takes the numbers of results. Conditions: a reader and results at blocks of their own, no numbers yet.
-/
namespace Go.Proofs.YtfjflkmhhbhceaaGreatDoor
open Go.RowKit
attribute [local go_sem ↓] Go.wp_at_zero Go.wp_at_succ
attribute [local go_sem] rowAt_ptr rowOf_drew rowOf_drewN rowOf_alloc_past rowOf_new
attribute [local go_sem ↓] ldPost ldWcc

attribute [local go_sem] laterLd

def FB (g b B k : Nat) : Prop := k = g ∨ k = b ∨ B ≤ k
theorem Touch.ofB {F : Nat → Prop} {B : Nat} {w w' : World} (h : Below B w w') (hF : ∀ k, B ≤ k → F k) : Touch F w w' :=
  ⟨h.os, h.tape, h.output, h.size, fun k _ hn => h.block k (Nat.lt_of_not_le fun hk2 => hn (hF k hk2))⟩
theorem RdF.belowB {w w' : World} {g B : Nat} {r : Rs} (h : RdF w g r) (hb : Below B w w') (hg : g < B) : RdF w' g r := by
  obtain ⟨S, a, h, k⟩ := h
  exact ⟨S, a, h.below hb hg, k⟩

end Go.Proofs.YtfjflkmhhbhceaaGreatDoor

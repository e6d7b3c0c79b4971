/-
  Layer 33, walks: a client is asked. Condition: numbers within their bounds.
-/
import Derived.Test.YtfjflkmhhbhceaaGreatDoorW34
import Derived.Test.YtfjflkmhhbhceaaGreatDoorW35
import Derived.Test.YtfjflkmhhbhceaaGreatDoorW31
import Derived.Test.YtfjflkmhhbhceaaGreatDoorW37
import Derived.Test.YtfjflkmhhbhceaaGreatDoorW14
import Derived.Deep.CutRange
import Derived.Test.YtfjflkmhhbhceaaGreatDoorW36
import Derived.Test.YtfjflkmhhbhceaaGreatDoorW30
import Derived.Test.YtfjflkmhhbhceaaGreatDoorW16
import Derived.Test.YtfjflkmhhbhceaaGreatDoorW15
import Derived.StillTailTactics
namespace Go.Proofs.YtfjflkmhhbhceaaGreatDoor
open Go.RowKit
attribute [local go_sem ↓] Go.wp_at_zero Go.wp_at_succ
attribute [local go_sem] rowAt_ptr rowOf_drew rowOf_drewN rowOf_alloc_past rowOf_new
attribute [local go_sem ↓] st33Call st33Ask ld33Call ld33Ask

attribute [local go_sem] thereB_drew thereB_drewN thereB_new thereB_past putsW_drew putsW_new putsW_past rowOf_far rowOf_putsFar cell_putsFar cell_putsBelow frozen_puts thereB_puts thereB_set putsW_size ptrAt blkAt offAt allV33 oneV33 cellsOf_agg

attribute [local go_sem low] rowV33_agg

attribute [local go_sem] putsW_call putsW_ask Call.len Ask.len rowV33_call rowV33_ask

/-- what 'next' does, for a client at g -/
def NextK (g : Nat) : Prop := ∀ (F : Nat → Prop) (w : World) (c : ClD) (z : Clnt) (l : List Recd), ClAt F w g c z l → ClGood c → LaidF F w → c.recs.length ≤ 1000000 → ∀ step now : Int, timedC now = true →
  Calls Tryz.prog 38 #[.pointer (some ⟨g, 0, none⟩), .int .i64 step, .int .i64 now] w (NextP F g (c.next step now).1 (c.next step now).2 w)
/-- what Ask gives -/
def AskP33 (F : Nat → Prop) (g : Nat) (r : ClD × List Packet × Int) (w : World) (e : Ending) (w' : World) : Prop :=
  ∃ v, e = .returned (.tuple #[v, .int .i64 r.2.2]) ∧ RowS w' w.heap.size 40 3 v (r.2.1.map Packet.vals) ∧ (∃ G z l, ClAt G w' g r.1 z l ∧ ∀ k, G k → F k ∨ w.heap.size ≤ k) ∧ Touch F w w'
set_option maxRecDepth 20000 in
set_option maxHeartbeats 1600000 in
theorem ask33_busy (F : Nat → Prop) (w : World) (g : Nat) (c : ClD) (z : Clnt) (l : List Recd) (hC : ClAt F w g c z l) (a : Ask) (step now : Int) (hb : c.busy = true) :
    Calls Tryz.prog 11 #[.pointer (some ⟨g, 0, none⟩), .agg a.vals.toArray, .int .i64 step, .int .i64 now] w (AskP33 F g (c.ask a step now) w) := by
  have HQ := Lib.hid (show c.ask a step now = (c, [], 34) by unfold ClD.ask; rw [if_pos hb])
  have hB : Below w.heap.size w (w.alloc (.cells a.vals.toArray 38)) := (Below.refl _ _).alloc (Nat.le_refl _) _
  have hC1 := hC.below hB
  have c49 : (w.alloc (.cells a.vals.toArray 38)).cell? ⟨g, 49, none⟩ = some (.bool true) := by
    rw [hC1.blk.cell 49, ← hb, ← hC.is.busy]; rfl
  have HC1 := Lib.hid hC1
  have HB := Lib.hid hB
  obtain ⟨w1, hw1⟩ : ∃ V, V = w.alloc (.cells a.vals.toArray 38) := ⟨_, rfl⟩
  rw [← hw1] at c49 HC1 HB
  have HW := Lib.hid hw1
  have HF := Lib.hid hC.lt
  clear hC hC1 hB hb hw1
  go_enter Tryz.func11, Tryz.ntmps11
  go_upto_region 1 with fail
  change Code.wp _ _ _ _ (w.alloc (.cells a.vals.toArray 38))
  rw [← HW.out]
  go_wp2
  go_ret2
  rw [HQ.out]
  exact ⟨_, rfl, RowS.none_, ⟨F, z, l, HC1.out, fun k hk => .inl hk⟩, Touch.of_below HB.out _⟩
set_option maxRecDepth 20000 in
set_option maxHeartbeats 3200000 in
theorem ask33_b (F : Nat → Prop) (w : World) (g : Nat) (c : ClD) (z : Clnt) (l : List Recd) (KN : NextK g) (hC : ClAt F w g c z l) (hG : ClGood c) (hL : LaidF F w) (hrl : c.recs.length ≤ 1000000) (a : Ask) (hg : CallG a.call) (step now : Int) (hb : c.busy = false) :
    Calls Tryz.prog 11 #[.pointer (some ⟨g, 0, none⟩), .agg a.vals.toArray, .int .i64 step, .int .i64 now] w (AskP33 F g (c.ask a step now) w) := by
  have bA := Blk.new w 38 a.vals
  have hB : Below w.heap.size w (w.alloc (.cells a.vals.toArray 38)) := (Below.refl _ _).alloc (Nat.le_refl _) _
  have hC1 := hC.below hB
  obtain ⟨w1, hw1⟩ : ∃ V, V = w.alloc (.cells a.vals.toArray 38) := ⟨_, rfl⟩
  rw [← hw1] at bA hB hC1
  have c49 : w1.cell? ⟨g, 49, none⟩ = some (.bool false) := by
    rw [hC1.blk.cell 49, ← hb, ← hC.is.busy]; rfl
  have rA : rowOf w1 w.heap.size 0 30 = some a.vals.toArray := bA.row 0 30 (by rw [Ask.len]; omega)
  have HW := Lib.hid hw1
  have HBusy := Lib.hid hb
  have HF := Lib.hid hC.lt
  have KQ := Lib.hid (fun W => asked33_any a W)
  have HC1 := Lib.hid hC1
  have HB := Lib.hid hB
  have HA := Lib.hid bA
  clear hw1 hC hC1 hB bA
  go_enter Tryz.func11, Tryz.ntmps11
  go_upto_region 1 with fail
  change Code.wp _ _ _ _ (w.alloc (.cells a.vals.toArray 38))
  rw [← HW.out]
  go_wp2_with fail
  refine (KQ.out _).mono ?_
  rintro e w2 ⟨A, cq, rfl, hAt, hb2⟩
  obtain ⟨⟨x, pl, isq⟩, hq⟩ : ∃ q, q = askedC a := ⟨_, rfl⟩
  rw [← hq] at hAt
  have hpl : pl.length ≤ 1000 := by
    have h1 : (askedC a).2.1.length ≤ 3 := by
      unfold askedC
      repeat' split
      all_goals (first | exact Nat.le_refl 3 | (show _ ≤ 3; decide) | exact Nat.le_of_ble_eq_true rfl)
    rw [← hq] at h1
    exact Nat.le_trans h1 (by decide)
  have HM := Lib.hid (show mayAsk a step now = (isq && decide (1 ≤ step) && timedC now && pl.all placeC && whoC a && decide (cCheck x = 0)) by unfold mayAsk; rw [← hq])
  have HQ := Lib.hid hq
  have hb3 : Below w2.heap.size w2 (w2.alloc (.cells x.vals.toArray 36)) := (Below.refl _ _).alloc (Nat.le_refl _) _
  have bX := Blk.new w2 36 x.vals
  obtain ⟨w3, hw3⟩ : ∃ V, V = w2.alloc (.cells x.vals.toArray 36) := ⟨_, rfl⟩
  rw [← hw3] at hb3 bX
  have hA3 := HA.out.stays (hb2.trans (hb3.mono hb2.size))
  have hC3 := HC1.out.below (hb2.trans (hb3.mono hb2.size))
  have hAt3 := Lib.hid (hAt.below hb3)
  have HB3 := Lib.hid (below_then HB.out (hb2.trans (hb3.mono hb2.size)))
  have HC3 := Lib.hid hC3
  have HA3 := Lib.hid hA3
  have HX3 := Lib.hid bX
  have hl2 := Lib.hid (show w.heap.size < w2.heap.size from Nat.lt_of_lt_of_le HA.out.lt hb2.size)
  rw [← hq]
  simp only
  have HW3 := Lib.hid hw3
  clear hw3 hq hb2 hb3 bX hA3 hC3 hAt c49 rA HC1 HA
  go_upto_region 6 with fail
  change Code.wp _ _ _ _ (w2.alloc (.cells x.vals.toArray 36))
  rw [← HW3.out]
  have c4 : w3.cell? ⟨w.heap.size, 4, none⟩ = some (.int .i64 a.uid) := HA3.out.cell 4
  have c5 : w3.cell? ⟨w.heap.size, 5, none⟩ = some (.int .i64 a.gid) := HA3.out.cell 5
  have rX : rowOf w3 w2.heap.size 0 24 = some x.vals.toArray := HX3.out.row 0 24 (by rw [Call.len]; omega)
  have KC := Lib.hid (fun W => check7_any x W)
  have KT := Lib.hid (fun W => there33_any A cq pl W hpl)
  generalize cCheck x = ck at *
  generalize pl.all placeC = pa at *
  generalize htm : timedC now = tm at *
  cases isq
  case false =>
    have HM0 := Lib.hid (show c.ask a step now = (c, [], 2) by unfold ClD.ask; rw [if_neg (by rw [HBusy.out]; decide), if_pos (by rw [HM.out]; rfl)])
    go_wp2
    go_ret2
    rw [HM0.out]
    exact ⟨_, rfl, RowS.none_, ⟨F, z, l, HC3.out, fun k hk => .inl hk⟩, Touch.of_below HB3.out _⟩
  case true =>
  go_cut [66] from 26 to 65 (fun v wx => v = .bool (!mayAsk a step now) ∧ Below w3.heap.size w3 wx)
  case first =>
    go_wp2_with (first
      | (go_at_call 34; refine (timed33_any now _).mono ?_; rintro e wt ⟨rfl, hwt⟩; rw [hwt, htm]; clear hwt)
      | (go_at_call 35; refine (KT.out _ hAt3.out).mono ?_; rintro e wt ⟨rfl, hwt⟩; rw [hwt]; clear hwt)
      | (go_at_call 36; refine (KC.out _).mono ?_; rintro e wk ⟨rfl, hbk⟩)
      | fail)
    all_goals go_meet
    all_goals
      rw [HM.out]
      refine ⟨congrArg Value.bool ?_, ?_⟩
      · unfold whoC
        clear HW HF KQ HB HM HQ HB3 HC3 HA3 HX3 hl2 HW3 KC KT hAt3
        grind
      · first | exact Below.refl _ _ | assumption
  case rest =>
  obtain ⟨rfl, hbc⟩ := hcut
  have HC4 := Lib.hid (HC3.out.below hbc)
  have HA4 := Lib.hid (HA3.out.stays hbc)
  have HX4 := Lib.hid (HX3.out.stays hbc)
  have HB4 := Lib.hid (below_then HB3.out hbc)
  clear hbc c4 c5 rX KC KT hAt3 HC3 HA3 HX3 HB3 HM
  cases hm : mayAsk a step now
  case false =>
    have HM0 := Lib.hid (show c.ask a step now = (c, [], 2) by unfold ClD.ask; rw [if_neg (by rw [HBusy.out]; decide), if_pos hm])
    go_wp2
    go_ret2
    rw [HM0.out]
    exact ⟨_, rfl, RowS.none_, ⟨F, z, l, HC4.out, fun k hk => .inl hk⟩, Touch.of_below HB4.out _⟩
  case true =>
  have KP := Lib.hid (plan33_any F wc g c z l HC4.out hG a hg step now hm)
  have rA : rowOf wc w.heap.size 0 30 = some a.vals.toArray := HA4.out.row 0 30 (by rw [Ask.len]; omega)
  have rX : rowOf wc w2.heap.size 0 24 = some (askedC a).1.vals.toArray := by
    rw [← HQ.out]
    exact HX4.out.row 0 24 (by rw [Call.len]; omega)
  have HMay := Lib.hid hm
  clear hm
  go_wp2_with fail
  refine KP.out.mono ?_
  rintro e w4 ⟨v, rfl, hrow, ⟨z4, hC4⟩, ht4⟩
  obtain ⟨q1, q2⟩ := planP hG hg HMay.out
  generalize hpp : c.plan a (askedC a).1 = pp at *
  obtain ⟨c1, ps⟩ := pp
  simp only at hrow hC4 q1 q2
  obtain ⟨A4, cap4, rfl, -⟩ := hrow.at_
  rw [List.length_map] at hrow ⊢
  have d19 : w4.cell? ⟨g, 19, none⟩ = some (.slice z4.ta z4.tn z4.tc) := hC4.blk.cell 19
  have f19 := hC4.blk.frozen 19
  have HP4 := Lib.hid hpp
  have HR4 := Lib.hid hrow
  have HC5 := Lib.hid hC4
  have HT4 := Lib.hid ht4
  have HQ1 := Lib.hid (And.intro q1 q2)
  clear hpp hrow hC4 ht4 q1 q2 rX rA KP HX4
  go_upto_region 9 with fail
  have hg4 : g < w4.heap.size := HC5.out.blk.lt
  have hgF := HF.out g HC5.out.fg
  have hBw : w.heap.size ≤ wc.heap.size := HB4.out.size
  have hng : ∀ k, (Value.slice A4 ps.length cap4).ownBlock = some k → k ≠ g := fun k hk e => by have := (HR4.out.lt k hk).1; omega
  obtain ⟨w5, hw5⟩ : ∃ V, V = w4.setCell ⟨g, 19, none⟩ (.slice A4 ps.length cap4) := ⟨_, rfl⟩
  rw [← hw5]
  have ht5 : Touch (fun k => k = g) w4 w5 := by rw [hw5]; exact (Touch.refl (fun k => k = g) w4).setCell (p := ⟨g, 19, none⟩) (.inl rfl) _
  have hR5 : RowS w5 wc.heap.size 91 29 (.slice A4 ps.length cap4) (ps.map CPart.vals) := HR4.out.touch ht5 fun k hk e => hng k hk e
  have b5 : Blk w5 g 93 (z4.vals.set 19 (.slice A4 ps.length cap4)) := by rw [hw5]; exact HC5.out.blk.set_ 19 _
  rw [clnt_set19] at b5
  have e19 : w5.cell? ⟨g, 19, none⟩ = some (.slice A4 ps.length cap4) := b5.cell 19
  have hA5 : Blk w5 w.heap.size 38 a.vals := by
    have h1 := HA4.out.touch HT4.out (by omega)
    exact h1.touch ht5 (by omega)
  have hAlt := hA5.lt
  have hAn : ∀ k, (Value.slice A4 ps.length cap4).ownBlock = some k → k ≠ w.heap.size := fun k hk e => by
    have h1 := own_ty hR5.2 k hk
    obtain ⟨C, hC⟩ := h1
    rw [e] at hC
    have h2 : w5.heap[w.heap.size]? = some (.cells a.vals.toArray 38 (0, 0)) := hA5
    rw [h2] at hC
    injection hC with hC
    injection hC with _ hC
    exact absurd hC (by decide)
  have HR5 := Lib.hid hR5
  have HB5 := Lib.hid b5
  have HA5 := Lib.hid hA5
  have HW5 := Lib.hid hw5
  have HNG := Lib.hid hng
  have HAN := Lib.hid hAn
  have hg5 : g < w5.heap.size := b5.lt
  have hps : ps.length ≤ 9223372036854775807 := by
    have := hR5.le
    rw [List.length_map] at this
    exact this
  clear d19 f19 hw5 ht5 hR5 b5 hA5 hng hAn hg4 hgF hBw
  go_wp2
  go_loopw [79] (fun i wr => ∃ k : Nat, k ≤ ps.length ∧ i = .int .i64 k ∧ RowS wr wc.heap.size 91 29 (.slice A4 ps.length cap4) ((updP a k ps).map CPart.vals) ∧ Touch (fun j => (Value.slice A4 ps.length cap4).ownBlock = some j) w5 wr) (fun i _ => ps.length - (intOf i).toNat)
  case atStart => exact ⟨0, Nat.zero_le _, rfl, by rw [updP_zero]; exact HR5.out, Touch.refl _ _⟩
  case round =>
    obtain ⟨k, hk, rfl, hR, hT⟩ := hrel
    by_cases hlt : k < ps.length
    · obtain ⟨pre, post, hpre, hparts, hnext⟩ := updP_parts a hlt
      obtain ⟨b, rfl⟩ : ∃ b, A4 = some ⟨b, 0, none⟩ := by
        rcases hR.2.2 with ⟨h1, h2⟩ | ⟨g', cap', cur, h1, _⟩
        · rw [List.length_map, updP_len] at h2; omega
        · injection h1 with h1 _ _
          exact ⟨g', h1⟩
      have hbg : b ≠ g := HNG.out b rfl
      have hba : b ≠ w.heap.size := HAN.out b rfl
      have k19 : wr.cell? ⟨g, 19, none⟩ = some (.slice (some ⟨b, 0, none⟩) ps.length cap4) := (hT.cell (p := ⟨g, 19, none⟩) hg5 (fun e => hbg (by injection e))).trans e19
      have k4 : wr.cell? ⟨w.heap.size, 4, none⟩ = some (.int .i64 a.uid) := (hT.cell (p := ⟨w.heap.size, 4, none⟩) hAlt (fun e => hba (by injection e))).trans (HA5.out.cell 4)
      have k5 : wr.cell? ⟨w.heap.size, 5, none⟩ = some (.int .i64 a.gid) := (hT.cell (p := ⟨w.heap.size, 5, none⟩) hAlt (fun e => hba (by injection e))).trans (HA5.out.cell 5)
      have hth := hR.thereAt (by rw [List.length_map, updP_len]) (k * 29 + 27) 2 (by omega)
      obtain ⟨y27, h27⟩ := Option.isSome_iff_exists.1 (hth 0 (by omega)).1
      obtain ⟨y28, h28⟩ := Option.isSome_iff_exists.1 (hth 1 (by omega)).1
      have f27 := (hth 0 (by omega)).2
      have f28 := (hth 1 (by omega)).2
      have hk0 : (0 : Int) ≤ (k : Int) := Int.natCast_nonneg _
      have hk1 : (k : Int) < (ps.length : Int) := by omega
      have hkw : IntKind.i64.wrap ((k : Int) + 1) = ((k + 1 : Nat) : Int) := by rw [IntWalk.i64_in _ (by omega)]; omega
      have n1 : g ≠ b := Ne.symm hbg
      have n2 : w.heap.size ≠ b := Ne.symm hba
      have HRk := Lib.hid (And.intro hR (And.intro hT (And.intro hpre (And.intro hparts hnext))))
      clear hR hT hpre hparts hnext hth e19
      go_wp2
      go_region
      go_wp2
      go_roundw
      case rel =>
        obtain ⟨hR, hT, hpre, hparts, hnext⟩ := HRk.out
        refine ⟨k + 1, by omega, by go_num, ?_, ?_⟩
        · rw [hparts] at hR
          have h1 := hR.putWho a
          rw [hpre, ← hnext] at h1
          exact h1
        · exact ((hT.setCell (p := ⟨b, k * 29 + 27, none⟩) (.inl rfl) _).setCell (p := ⟨b, k * 29 + 28, none⟩) (.inl rfl) _).drew
      case measure => simp [intOf]; omega
    · obtain rfl : k = ps.length := by omega
      rw [updP_all a ps (Nat.le_refl _), ← List.length_map (f := whoP a)] at hR
      rw [HW5.out] at hT
      have hR4 := HR4.out
      rw [← List.length_map (f := whoP a)] at hR4 hT
      obtain ⟨hC6, hT6⟩ := HC5.out.partsNew HF.out ((Touch.of_below HB4.out _).then_ HT4.out) HB4.out.size hR4 hR hT
      have hL6 : LaidF (fun k => F k ∨ (w.heap.size ≤ k ∧ k < wr.heap.size)) wr := by
        obtain ⟨w0, h1, h2, h3⟩ := hL
        refine ⟨w0, h1, h2.trans (hT6.below (fun k _ hk => h3 k hk) h2.size), fun k hk => ?_⟩
        rcases hk with hk | hk
        · exact h3 k hk
        · have := h2.size; omega
      obtain ⟨q1, q2⟩ := HQ1.out
      have hG6 : ClGood { c1 with parts := ps.map (whoP a) } := ⟨q1.len, q1.ps, fun p hp => by
        obtain ⟨q, hq, rfl⟩ := List.mem_map.1 hp
        exact ⟨(q2 q hq).call, (q2 q hq).proc, (q2 q hq).dir, (q2 q hq).to_, (q2 q hq).put⟩, q1.now, q1.made⟩
      have hr6 : c1.recs = c.recs := by
        have h1 := (c.plan_keeps a (askedC a).1).2.1
        rw [HP4.out] at h1
        exact h1
      have KN6 := Lib.hid (KN _ wr { c1 with parts := ps.map (whoP a) } _ l hC6 hG6 hL6 (by show c1.recs.length ≤ _; rw [hr6]; exact hrl) step now (by
        have := HMay.out
        simp only [mayAsk, Bool.and_eq_true] at this
        exact this.1.1.1.2))
      have HT6 := Lib.hid hT6
      have HAsk := Lib.hid (show c.ask a step now = ((({ c1 with parts := ps.map (whoP a) } : ClD).next step now).1, (({ c1 with parts := ps.map (whoP a) } : ClD).next step now).2, 0) by
        unfold ClD.ask
        rw [if_neg (by rw [HBusy.out]; decide), if_neg (by rw [HMay.out]; decide), HP4.out]
        rfl)
      clear hR hT hR4 hC6 hT6 hL6 hG6 hr6 q1 q2
      go_wp2_with fail
      refine KN6.out.mono ?_
      rintro e w6 ⟨v, rfl, hrow6, ⟨G', z', l', hC', hG'⟩, ht6⟩
      have HE := Lib.hid (And.intro hrow6 (And.intro hC' (And.intro hG' ht6)))
      clear hrow6 hC' hG' ht6
      go_wp2
      go_ret2
      rw [HAsk.out]
      obtain ⟨e1, e2, e3, e4⟩ := HE.out
      have hsz := HT6.out.size
      refine ⟨v, rfl, e1.base hsz, ⟨G', z', l', e2, fun k hk => ?_⟩, HT6.out.trans e4 fun i hi hk => ?_⟩
      · rcases e3 k hk with (h | h) | h
        · exact .inl h
        · exact .inr h.1
        · exact .inr (by omega)
      · rcases hk with h | h
        · exact h
        · omega
theorem ask33_any (F : Nat → Prop) (w : World) (g : Nat) (c : ClD) (z : Clnt) (l : List Recd) (KN : NextK g) (hC : ClAt F w g c z l) (hG : ClGood c) (hL : LaidF F w) (hrl : c.recs.length ≤ 1000000) (a : Ask) (hg : CallG a.call) (step now : Int) :
    Calls Tryz.prog 11 #[.pointer (some ⟨g, 0, none⟩), .agg a.vals.toArray, .int .i64 step, .int .i64 now] w (AskP33 F g (c.ask a step now) w) := by
  cases hb : c.busy
  · exact ask33_b F w g c z l KN hC hG hL hrl a hg step now hb
  · exact ask33_busy F w g c z l hC a step now hb
end Go.Proofs.YtfjflkmhhbhceaaGreatDoor

/-
  Layer 33, walks: the next call is made (printed by wip/tools/gennext33.py). Condition: numbers within their bounds.
-/
namespace Go.Proofs.YtfjflkmhhbhceaaGreatDoor
open Go.RowKit
attribute [local go_sem ↓] Go.wp_at_zero Go.wp_at_succ
attribute [local go_sem] rowAt_ptr rowOf_drew rowOf_drewN rowOf_alloc_past rowOf_new
attribute [local go_sem ↓] st33Text st33Part st33Call st33Cred st33Packet ld33Part ld33Call ld33Cred ld33Packet exSlRecd1 exSlPacket1

attribute [local go_sem] thereB_drew thereB_drewN thereB_new thereB_past putsW_drew putsW_new putsW_past rowOf_far rowOf_putsFar cell_putsFar cell_putsBelow frozen_puts thereB_puts thereB_set putsW_size ptrAt blkAt offAt allV33 oneV33 cellsOf_agg

attribute [local go_sem low] rowV33_agg

attribute [local go_sem] putsW_call putsW_cred Call.len CPart.len Cred.len Packet.len rowV33_call rowV33_part rowV33_packet

set_option maxRecDepth 20000 in
set_option maxHeartbeats 1600000 in
theorem next33_a (F : Nat → Prop) (w : World) (g : Nat) (c : ClD) (z : Clnt) (l : List Recd) (hC : ClAt F w g c z l) (step now : Int) (hp : c.parts = []) :
    Calls Tryz.prog 38 #[.pointer (some ⟨g, 0, none⟩), .int .i64 step, .int .i64 now] w fun e w' => e = .returned (.slice none 0 0) ∧ w' = w := by
  have c19 : w.cell? ⟨g, 19, none⟩ = some (.slice z.ta 0 z.tc) := by
    rw [hC.blk.cell 19]
    have := hC.pts.len
    rw [hp] at this
    show some (Value.slice z.ta z.tn z.tc) = _
    rw [this]
    rfl
  go_enter Tryz.func38, Tryz.ntmps38
  go_wp2
  go_ret
  exact ⟨rfl, rfl⟩
set_option maxRecDepth 20000 in
set_option maxHeartbeats 40000000 in
theorem next33_b (F : Nat → Prop) (w : World) (g : Nat) (c : ClD) (z : Clnt) (l : List Recd) (hC : ClAt F w g c z l) (step now : Int) (p : CPart) (ps : List CPart) (hp : c.parts = p :: ps) (hG : ClGood c) (hL : LaidF F w) (hrl : c.recs.length ≤ 1000000) (hnw : 0 ≤ now ∧ now ≤ 1099511627776) :
    Calls Tryz.prog 38 #[.pointer (some ⟨g, 0, none⟩), .int .i64 step, .int .i64 now] w (NextP F g (c.next step now).1 (c.next step now).2 w) := by
  have hlen := hC.pts.len
  rw [hp, List.length_cons] at hlen
  have hrow := hC.pts.row
  rw [hp] at hrow
  obtain ⟨b, off, hta, hbl, hcell⟩ := hrow 0 p.vals rfl
  have hown := hC.pts.own _ hta
  have c19 : w.cell? ⟨g, 19, none⟩ = some (.slice (some ⟨b, off, none⟩) (ps.length + 1) z.tc) := by
    rw [hC.blk.cell 19]
    show some (Value.slice z.ta z.tn z.tc) = _
    rw [hlen, hta]
  have r0 : rowOf w b off 29 = some p.vals.toArray := rowOf_of (fun j u hu => by have := hcell j u hu; simpa using this) (CPart.len p) (by decide)
  have tN := hC.blk.thereB 20 29 (by show 20 + 29 ≤ 56; decide)
  have fN := hC.blk.frozen
  have hl0 : (0 : Int) < ((ps.length : Nat) : Int) + 1 := by omega
  have hl1 : (1 : Int) ≤ ((ps.length : Nat) : Int) + 1 := by omega
  have hne : ((((ps.length + 1 : Nat) : Int)) == 0) = false := by simp only [beq_eq_false_iff_ne]; omega
  go_enter Tryz.func38, Tryz.ntmps38
  go_wp2
  go_region
  obtain ⟨A', hA'⟩ : ∃ A, A = (if z.tc = 1 then some (⟨b, off, none⟩ : Addr) else some ⟨b, off + 29, none⟩) := ⟨_, rfl⟩
  rw [← hA']
  obtain ⟨W, hW⟩ : ∃ W, W = ((putsW w g 20 p.vals).setCell ⟨g, 19, none⟩ (.slice A' ps.length (z.tc - 1))).drew := ⟨_, rfl⟩
  rw [← hW]
  obtain ⟨hC2, ht2⟩ := hC.taken hp hta hA' hW
  obtain ⟨z2, hz2⟩ : ∃ u, u = ({ z with ta := A', tn := ps.length, tc := z.tc - 1, now := p } : Clnt) := ⟨_, rfl⟩
  obtain ⟨c2, hc2⟩ : ∃ d, d = ({ c with parts := ps, now := p } : ClD) := ⟨_, rfl⟩
  rw [← hz2, ← hc2] at hC2
  clear hA'
  have hF := hC.lt
  have hgl := hC.blk.lt
  have hnow : z2.now = p := by rw [hz2]
  have HC := Lib.hid hC2
  have HT := Lib.hid ht2
  have HF := Lib.hid hF
  have Hc2 := Lib.hid hc2
  have rc : rowOf W g 20 24 = some p.c.vals.toArray := by
    have := hC2.blk.row 20 24 (by rw [Clnt.len]; omega)
    rw [Clnt.lsub20_24, hnow] at this
    exact this
  have hgW : g < W.heap.size := hC2.blk.lt
  have hsz : w.heap.size ≤ W.heap.size := ht2.size
  clear hW hz2 hc2 hC hC2 ht2 hF c19 r0 tN fN hl0 hl1 hne hcell hown hrow hlen
  go_upto_region 4 with fail
  go_cut [7, 8] from 37 to 46 (fun v7 v8 wx => ∃ bx bt, v7 = .pointer (some ⟨bx, 0, none⟩) ∧ v8 = .pointer (some ⟨bt, 0, none⟩) ∧ TwoC F g bx bt c2 z2 l w p.c p.c wx)
  case first =>
    have HS := Lib.hid (show RowSt g 20 24 p.c.vals.toArray W from ⟨rc, hgW⟩)
    go_region_held3 (fun U => RowSt g 20 24 p.c.vals.toArray U) (first | exact HS.out.drew | exact HS.out.drew.alloc _ | exact (HS.out.alloc _).drew | exact (HS.out.drew.alloc _).alloc _ | exact ((HS.out.alloc _).alloc _).drew | with_reducible assumption) (fail)
    all_goals (go_wp2_with fail; go_meet)
    case rel => exact ⟨_, _, rfl, rfl, (TwoC.make HC.out HT.out p.c).1⟩
    case rel => exact ⟨_, _, rfl, rfl, (TwoC.make HC.out HT.out p.c).2⟩
  case rest =>
  obtain ⟨bx, bt, rfl, rfl, hT⟩ := hcut
  have hpg := hG.parts p (by rw [hp]; exact List.mem_cons_self)
  obtain ⟨d, hd⟩ : ∃ d : Nat, p.dir = d := ⟨p.dir.toNat, by have := hpg.dir; omega⟩
  obtain ⟨q, hq⟩ : ∃ q : Nat, p.to_ = q := ⟨p.to_.toNat, by have := hpg.to_; omega⟩
  have hd4 : d < 4 := by have := hpg.dir; omega
  have hq4 : q < 4 := by have := hpg.to_; omega
  have hat : ∀ i, c2.at_ i = c.at_ i := fun i => by rw [Hc2.out]; rfl
  clear rc hgW hsz
  have x0 : wc.cell? ⟨bx, 0, none⟩ = some (.int .i64 p.c.proc) := hT.xb.cell 0
  have HTW := Lib.hid hT
  clear hT
  have KH : ∀ W, Calls Tryz.prog 84 #[.int .i64 p.c.proc, .int .i32 102] W fun e w' => e = .returned (.bool (hasC p.c.proc 102)) ∧ Below W.heap.size W w' := fun W => has33_any p.c.proc 102 (by decide) W
  replace KH := Lib.hid KH
  go_wp2_with fail
  refine (KH.out _).mono ?_
  rintro e w5 ⟨rfl, hb5⟩
  have hT5 := HTW.out.below hb5
  clear hb5 x0 KH HTW
  generalize hmb1 : hasC p.c.proc 102 = b1 at *
  go_upto_if 49 with fail
  go_cut [] from 50 to 74 (fun wx => TwoC F g bx bt c2 z2 l w (if b1 then { p.c with fh := (c.at_ p.dir).handle } else p.c) (if b1 then { p.c with fh := genText (c.at_ p.dir).gen } else p.c) wx)
  case first =>
    cases b1
    case false =>
      have HT5 := Lib.hid hT5
      clear hT5
      go_wp2
      go_meet
      case rel =>
        exact HT5.out
    case true =>
      have hbk := hT5.cl.blk
      obtain ⟨r0, r1, r2, r3⟩ := place_cells z2 hd4
      have hpl := hT5.cl.is.at_ hd4
      have c44 : w5.cell? ⟨g, 44, none⟩ = some (.int .i64 d) := by rw [hbk.cell 44, ← hd, ← hnow]; rfl
      have e0 : w5.cell? ⟨g, 3 + d * 4, none⟩ = some (.string (bs (z2.place d).handle)) := (hbk.cell _).trans r0
      have e1 : w5.cell? ⟨g, 3 + d * 4 + 1, none⟩ = some (.int .i64 (z2.place d).gen) := (hbk.cell _).trans r1
      have hd0 : (0 : Int) ≤ (d : Int) := by omega
      have hd1 : (d : Int) < 4 := by omega
      have hgen : (z2.place d).gen ≤ 9223372036854775807 := by rw [← hpl, hat]; exact (hG.at_ _).gen
      have hll := hL.look (hT5.to.mono fun k _ hk => by subst hk; exact hT5.cl.fg)
      have KT := Lib.hid (fun (V : World) (h : Below w5.heap.size w5 V) => textT_any (z2.place d).gen V hgen (hll.below h))
      have hX : XStb g bx bt w5 w5.drew := XStb.start (hT5.xb.thereB 1 1 (by rw [Call.len]; omega)) (hT5.tb.thereB 1 1 (by rw [Call.len]; omega)) (hT5.xb.thereB 3 1 (by rw [Call.len]; omega)) (hT5.tb.thereB 3 1 (by rw [Call.len]; omega))
      have HX := Lib.hid hX
      have hg5 := Lib.hid (show g < w5.drew.heap.size from hbk.lt)
      have HZ := Lib.hid (show c.at_ p.dir = z2.place d by rw [hd, ← hat, hpl])
      have HT5 := Lib.hid hT5
      have hgx := Lib.hid (show g ≠ bx by have := hT5.lx; omega)
      have hgt := Lib.hid (show g ≠ bt by have := hT5.lt; omega)
      clear r0 r1 r2 r3 hbk hll hX hT5 hpl hgen
      go_wp2_with fail
      go_region_held3 (fun U => XStb g bx bt w5 U) (first | exact HX.out | with_reducible assumption | exact XStb.puts (by assumption) hgx.out hg6.out | exact XStb.puts (XStb.puts (by assumption) hgx.out hg6.out) hgt.out (by rw [putsW_size]; exact hg6.out)) (first
        | (go_at_call 85; refine (KT.out _ (Below.refl _ _).drew).mono ?_; rintro e w6 ⟨rfl, hb6⟩; have hS6 : XStb g bx bt w5 w6 := XStb.call HX.out hg5.out hb6; have hg6 := Lib.hid (show g < w6.heap.size from Nat.lt_of_lt_of_le hg5.out hb6.size))
        | fail)
      have HB6 := Lib.hid hb6
      clear hS6 hb6
      go_wp2
      go_meet
      case rel =>
        rw [HZ.out]
        exact (HT5.out.below (below_then (Below.refl _ _).drew HB6.out)).put1 HF.out _ _
  case rest =>
  obtain ⟨x1, hx1⟩ : ∃ x, x = (if b1 then { p.c with fh := (c.at_ p.dir).handle } else p.c) := ⟨_, rfl⟩
  obtain ⟨t1, ht1⟩ : ∃ x, x = (if b1 then { p.c with fh := genText (c.at_ p.dir).gen } else p.c) := ⟨_, rfl⟩
  rw [← hx1, ← ht1] at hcut
  have hpr : x1.proc = p.c.proc := by rw [hx1]; cases b1 <;> rfl
  have HX1 := Lib.hid (And.intro hx1 ht1)
  clear hx1 ht1 hT5
  have x0 : wc.cell? ⟨bx, 0, none⟩ = some (.int .i64 p.c.proc) := by rw [← hpr]; exact hcut.xb.cell 0
  have HTW := Lib.hid hcut
  clear hcut
  have KH : ∀ W, Calls Tryz.prog 84 #[.int .i64 p.c.proc, .int .i32 70] W fun e w' => e = .returned (.bool (hasC p.c.proc 70)) ∧ Below W.heap.size W w' := fun W => has33_any p.c.proc 70 (by decide) W
  replace KH := Lib.hid KH
  go_wp2_with fail
  refine (KH.out _).mono ?_
  rintro e w5 ⟨rfl, hb5⟩
  have hT5 := HTW.out.below hb5
  clear hb5 x0 KH HTW
  generalize hmb2 : hasC p.c.proc 70 = b2 at *
  go_upto_if 77 with fail
  go_cut [] from 78 to 102 (fun wx => TwoC F g bx bt c2 z2 l w (if b2 then { x1 with fh2 := (c.at_ p.to_).handle } else x1) (if b2 then { t1 with fh2 := genText (c.at_ p.to_).gen } else t1) wx)
  case first =>
    cases b2
    case false =>
      have HT5 := Lib.hid hT5
      clear hT5
      go_wp2
      go_meet
      case rel =>
        exact HT5.out
    case true =>
      have hbk := hT5.cl.blk
      obtain ⟨r0, r1, r2, r3⟩ := place_cells z2 hq4
      have hpl := hT5.cl.is.at_ hq4
      have c44 : w5.cell? ⟨g, 45, none⟩ = some (.int .i64 q) := by rw [hbk.cell 45, ← hq, ← hnow]; rfl
      have e0 : w5.cell? ⟨g, 3 + q * 4, none⟩ = some (.string (bs (z2.place q).handle)) := (hbk.cell _).trans r0
      have e1 : w5.cell? ⟨g, 3 + q * 4 + 1, none⟩ = some (.int .i64 (z2.place q).gen) := (hbk.cell _).trans r1
      have hd0 : (0 : Int) ≤ (q : Int) := by omega
      have hd1 : (q : Int) < 4 := by omega
      have hgen : (z2.place q).gen ≤ 9223372036854775807 := by rw [← hpl, hat]; exact (hG.at_ _).gen
      have hll := hL.look (hT5.to.mono fun k _ hk => by subst hk; exact hT5.cl.fg)
      have KT := Lib.hid (fun (V : World) (h : Below w5.heap.size w5 V) => textT_any (z2.place q).gen V hgen (hll.below h))
      have hX : XStb g bx bt w5 w5.drew := XStb.start (hT5.xb.thereB 1 1 (by rw [Call.len]; omega)) (hT5.tb.thereB 1 1 (by rw [Call.len]; omega)) (hT5.xb.thereB 3 1 (by rw [Call.len]; omega)) (hT5.tb.thereB 3 1 (by rw [Call.len]; omega))
      have HX := Lib.hid hX
      have hg5 := Lib.hid (show g < w5.drew.heap.size from hbk.lt)
      have HZ := Lib.hid (show c.at_ p.to_ = z2.place q by rw [hq, ← hat, hpl])
      have HT5 := Lib.hid hT5
      have hgx := Lib.hid (show g ≠ bx by have := hT5.lx; omega)
      have hgt := Lib.hid (show g ≠ bt by have := hT5.lt; omega)
      clear r0 r1 r2 r3 hbk hll hX hT5 hpl hgen
      go_wp2_with fail
      go_region_held3 (fun U => XStb g bx bt w5 U) (first | exact HX.out | with_reducible assumption | exact XStb.puts (by assumption) hgx.out hg6.out | exact XStb.puts (XStb.puts (by assumption) hgx.out hg6.out) hgt.out (by rw [putsW_size]; exact hg6.out)) (first
        | (go_at_call 85; refine (KT.out _ (Below.refl _ _).drew).mono ?_; rintro e w6 ⟨rfl, hb6⟩; have hS6 : XStb g bx bt w5 w6 := XStb.call HX.out hg5.out hb6; have hg6 := Lib.hid (show g < w6.heap.size from Nat.lt_of_lt_of_le hg5.out hb6.size))
        | fail)
      have HB6 := Lib.hid hb6
      clear hS6 hb6
      go_wp2
      go_meet
      case rel =>
        rw [HZ.out]
        exact (HT5.out.below (below_then (Below.refl _ _).drew HB6.out)).put3 HF.out _ _
  case rest =>
  have hX2 : (if b2 then { x1 with fh2 := (c.at_ p.to_).handle } else x1) = c.sends p := by
    unfold ClD.sends
    rw [hmb1, hmb2, HX1.out.1]
  have hT2 : (if b2 then { t1 with fh2 := genText (c.at_ p.to_).gen } else t1) = c.tells p := by
    unfold ClD.tells
    rw [hmb1, hmb2, HX1.out.2]
  rw [hX2, hT2] at hcut
  clear hX2 hT2 hT5 HX1
  obtain ⟨sx, hsx⟩ : ∃ x, x = c.sends p := ⟨_, rfl⟩
  obtain ⟨tx, htx⟩ : ∃ x, x = c.tells p := ⟨_, rfl⟩
  rw [← hsx, ← htx] at hcut
  apply_assumption
  exact next33_t1 F w g bx bt c c2 z2 l step now p ps sx tx (putBytes (c.message p)) hgl hp hG hpg hnow hrl hnw Hc2 (Lib.hid hsx) (Lib.hid htx) (Lib.hid rfl) wc hcut _ _ _ _ _ _ _ _ _ _ _ _ _ _ _ _ _ _ _ _ _ _ _ _ _ _ _ _ _ _ _ _ _ _ _ _ _ _ _ _ _ _ _ _ _ _ _ _ _ _ _ _ _ _ _ _ _ _ _ _ _ _ _ _ _ _ _ _ _ _ _ _ _ _ _ _ _ _ _ _ _ _ _ _ _ _ _ _ _ _ _ _ _ _ _ _ _ _ _ _ _ _ _ _ _ _ _ _ _ _ _ _ _ _ _ _ _ _ _ _ _ _ _ _ _ _ _ _ _ _ _ _ _ _ _ _ _ _ _ _ _ _ _ _ _ _ _ _ _ _ _ _ _ _ _ _ _ _ _ _ _ _ _ _ _ _ _ _ _ _ _ _ _ _ _ _ _ _ _ _ _
theorem next33_any (g : Nat) : NextK g := by
  intro F w c z l hC hG hL hrl step now htm
  cases hp : c.parts with
  | nil =>
    refine (next33_a F w g c z l hC step now hp).mono ?_
    rintro e w' ⟨rfl, rfl⟩
    have h : c.next step now = (c, []) := by unfold ClD.next; rw [hp]
    rw [h]
    exact ⟨_, rfl, RowS.none_, ⟨F, z, l, hC, fun k hk => .inl hk⟩, Touch.refl _ _⟩
  | cons p ps =>
    have h : 0 ≤ now ∧ now ≤ 1099511627776 := by simpa [timedC] using htm
    exact next33_b F w g c z l hC step now p ps hp hG hL hrl h
end Go.Proofs.YtfjflkmhhbhceaaGreatDoor



/-
  Layer 33, walks: whether a client is busy; of no client there is nothing. No condition.
-/
namespace Go.Proofs.YtfjflkmhhbhceaaGreatDoor
open Go.RowKit
attribute [local go_sem ↓] Go.wp_at_zero Go.wp_at_succ
attribute [local go_sem] rowAt_ptr rowOf_drew rowOf_drewN rowOf_alloc_past rowOf_new
theorem busy33_any (F : Nat → Prop) (w : World) (g : Nat) (c : ClD) (z : Clnt) (l : List Recd) (hC : ClAt F w g c z l) : Calls Tryz.prog 16 #[.pointer (some ⟨g, 0, none⟩)] w fun e w' => e = .returned (.bool c.busy) ∧ w' = w := by
  have c49 : w.cell? ⟨g, 49, none⟩ = some (.bool c.busy) := by rw [hC.blk.cell 49, ← hC.is.busy]; rfl
  generalize c.busy = b at *
  clear hC
  go_enter Tryz.func16, Tryz.ntmps16
  go_wp2
  go_ret
  exact ⟨rfl, rfl⟩
end Go.Proofs.YtfjflkmhhbhceaaGreatDoor

/-
  Layer 8, walks: results that may be are told to be by the document's Check: the walk. Condition: what Check asks.
-/
import Derived.Test.YtgifmpobokaejaaGreatDoorF37
namespace Go.Proofs.YtgifmpobokaejaaGreatDoor
open Go.RowKit
open Go.RowKit
attribute [local go_sem ↓] Go.wp_at_zero Go.wp_at_succ
attribute [local go_sem] rowAt_ptr rowOf_drew rowOf_drewN rowOf_alloc_past rowOf_new
attribute [local go_sem ↓] ldPost ldWcc neqPostZ20

attribute [local go_sem] guardPost20

attribute [local go_sem ↓] neqWccZ8

attribute [local go_sem] guardWccF

set_option maxRecDepth 20000 in
set_option maxHeartbeats 6400000 in
theorem refCheck8_yes (p : Int) (z : Reply) (es : List Entry) (us : List Int) (w : World) (hes : z.en = es.length) (hus : z.un = us.length) (hE : At w 15 z.ea (es.map Entry.vals)) (hU : At w 1 z.ua (us.map int1)) (hok : RepOk (pFields p (z.status == 0)) z es us) :
    Calls Tryz.prog 17 #[.int .i64 p, .agg z.vals.toArray] w fun e w' => e = .returned (.bool true) ∧ Below w.heap.size w w' := by
  have bZ := Blk.new w 48 z.vals
  have hB : Below w.heap.size w (w.alloc (.cells z.vals.toArray 48)) := (Below.refl _ _).alloc (Nat.le_refl _) _
  obtain ⟨w1, hw1⟩ : ∃ V, V = w.alloc (.cells z.vals.toArray 48) := ⟨_, rfl⟩
  rw [← hw1] at bZ hB
  have HW1 := Lib.hid hw1
  have HB := Lib.hid hB
  have HE := Lib.hid (hE.below hB)
  have HU := Lib.hid (hU.below hB)
  have c0 : w1.cell? ⟨w.heap.size, 0, none⟩ = some (.int .i64 z.status) := bZ.cell 0
  have HbZ := Lib.hid bZ
  have HEN := Lib.hid (And.intro hes hus)
  have KK := Lib.hid (fun W => (show Calls Tryz.prog 45 #[.int .i64 z.status] W fun e w' => e = .returned (.bool true) ∧ Below W.heap.size W w' by
    have := refKnown8_any z.status W
    rw [hok.st] at this
    exact this))
  have KF := Lib.hid (fun W => refFields8_any p (z.status == 0) W)
  obtain ⟨o1, o2, o3, o4⟩ := hok.oks
  have KP1 := Lib.hid (fun W => (show Calls Tryz.prog 47 #[.agg z.obj.vals.toArray] W fun e w' => e = .returned (.bool true) ∧ Below W.heap.size W w' by have := refPost5_any z.obj W; rw [o1] at this; exact this))
  have KP2 := Lib.hid (fun W => (show Calls Tryz.prog 47 #[.agg z.dir.vals.toArray] W fun e w' => e = .returned (.bool true) ∧ Below W.heap.size W w' by have := refPost5_any z.dir W; rw [o2] at this; exact this))
  have KP3 := Lib.hid (fun W => (show Calls Tryz.prog 48 #[.agg z.wcc.vals.toArray] W fun e w' => e = .returned (.bool true) ∧ Below W.heap.size W w' by have := refWcc5_any z.wcc W; rw [o3] at this; exact this))
  have KP4 := Lib.hid (fun W => (show Calls Tryz.prog 48 #[.agg z.wcc2.vals.toArray] W fun e w' => e = .returned (.bool true) ∧ Below W.heap.size W w' by have := refWcc5_any z.wcc2 W; rw [o4] at this; exact this))
  have hLl : (pFields p (z.status == 0)).length ≤ 1000 := by
    rcases pFields_cases p with h | h | h | h | h | h | h | h | h | h | h | h | h | h | h | h | h | h | h | h | h | h | h | h
    · rw [pFields_low h]; exact Nat.zero_le _
    · rw [pFields_high h]; exact Nat.zero_le _
    all_goals
      subst h
      cases (z.status == 0) <;> decide
  generalize pFields p (z.status == 0) = L at *
  obtain ⟨hB8, hhB⟩ : ∃ f : Int → Bool, ∀ n, f n = inL L (UInt8.ofNat n.toNat) := ⟨_, fun _ => rfl⟩
  have KH := Lib.hid (fun (n : Int) (h0 : 0 ≤ n) (h1 : n < 256) W => (show Calls Tryz.prog 49 #[.string (bs L), .int .u8 n] W fun e w' => e = .returned (.bool (hB8 n)) ∧ W = w' by
    have h := refHas8_any L (UInt8.ofNat n.toNat) W hLl
    have e : ((UInt8.ofNat n.toNat).toNat : Int) = n := by
      rw [UInt8.toNat_ofNat']
      omega
    rw [e] at h
    rw [hhB]
    exact h))
  obtain ⟨hpo, htx, hnu, hin, hen⟩ := And.intro hok.posts (And.intro hok.texts (And.intro hok.nums (And.intro hok.ints hok.ents)))
  have e97 : inL L 97 = hB8 97 := (hhB 97).symm
  have e68 : inL L 68 = hB8 68 := (hhB 68).symm
  have e119 : inL L 119 = hB8 119 := (hhB 119).symm
  have e87 : inL L 87 = hB8 87 := (hhB 87).symm
  have e104 : inL L 104 = hB8 104 := (hhB 104).symm
  have e100 : inL L 100 = hB8 100 := (hhB 100).symm
  have e101 : inL L 101 = hB8 101 := (hhB 101).symm
  have e110 : inL L 110 = hB8 110 := (hhB 110).symm
  have e120 : inL L 120 = hB8 120 := (hhB 120).symm
  have e99 : inL L 99 = hB8 99 := (hhB 99).symm
  have e115 : inL L 115 = hB8 115 := (hhB 115).symm
  have e118 : inL L 118 = hB8 118 := (hhB 118).symm
  have e108 : inL L 108 = hB8 108 := (hhB 108).symm
  have e112 : inL L 112 = hB8 112 := (hhB 112).symm
  rw [e97, e68, e119, e87] at hpo
  rw [e104, e100, e101] at htx
  rw [e110] at hnu
  rw [e120, e99, e115, e118] at hin
  rw [e108, e112] at hen
  have KN1 := Lib.hid (fun W => refNumOk8 (hB8 120) z.access 4294967295 hin.1 W)
  have KN2 := Lib.hid (fun W => refNumOk8 (hB8 99) z.count 4294967295 hin.2.1 W)
  have KN3 := Lib.hid (fun W => refNumOk8 (hB8 115) z.stable 4294967295 hin.2.2.1 W)
  have KN4 := Lib.hid (fun W => refNumOk8 (hB8 118) z.verf 9223372036854775807 hin.2.2.2 W)
  have KE := Lib.hid (fun W (h : Below w1.heap.size w1 W) => refEntsOk8 (hB8 108) (hB8 112) z.ea z.ec es hen W (HE.out.below h))
  have s97 : hB8 97 = true ∨ (hB8 97 = false ∧ decide (z.obj ≠ postZ8) = false) := by
    cases h : hB8 97
    · exact .inr ⟨rfl, decide_eq_false (fun h2 => h2 (hpo.1 h))⟩
    · exact .inl rfl
  have s68 : hB8 68 = true ∨ (hB8 68 = false ∧ decide (z.dir ≠ postZ8) = false) := by
    cases h : hB8 68
    · exact .inr ⟨rfl, decide_eq_false (fun h2 => h2 (hpo.2.1 h))⟩
    · exact .inl rfl
  have s119 : hB8 119 = true ∨ (hB8 119 = false ∧ decide (z.wcc ≠ wccZ8) = false) := by
    cases h : hB8 119
    · exact .inr ⟨rfl, decide_eq_false (fun h2 => h2 (hpo.2.2.1 h))⟩
    · exact .inl rfl
  have s87 : hB8 87 = true ∨ (hB8 87 = false ∧ decide (z.wcc2 ≠ wccZ8) = false) := by
    cases h : hB8 87
    · exact .inr ⟨rfl, decide_eq_false (fun h2 => h2 (hpo.2.2.2 h))⟩
    · exact .inl rfl
  have s104 : hB8 104 = true ∨ (hB8 104 = false ∧ z.fh = []) := by
    cases h : hB8 104
    · exact .inr ⟨rfl, htx.2.1 h⟩
    · exact .inl rfl
  have s100 : hB8 100 = true ∨ (hB8 100 = false ∧ z.data = []) := by
    cases h : hB8 100
    · exact .inr ⟨rfl, htx.2.2.2.1 h⟩
    · exact .inl rfl
  have s101 : hB8 101 = true ∨ (hB8 101 = false ∧ z.eof = false) := by
    cases h : hB8 101
    · exact .inr ⟨rfl, htx.2.2.2.2 h⟩
    · exact .inl rfl
  have s110 : hB8 110 = true ∨ (hB8 110 = false ∧ us = []) := by
    cases h : hB8 110
    · exact .inr ⟨rfl, hnu.2.1 h⟩
    · exact .inl rfl
  have HS8 := Lib.hid (And.intro s97 (And.intro s68 (And.intro s119 s87)))
  have HS10 := Lib.hid (And.intro s104 (And.intro s100 (And.intro s101 s110)))
  have hfl := htx.1
  have hdl := htx.2.2.1
  have hul := hnu.1
  have HU0 := Lib.hid hnu.2.2
  clear e97 e68 e119 e87 e104 e100 e101 e110 e120 e99 e115 e118 e108 e112 hhB s97 s68 s119 s87 s104 s100 s101 s110
  clear hw1 hB hE hU bZ hes hus hok o1 o2 o3 o4 hpo htx hnu hin hen hLl
  go_enter Tryz.func17, Tryz.ntmps17
  go_upto_region 1 with fail
  change Code.wp _ _ _ _ (w.alloc (.cells z.vals.toArray 48))
  rw [← HW1.out]
  go_wp2_with fail
  refine (KK.out _).mono ?_
  rintro e w2 ⟨rfl, hb⟩
  replace c0 : w2.cell? ⟨w.heap.size, 0, none⟩ = some (.int .i64 z.status) := (HbZ.out.stays hb).cell 0
  have HbZ2 := Lib.hid (HbZ.out.stays hb)
  have H2 := Lib.hid hb
  clear hb KK
  go_wp2_with fail
  refine (KF.out _).mono ?_
  rintro e w3 ⟨rfl, hb⟩
  have bZ3 := HbZ2.out.stays hb
  have r1 : rowOf w3 w.heap.size 2 11 = some z.obj.vals.toArray := bZ3.row 2 11 (by rw [Reply.len]; omega)
  have HbZ3 := Lib.hid bZ3
  have H3 := Lib.hid (below_then H2.out hb)
  clear hb KF c0 bZ3 HbZ2
  go_upto_region 6 with fail
  go_wp2_with fail
  refine (KP1.out _).mono ?_
  rintro e w4 ⟨rfl, hb⟩
  have bZ4 := HbZ3.out.stays hb
  have r2 : rowOf w4 w.heap.size 13 11 = some z.dir.vals.toArray := bZ4.row 13 11 (by rw [Reply.len]; omega)
  have H4 := Lib.hid (below_then H3.out hb)
  have HbZ4 := Lib.hid bZ4
  clear hb KP1 r1 bZ4 HbZ3
  go_wp2_with fail
  refine (KP2.out _).mono ?_
  rintro e w5 ⟨rfl, hb⟩
  have bZ5 := HbZ4.out.stays hb
  have r3 : rowOf w5 w.heap.size 24 13 = some z.wcc.vals.toArray := bZ5.row 24 13 (by rw [Reply.len]; omega)
  have H5 := Lib.hid (below_then H4.out hb)
  have HbZ5 := Lib.hid bZ5
  clear hb KP2 r2 bZ5 HbZ4
  go_wp2_with fail
  refine (KP3.out _).mono ?_
  rintro e w6 ⟨rfl, hb⟩
  have bZ6 := HbZ5.out.stays hb
  have r4 : rowOf w6 w.heap.size 37 13 = some z.wcc2.vals.toArray := bZ6.row 37 13 (by rw [Reply.len]; omega)
  have H6 := Lib.hid (below_then H5.out hb)
  have HbZ6 := Lib.hid bZ6
  clear hb KP3 r3 bZ6 HbZ5
  go_wp2_with fail
  refine (KP4.out _).mono ?_
  rintro e w7 ⟨rfl, hb⟩
  have bZ7 := HbZ6.out.stays hb
  have r1 : rowOf w7 w.heap.size 2 11 = some z.obj.vals.toArray := bZ7.row 2 11 (by rw [Reply.len]; omega)
  have r2 : rowOf w7 w.heap.size 13 11 = some z.dir.vals.toArray := bZ7.row 13 11 (by rw [Reply.len]; omega)
  have r3 : rowOf w7 w.heap.size 24 13 = some z.wcc.vals.toArray := bZ7.row 24 13 (by rw [Reply.len]; omega)
  have r4 : rowOf w7 w.heap.size 37 13 = some z.wcc2.vals.toArray := bZ7.row 37 13 (by rw [Reply.len]; omega)
  have H7 := Lib.hid (below_then H6.out hb)
  have hlZ := bZ7.lt
  have HbZ7 := Lib.hid bZ7
  clear hb KP4 bZ7 HbZ6
  go_upto_region 8 with fail
  go_cut [81] from 40 (fun v wx => v = .bool false ∧ wx = w7)
  case first =>
    obtain ⟨s97, s68, s119, s87⟩ := HS8.out
    rcases s97 with h97 | ⟨h97, d97⟩ <;> rcases s68 with h68 | ⟨h68, d68⟩ <;> rcases s119 with h119 | ⟨h119, d119⟩ <;> rcases s87 with h87 | ⟨h87, d87⟩
    all_goals as_aux_lemma =>
      go_wp2_with (first | (go_at_call 49; refine (KH.out _ (by decide) (by decide) _).mono ?_; rintro e W ⟨rfl, rfl⟩) | fail)
      go_meet
      case rel => exact ⟨rfl, rfl⟩
  obtain ⟨rfl, rfl⟩ := hcut
  clear r1 r2 r3 r4 HS8
  have f1 : wc.cell? ⟨w.heap.size, 1, none⟩ = some (.string (bs z.fh)) := HbZ7.out.cell 1
  have f53 : wc.cell? ⟨w.heap.size, 53, none⟩ = some (.string (bs z.data)) := HbZ7.out.cell 53
  have f52 : wc.cell? ⟨w.heap.size, 52, none⟩ = some (.bool z.eof) := HbZ7.out.cell 52
  have f57 : wc.cell? ⟨w.heap.size, 57, none⟩ = some (.slice z.ua us.length z.uc) := by rw [HbZ7.out.cell 57, ← HEN.out.2]; rfl
  have hsf := bs_size z.fh
  have hsd := bs_size z.data
  have i1 : decide ((64 : Int) < (z.fh.length : Int)) = false := decide_eq_false (by omega)
  have i2 : decide ((256 : Int) < (z.data.length : Int)) = false := decide_eq_false (by omega)
  have i3 : decide ((16 : Int) < (us.length : Int)) = false := decide_eq_false (by omega)
  have i4 : decide (64 < z.fh.length) = false := decide_eq_false (by omega)
  have i5 : decide (256 < z.data.length) = false := decide_eq_false (by omega)
  have i6 : decide (16 < us.length) = false := decide_eq_false (by omega)
  have hz : (bs ([] : List UInt8)) = ⟨#[]⟩ := rfl
  have HZ := Lib.hid hz
  clear hz
  go_upto_region 10 with fail
  go_cut [137] from 82 (fun v wx => v = .bool false ∧ wx = wc)
  case first =>
    obtain ⟨s104, s100, s101, s110⟩ := HS10.out
    clear HU0 HU HE HEN KE HbZ7 H7
    rcases s104 with h104 | ⟨h104, d104⟩ <;> rcases s100 with h100 | ⟨h100, d100⟩ <;> rcases s101 with h101 | ⟨h101, d101⟩ <;> rcases s110 with h110 | ⟨h110, d110⟩
    all_goals as_aux_lemma =>
      try rw [d104, HZ.out] at f1
      try rw [d100, HZ.out] at f53
      try rw [d101] at f52
      try rw [d110] at f57
      try clear d104
      try clear d100
      try clear d101
      try clear d110
      go_wp2_with (first | (go_at_call 49; refine (KH.out _ (by decide) (by decide) _).mono ?_; rintro e W ⟨rfl, rfl⟩) | fail)
      go_meet
      case rel => exact ⟨rfl, rfl⟩
  obtain ⟨rfl, rfl⟩ := hcut
  clear f1 f53 f52 HS10 i1 i2 i4 i5 hsf hsd
  have g50 : wc.cell? ⟨w.heap.size, 50, none⟩ = some (.int .i64 z.access) := HbZ7.out.cell 50
  have g51 : wc.cell? ⟨w.heap.size, 51, none⟩ = some (.int .i64 z.count) := HbZ7.out.cell 51
  have g54 : wc.cell? ⟨w.heap.size, 54, none⟩ = some (.int .i64 z.stable) := HbZ7.out.cell 54
  have g55 : wc.cell? ⟨w.heap.size, 55, none⟩ = some (.int .i64 z.verf) := HbZ7.out.cell 55
  have g56 : wc.cell? ⟨w.heap.size, 56, none⟩ = some (.slice z.ea es.length z.ec) := by rw [HbZ7.out.cell 56, ← HEN.out.1]; rfl
  have hA := HU.out.below H7.out
  have HA := Lib.hid hA
  clear hA HU
  generalize z.access = na at *
  generalize z.count = nc at *
  generalize z.stable = nt at *
  generalize z.verf = nv at *
  have hlw := hlZ
  clear i3 i6
  go_wp2
  go_loopw [8] (fun i wr => ∃ k : Nat, k ≤ us.length ∧ i = .int .i64 k ∧ wr = wc) (fun i _ => us.length - (intOf i).toNat)
  case atStart => exact ⟨0, Nat.zero_le _, rfl, rfl⟩
  case round =>
    obtain ⟨k, hk, rfl, rfl⟩ := hrel
    have hk0 : (0 : Int) ≤ (k : Int) := Int.natCast_nonneg _
    by_cases hlt : k < us.length
    · have hk1 : (k : Int) < (us.length : Int) := by omega
      have hiw : IntKind.i64.wrap ((k : Int) + 1) = ((k + 1 : Nat) : Int) := by rw [IntWalk.i64_in _ (by omega)]; omega
      obtain ⟨b, off, hua, hb1, -, cc⟩ := rowCell8 (vals := int1) (fun _ => rfl) (by decide) HA.out hlt
      have cu : World.cell? _ ⟨b, off + k * 1, none⟩ = some (.int .i64 us[k]) := cc 0 _ rfl
      rw [Nat.mul_one] at cu
      rw [hua] at f57
      have hu0 := HU0.out _ (List.getElem_mem hlt)
      generalize us[k] = u at *
      have hud : decide (u < 0) = false := decide_eq_false (by omega)
      clear cc hua
      go_wp2
      go_roundw
      case rel => exact ⟨k + 1, by omega, by first | rfl | go_num, by first | rfl | trivial⟩
      case measure => simp [intOf]; omega
    · obtain rfl : k = us.length := by omega
      have hlm : ¬ (us.length : Int) < (us.length : Int) := by omega
      go_wp2_with fail
      go_region_held3 (fun W => Stb wr W) (first | exact Stb.start | assumption | (exact Stb.alloc (by assumption) _) | (exact Stb.call (by assumption) (by assumption))) (first
        | (go_at_call 49; refine (KH.out _ (by decide) (by decide) _).mono ?_; rintro e W ⟨rfl, rfl⟩)
        | (go_at_call_of 50 (na); refine (KN1.out _).mono ?_; rintro e W ⟨rfl, rfl⟩)
        | (go_at_call_of 50 (nc); refine (KN2.out _).mono ?_; rintro e W ⟨rfl, rfl⟩)
        | (go_at_call_of 50 (nt); refine (KN3.out _).mono ?_; rintro e W ⟨rfl, rfl⟩)
        | (go_at_call_of 50 (nv); refine (KN4.out _).mono ?_; rintro e W ⟨rfl, rfl⟩)
        | (go_at_call 51; refine (KE.out _ (below_then H7.out (Stb.below (by assumption)))).mono ?_; rintro e we ⟨rfl, hbe⟩))
      all_goals
        have hst := (by assumption : Stb wr _)
        have HF := Lib.hid (below_then (below_then HB.out H7.out) hst.below)
        clear hst
        go_wp2
        go_ret
        exact ⟨rfl, HF.out⟩
end Go.Proofs.YtgifmpobokaejaaGreatDoor

/-
  Layer 8, walks: the document's Bytes of results (written by wip/tools/genbytes8.py). Conditions: the results may be; their numbers are machine numbers.
-/
import Derived.Test.YtfjflkmhhbhceaaGreatDoorW23
import Derived.Test.YtfjflkmhhbhceaaGreatDoorW45
namespace Go.Proofs.YtfjflkmhhbhceaaGreatDoor
open Go.RowKit
attribute [local go_sem ↓] Go.wp_at_zero Go.wp_at_succ
attribute [local go_sem] rowAt_ptr rowOf_drew rowOf_drewN rowOf_alloc_past rowOf_new
attribute [local go_sem ↓] ldReply ldPost ldWcc ldEntry

attribute [local go_sem] Reply.at0 Reply.lat0 Reply.at1 Reply.lat1 Reply.at2 Reply.lat2 Reply.at3 Reply.lat3 Reply.at4 Reply.lat4 Reply.at5 Reply.lat5 Reply.at6 Reply.lat6 Reply.at7 Reply.lat7 Reply.at8 Reply.lat8 Reply.at9 Reply.lat9 Reply.at10 Reply.lat10 Reply.at11 Reply.lat11 Reply.at12 Reply.lat12 Reply.at13 Reply.lat13 Reply.at14 Reply.lat14 Reply.at15 Reply.lat15 Reply.at16 Reply.lat16 Reply.at17 Reply.lat17 Reply.at18 Reply.lat18 Reply.at19 Reply.lat19 Reply.at20 Reply.lat20 Reply.at21 Reply.lat21 Reply.at22 Reply.lat22 Reply.at23 Reply.lat23 Reply.at24 Reply.lat24 Reply.at25 Reply.lat25 Reply.at26 Reply.lat26 Reply.at27 Reply.lat27 Reply.at28 Reply.lat28 Reply.at29 Reply.lat29 Reply.at30 Reply.lat30 Reply.at31 Reply.lat31 Reply.at32 Reply.lat32 Reply.at33 Reply.lat33 Reply.at34 Reply.lat34 Reply.at35 Reply.lat35 Reply.at36 Reply.lat36 Reply.at37 Reply.lat37 Reply.at38 Reply.lat38 Reply.at39 Reply.lat39 Reply.at40 Reply.lat40 Reply.at41 Reply.lat41 Reply.at42 Reply.lat42 Reply.at43 Reply.lat43 Reply.at44 Reply.lat44 Reply.at45 Reply.lat45 Reply.at46 Reply.lat46 Reply.at47 Reply.lat47 Reply.at48 Reply.lat48 Reply.at49 Reply.lat49 Reply.at50 Reply.lat50 Reply.at51 Reply.lat51 Reply.at52 Reply.lat52 Reply.at53 Reply.lat53 Reply.at54 Reply.lat54 Reply.at55 Reply.lat55 Reply.at56 Reply.lat56 Reply.at57 Reply.lat57 Reply.sub0_58 Reply.lsub0_58 Reply.sub2_11 Reply.lsub2_11 Reply.sub3_10 Reply.lsub3_10 Reply.sub13_11 Reply.lsub13_11 Reply.sub14_10 Reply.lsub14_10 Reply.sub24_13 Reply.lsub24_13 Reply.sub24_2 Reply.lsub24_2 Reply.sub26_11 Reply.lsub26_11 Reply.sub27_10 Reply.lsub27_10 Reply.sub37_13 Reply.lsub37_13 Reply.sub37_2 Reply.lsub37_2 Reply.sub39_11 Reply.lsub39_11 Reply.sub40_10 Reply.lsub40_10 Reply.len Entry.at0 Entry.lat0 Entry.at1 Entry.lat1 Entry.at2 Entry.lat2 Entry.at3 Entry.lat3 Entry.at4 Entry.lat4 Entry.at5 Entry.lat5 Entry.at6 Entry.lat6 Entry.at7 Entry.lat7 Entry.at8 Entry.lat8 Entry.at9 Entry.lat9 Entry.at10 Entry.lat10 Entry.at11 Entry.lat11 Entry.at12 Entry.lat12 Entry.at13 Entry.lat13 Entry.at14 Entry.lat14 Entry.sub0_15 Entry.lsub0_15 Entry.sub3_11 Entry.lsub3_11 Entry.sub4_10 Entry.lsub4_10 Entry.len List.length_append

attribute [local go_sem ↓] add_bs

set_option maxRecDepth 20000 in
set_option maxHeartbeats 6400000 in
theorem refBytes8_any (p : Int) (z : Reply) (es : List Entry) (us : List Int) (w : World) (hes : z.en = es.length) (hus : z.un = us.length) (hE : At w 15 z.ea (es.map Entry.vals)) (hU : At w 1 z.ua (us.map int1)) (hs0 : 0 ≤ z.status) (hs1 : z.status ≤ 4294967295) (hM : ∀ k (hk : k < (pFields p (z.status == 0)).length), rM8 ⟨z.bare, es, us⟩ (pFields p (z.status == 0))[k].toNat) :
    Calls Tryz.prog 30 #[.int .i64 p, .agg z.vals.toArray] w fun e w' => e = .returned (.string (bs (num z.status.toNat 4 ++ pLaid ⟨z.bare, es, us⟩ (pFields p (z.status == 0)) (pFields p (z.status == 0)).length))) ∧ Below w.heap.size w w' := by
  have hb := Blk.new w 51 z.vals
  have hB : Below w.heap.size w (w.alloc (.cells z.vals.toArray 51)) := (Below.refl _ _).alloc (Nat.le_refl _) _
  have hc := hb.cell
  obtain ⟨st, hst0⟩ : ∃ n : Nat, z.status = n := ⟨z.status.toNat, by omega⟩
  have hstl : (st : Int) ≤ 9223372036854775807 := by omega
  rw [hst0, Int.toNat_natCast]
  rw [hst0] at hM
  have hlet := fun k (hk : k < (pFields p ((st : Int) == 0)).length) => (pFields_letter p _ hk).2
  have hsh := pFields_short p ((st : Int) == 0)
  have KF := Lib.hid (fun W => refFields8_any p ((st : Int) == 0) W)
  generalize pFields p ((st : Int) == 0) = l at *
  have hlen := pLaid_len ⟨z.bare, es, us⟩ l hlet hM
  have hsz := bs_size l
  go_enter Tryz.func30, Tryz.ntmps30
  go_wp2_with fail
  refine (KF.out _).mono ?_
  rintro e w1 ⟨rfl, hb1⟩
  have hX := hb.stays hb1
  have HB1 := Lib.hid (below_then hB hb1)
  have hE1 := (hE.below hB).below hb1
  have hU1 := (hU.below hB).below hb1
  have hcx := hX.cell
  have ra : rowOf w1 w.heap.size 2 11 = some z.obj.vals.toArray := hX.row 2 11 (by simp [Reply.len])
  have rD : rowOf w1 w.heap.size 13 11 = some z.dir.vals.toArray := hX.row 13 11 (by simp [Reply.len])
  have rw' : rowOf w1 w.heap.size 24 13 = some z.wcc.vals.toArray := hX.row 24 13 (by simp [Reply.len])
  have rW : rowOf w1 w.heap.size 37 13 = some z.wcc2.vals.toArray := hX.row 37 13 (by simp [Reply.len])
  have c56 : w1.cell? ⟨w.heap.size, 56, none⟩ = some (.slice z.ea es.length z.ec) := by rw [hX.cell 56, ← hes]; rfl
  have c57 : w1.cell? ⟨w.heap.size, 57, none⟩ = some (.slice z.ua us.length z.uc) := by rw [hX.cell 57, ← hus]; rfl
  have hlt := hX.lt
  clear hb hB hc hb1 hX hE hU KF
  have hcst : w1.cell? ⟨w.heap.size, 0, none⟩ = some (.int .i64 st) := by rw [hcx 0, ← hst0]; rfl
  go_wp2_with fail
  refine (refNum_any st 4 _ hstl (by decide)).mono ?_
  rintro e w2 ⟨rfl, hb2⟩
  have hst2 := Stb.of hb2
  have HW12 := Lib.hid hb2
  clear hb2
  have hn4 := num_len st 4
  obtain ⟨s0, hs00⟩ : ∃ s, s = num st 4 := ⟨_, rfl⟩
  rw [← hs00] at hn4 ⊢
  have HS0 := Lib.hid hs00
  clear hs00
  go_wp2
  go_loopw [6, 7] (fun sv iv wr => ∃ k : Nat, k ≤ l.length ∧ sv = .string (bs (s0 ++ pLaid ⟨z.bare, es, us⟩ l k)) ∧ iv = .int .i64 k ∧ Stb w1 wr) (fun _ iv _ => l.length - (intOf iv).toNat)
  case atStart => exact ⟨0, Nat.zero_le _, by simp [pLaid], rfl, hst2⟩
  case round =>
    clear hst2 HW12
    obtain ⟨k, hk, rfl, rfl, hst⟩ := hrel
    by_cases hlt2 : k < l.length
    · have hS := pLaid_succ ⟨z.bare, es, us⟩ l k hlt2
      have hm := hM k hlt2
      have hq : ((bs l)[k]'(by rw [hsz]; exact hlt2)).toNat = l[k].toNat := rfl
      have hl1 := hlen k (Nat.le_of_lt hlt2)
      have hx := hlet k hlt2
      have hl2 := rB8_len ⟨z.bare, es, us⟩ l[k].toNat hm hx
      generalize hcd : l[k].toNat = c at *
      have HS := Lib.hid (show s0 ++ pLaid ⟨z.bare, es, us⟩ l (k + 1) = s0 ++ pLaid ⟨z.bare, es, us⟩ l k ++ rB8 ⟨z.bare, es, us⟩ c by rw [hS, List.append_assoc])
      have hl3 : (s0 ++ pLaid ⟨z.bare, es, us⟩ l k).length ≤ 300000 := by rw [List.length_append, hn4]; omega
      clear hS hlen hlet hM hl1
      generalize s0 ++ pLaid ⟨z.bare, es, us⟩ l k = m at *
      have hz1 := bs_size m
      have hiw : IntKind.i64.wrap ((k : Int) + 1) = (k : Int) + 1 := IntWalk.i64_in _ (by omega)
      rcases hx with rfl | rfl | rfl | rfl | rfl | rfl | rfl | rfl | rfl | rfl | rfl | rfl | rfl | rfl
      · have hb3 : rB8 ⟨z.bare, es, us⟩ 104 = opq z.fh := rfl
        have hm : z.fh.length ≤ 64 := hm
        have hml : z.fh.length ≤ 1000000000 := by omega
        have hz2 := bs_size (rB8 ⟨z.bare, es, us⟩ 104)
        rw [hb3] at hz2 hl2 HS
        clear hm hb3 hE1 hU1
        go_wp2_with fail
        refine (refText_any z.fh _ hml).mono ?_
        rintro e w2 ⟨rfl, hb2⟩
        have hst2 := Lib.hid (hst.call hb2)
        clear hst hb2
        go_wp2
        go_roundw
        case rel => exact ⟨k + 1, by omega, by rw [HS.out]; try rw [bs_append], by go_num, hst2.out⟩
        case measure => simp [intOf]; omega
      · have hb3 : rB8 ⟨z.bare, es, us⟩ 97 = z.obj.bytes := rfl
        have hm : z.obj.ok = true ∧ z.obj.good := hm
        obtain ⟨m1, m2⟩ := hm
        have hz2 := bs_size (rB8 ⟨z.bare, es, us⟩ 97)
        rw [hb3] at hz2 hl2 HS
        clear hm hb3 hE1 hU1
        go_wp2_with fail
        refine (postBytes8_any z.obj _ m1 m2).mono ?_
        rintro e w2 ⟨rfl, hb2⟩
        have hst2 := Lib.hid (hst.call hb2)
        clear hst hb2
        go_wp2
        go_roundw
        case rel => exact ⟨k + 1, by omega, by rw [HS.out]; try rw [bs_append], by go_num, hst2.out⟩
        case measure => simp [intOf]; omega
      · have hb3 : rB8 ⟨z.bare, es, us⟩ 68 = z.dir.bytes := rfl
        have hm : z.dir.ok = true ∧ z.dir.good := hm
        obtain ⟨m1, m2⟩ := hm
        have hz2 := bs_size (rB8 ⟨z.bare, es, us⟩ 68)
        rw [hb3] at hz2 hl2 HS
        clear hm hb3 hE1 hU1
        go_wp2_with fail
        refine (postBytes8_any z.dir _ m1 m2).mono ?_
        rintro e w2 ⟨rfl, hb2⟩
        have hst2 := Lib.hid (hst.call hb2)
        clear hst hb2
        go_wp2
        go_roundw
        case rel => exact ⟨k + 1, by omega, by rw [HS.out]; try rw [bs_append], by go_num, hst2.out⟩
        case measure => simp [intOf]; omega
      · have hb3 : rB8 ⟨z.bare, es, us⟩ 119 = z.wcc.bytes := rfl
        have hm : z.wcc.ok = true ∧ z.wcc.good := hm
        obtain ⟨m1, m2⟩ := hm
        have hz2 := bs_size (rB8 ⟨z.bare, es, us⟩ 119)
        rw [hb3] at hz2 hl2 HS
        clear hm hb3 hE1 hU1
        go_wp2_with fail
        refine (wccBytes8_any z.wcc _ m1 m2).mono ?_
        rintro e w2 ⟨rfl, hb2⟩
        have hst2 := Lib.hid (hst.call hb2)
        clear hst hb2
        go_wp2
        go_roundw
        case rel => exact ⟨k + 1, by omega, by rw [HS.out]; try rw [bs_append], by go_num, hst2.out⟩
        case measure => simp [intOf]; omega
      · have hb3 : rB8 ⟨z.bare, es, us⟩ 87 = z.wcc2.bytes := rfl
        have hm : z.wcc2.ok = true ∧ z.wcc2.good := hm
        obtain ⟨m1, m2⟩ := hm
        have hz2 := bs_size (rB8 ⟨z.bare, es, us⟩ 87)
        rw [hb3] at hz2 hl2 HS
        clear hm hb3 hE1 hU1
        go_wp2_with fail
        refine (wccBytes8_any z.wcc2 _ m1 m2).mono ?_
        rintro e w2 ⟨rfl, hb2⟩
        have hst2 := Lib.hid (hst.call hb2)
        clear hst hb2
        go_wp2
        go_roundw
        case rel => exact ⟨k + 1, by omega, by rw [HS.out]; try rw [bs_append], by go_num, hst2.out⟩
        case measure => simp [intOf]; omega
      · have hb3 : rB8 ⟨z.bare, es, us⟩ 120 = num z.access.toNat 4 := rfl
        have hm : numM z.access := hm
        obtain ⟨n, hn⟩ : ∃ n : Nat, z.access = n := ⟨z.access.toNat, by have := hm.1; omega⟩
        rw [hn, Int.toNat_natCast] at hb3
        have hn2 : (n : Int) ≤ 9223372036854775807 := by have := hm.2; omega
        have hz2 := bs_size (rB8 ⟨z.bare, es, us⟩ 120)
        rw [hb3] at hz2 hl2 HS
        clear hm hb3 hE1 hU1
        go_wp2_with fail
        refine (refNum_any n 4 _ hn2 (by decide)).mono ?_
        rintro e w2 ⟨rfl, hb2⟩
        have hst2 := Lib.hid (hst.call hb2)
        clear hst hb2
        go_wp2
        go_roundw
        case rel => exact ⟨k + 1, by omega, by rw [HS.out]; try rw [bs_append], by go_num, hst2.out⟩
        case measure => simp [intOf]; omega
      · have hb3 : rB8 ⟨z.bare, es, us⟩ 99 = num z.count.toNat 4 := rfl
        have hm : numM z.count := hm
        obtain ⟨n, hn⟩ : ∃ n : Nat, z.count = n := ⟨z.count.toNat, by have := hm.1; omega⟩
        rw [hn, Int.toNat_natCast] at hb3
        have hn2 : (n : Int) ≤ 9223372036854775807 := by have := hm.2; omega
        have hz2 := bs_size (rB8 ⟨z.bare, es, us⟩ 99)
        rw [hb3] at hz2 hl2 HS
        clear hm hb3 hE1 hU1
        go_wp2_with fail
        refine (refNum_any n 4 _ hn2 (by decide)).mono ?_
        rintro e w2 ⟨rfl, hb2⟩
        have hst2 := Lib.hid (hst.call hb2)
        clear hst hb2
        go_wp2
        go_roundw
        case rel => exact ⟨k + 1, by omega, by rw [HS.out]; try rw [bs_append], by go_num, hst2.out⟩
        case measure => simp [intOf]; omega
      · have hb3 : rB8 ⟨z.bare, es, us⟩ 115 = num z.stable.toNat 4 := rfl
        have hm : numM z.stable := hm
        obtain ⟨n, hn⟩ : ∃ n : Nat, z.stable = n := ⟨z.stable.toNat, by have := hm.1; omega⟩
        rw [hn, Int.toNat_natCast] at hb3
        have hn2 : (n : Int) ≤ 9223372036854775807 := by have := hm.2; omega
        have hz2 := bs_size (rB8 ⟨z.bare, es, us⟩ 115)
        rw [hb3] at hz2 hl2 HS
        clear hm hb3 hE1 hU1
        go_wp2_with fail
        refine (refNum_any n 4 _ hn2 (by decide)).mono ?_
        rintro e w2 ⟨rfl, hb2⟩
        have hst2 := Lib.hid (hst.call hb2)
        clear hst hb2
        go_wp2
        go_roundw
        case rel => exact ⟨k + 1, by omega, by rw [HS.out]; try rw [bs_append], by go_num, hst2.out⟩
        case measure => simp [intOf]; omega
      · have hb3 : rB8 ⟨z.bare, es, us⟩ 118 = num z.verf.toNat 8 := rfl
        have hm : numM z.verf := hm
        obtain ⟨n, hn⟩ : ∃ n : Nat, z.verf = n := ⟨z.verf.toNat, by have := hm.1; omega⟩
        rw [hn, Int.toNat_natCast] at hb3
        have hn2 : (n : Int) ≤ 9223372036854775807 := by have := hm.2; omega
        have hz2 := bs_size (rB8 ⟨z.bare, es, us⟩ 118)
        rw [hb3] at hz2 hl2 HS
        clear hm hb3 hE1 hU1
        go_wp2_with fail
        refine (refNum_any n 8 _ hn2 (by decide)).mono ?_
        rintro e w2 ⟨rfl, hb2⟩
        have hst2 := Lib.hid (hst.call hb2)
        clear hst hb2
        go_wp2
        go_roundw
        case rel => exact ⟨k + 1, by omega, by rw [HS.out]; try rw [bs_append], by go_num, hst2.out⟩
        case measure => simp [intOf]; omega
      · have hb3 : rB8 ⟨z.bare, es, us⟩ 101 = truth z.eof := rfl
        have hz2 := bs_size (rB8 ⟨z.bare, es, us⟩ 101)
        rw [hb3] at hz2 hl2 HS
        clear hm hb3 hE1 hU1
        go_wp2_with fail
        refine (refTruth_any z.eof _).mono ?_
        rintro e w2 ⟨rfl, hb2⟩
        have hst2 := Lib.hid (hst.call hb2)
        clear hst hb2
        go_wp2
        go_roundw
        case rel => exact ⟨k + 1, by omega, by rw [HS.out]; try rw [bs_append], by go_num, hst2.out⟩
        case measure => simp [intOf]; omega
      · have hb3 : rB8 ⟨z.bare, es, us⟩ 100 = opq z.data := rfl
        have hm : z.data.length ≤ 256 := hm
        have hml : z.data.length ≤ 1000000000 := by omega
        have hz2 := bs_size (rB8 ⟨z.bare, es, us⟩ 100)
        rw [hb3] at hz2 hl2 HS
        clear hm hb3 hE1 hU1
        go_wp2_with fail
        refine (refText_any z.data _ hml).mono ?_
        rintro e w2 ⟨rfl, hb2⟩
        have hst2 := Lib.hid (hst.call hb2)
        clear hst hb2
        go_wp2
        go_roundw
        case rel => exact ⟨k + 1, by omega, by rw [HS.out]; try rw [bs_append], by go_num, hst2.out⟩
        case measure => simp [intOf]; omega
      · have hb3 : rB8 ⟨z.bare, es, us⟩ 110 = num us.length 4 ++ us.flatMap numB := rfl
        have hm : us.length ≤ 16 ∧ ∀ n ∈ us, numM n := hm
        obtain ⟨m1, m2⟩ := hm
        rw [hb3, ← List.append_assoc] at HS
        have KN := Lib.hid (fun W => refNum_any us.length 4 W (by omega) (by decide))
        have hn4' := num_len us.length 4
        generalize num us.length 4 = s4 at *
        have hz2 := bs_size s4
        have hml : (m ++ s4).length ≤ 300004 := by rw [List.length_append]; omega
        have hml2 : m.length + s4.length ≤ 9223372036854775807 := by omega
        clear hb3 hl2
        go_wp2_with fail
        refine (KN.out _).mono ?_
        rintro e w2 ⟨rfl, hb2⟩
        have hst2 := Lib.hid (hst.call hb2)
        clear hst hb2
        go_wp2
        go_loopw [6, 8] (fun sv jv wr => ∃ j : Nat, j ≤ us.length ∧ sv = .string (bs (m ++ s4 ++ (us.take j).flatMap numB)) ∧ jv = .int .i64 j ∧ Stb w1 wr) (fun _ jv _ => us.length - (intOf jv).toNat)
        case atStart => exact ⟨0, Nat.zero_le _, by simp [bs_append], rfl, hst2.out⟩
        case round =>
          clear hst2
          obtain ⟨j, hj, rfl, rfl, hst⟩ := hrel
          have b57 := (hst.1 _ 57 hlt).trans c57
          by_cases hltj : j < us.length
          · obtain ⟨bb, off, he1, hbb, -, cc⟩ := rowCell8 (vals := int1) (fun _ => rfl) (by decide) (hU1.below hst.below) hltj
            have c0 := cc 0 _ rfl
            simp only [Nat.mul_one, Nat.add_zero] at c0
            rw [he1] at b57
            have hk0 : (0 : Int) ≤ (j : Int) := Int.natCast_nonneg _
            have hk1 : (j : Int) < (us.length : Int) := by omega
            have hnm := m2 us[j] (List.getElem_mem hltj)
            obtain ⟨n, hn⟩ : ∃ n : Nat, us[j] = n := ⟨us[j].toNat, by have := hnm.1; omega⟩
            have hn2 : (n : Int) ≤ 9223372036854775807 := by have := hnm.2; omega
            have HS2 := Lib.hid (show m ++ s4 ++ (us.take (j + 1)).flatMap numB = m ++ s4 ++ (us.take j).flatMap numB ++ num n 8 by rw [flat_take numB us j hltj, hn]; simp [numB])
            rw [hn] at c0
            have hfl := flat_take_len numB 8 us (fun n _ => Nat.le_of_eq (numB_len n)) j
            have hlj : (m ++ s4 ++ (us.take j).flatMap numB).length ≤ 300200 := by rw [List.length_append]; omega
            have hz3 := bs_size (num n 8)
            have hn8 := num_len n 8
            generalize m ++ s4 ++ (us.take j).flatMap numB = mj at *
            have hz4 := bs_size mj
            have hiw2 : IntKind.i64.wrap ((j : Int) + 1) = (j : Int) + 1 := IntWalk.i64_in _ (by omega)
            have HSTN := Lib.hid hst
            clear cc he1 hn hfl m2 hE1 hnm hst
            go_wp2_with fail
            refine (refNum_any n 8 _ hn2 (by decide)).mono ?_
            rintro e w3 ⟨rfl, hb3⟩
            have hst3 := Lib.hid (HSTN.out.call hb3)
            have hlen8 : mj.length + (num n 8).length ≤ 9223372036854775807 := by omega
            clear hb3
            go_wp2
            go_roundw
            case rel => exact ⟨j + 1, by omega, by rw [HS2.out]; try rw [bs_append], by go_num, hst3.out⟩
            case measure => simp [intOf]; omega
          · obtain rfl : j = us.length := by omega
            have HST := Lib.hid hst
            clear hst
            go_wp2
            go_roundw
            case rel => exact ⟨k + 1, by omega, by rw [HS.out, List.take_length], by go_num, HST.out⟩
            case measure => simp [intOf]; omega
      · have hb3 : rB8 ⟨z.bare, es, us⟩ 108 = num es.length 4 ++ es.flatMap (entB false) := rfl
        have hm : es.length ≤ 64 ∧ ∀ x ∈ es, entM false x := hm
        obtain ⟨m1, m2⟩ := hm
        rw [hb3, ← List.append_assoc] at HS
        have KN := Lib.hid (fun W => refNum_any es.length 4 W (by omega) (by decide))
        have hn4' := num_len es.length 4
        generalize num es.length 4 = s4 at *
        have hz2 := bs_size s4
        have hml : (m ++ s4).length ≤ 300004 := by rw [List.length_append]; omega
        have hml2 : m.length + s4.length ≤ 9223372036854775807 := by omega
        clear hb3 hl2
        go_wp2_with fail
        refine (KN.out _).mono ?_
        rintro e w2 ⟨rfl, hb2⟩
        have hst2 := Lib.hid (hst.call hb2)
        clear hst hb2
        go_wp2
        go_loopw [6, 9] (fun sv jv wr => ∃ j : Nat, j ≤ es.length ∧ sv = .string (bs (m ++ s4 ++ (es.take j).flatMap (entB false))) ∧ jv = .int .i64 j ∧ Stb w1 wr) (fun _ jv _ => es.length - (intOf jv).toNat)
        case atStart => exact ⟨0, Nat.zero_le _, by simp [bs_append], rfl, hst2.out⟩
        case round =>
          clear hst2
          obtain ⟨j, hj, rfl, rfl, hst⟩ := hrel
          have b56 := (hst.1 _ 56 hlt).trans c56
          by_cases hltj : j < es.length
          · obtain ⟨bb, off, he1, hbb, r1, -⟩ := rowCell8 Entry.len (by decide) (hE1.below hst.below) hltj
            rw [he1] at b56
            have hk0 : (0 : Int) ≤ (j : Int) := Int.natCast_nonneg _
            have hk1 : (j : Int) < (es.length : Int) := by omega
            have hnm := m2 es[j] (List.getElem_mem hltj)
            have hfl := flat_take_len (entB false) 500 es (fun x hx => entB_len false x (m2 x hx)) j
            have hft := flat_take (entB false) es j hltj
            generalize es[j] = x at *
            have hlj : (m ++ s4 ++ (es.take j).flatMap (entB false)).length ≤ 340000 := by rw [List.length_append]; omega
            obtain ⟨⟨g0, g1⟩, nl, ⟨k0, k1⟩, hwh⟩ := hnm
            obtain ⟨xg, hxg⟩ : ∃ n : Nat, x.gen = n := ⟨x.gen.toNat, by omega⟩
            obtain ⟨xk, hxk⟩ : ∃ n : Nat, x.cookie = n := ⟨x.cookie.toNat, by omega⟩
            have K1 := fun W => refNum_any xg 8 W (by omega) (by decide)
            have K2 := fun W => refText_any x.name W (by omega)
            have K3 := fun W => refNum_any xk 8 W (by omega) (by decide)
            have l1 := num_len xg 8
            have l2 := opq_len8 x.name
            have l3 := num_len xk 8
            have HS2 := (show m ++ s4 ++ (es.take (j + 1)).flatMap (entB false) = m ++ s4 ++ (es.take j).flatMap (entB false) ++ num xg 8 ++ opq x.name ++ num xk 8 by rw [hft]; simp [entB, hxg, hxk])
            generalize m ++ s4 ++ (es.take j).flatMap (entB false) = mj at *
            generalize num xg 8 = a1 at *
            generalize opq x.name = a2 at *
            generalize num xk 8 = a3 at *
            have HS2 := Lib.hid HS2
            have K1 := Lib.hid K1
            have K2 := Lib.hid K2
            have K3 := Lib.hid K3
            have e1 : mj.length + a1.length ≤ 9223372036854775807 := by omega
            have e2 : mj.length + a1.length + a2.length ≤ 9223372036854775807 := by omega
            have e3 : mj.length + (a1.length + a2.length) + a3.length ≤ 9223372036854775807 := by omega
            have hy := Blk.new wr 126 x.vals
            have hby := (Below.refl wr.heap.size wr).alloc (Nat.le_refl _) (.cells x.vals.toArray 126)
            have hstE := hst.call hby
            obtain ⟨wy, hwy⟩ : ∃ V, V = wr.alloc (.cells x.vals.toArray 126) := ⟨_, rfl⟩
            rw [← hwy] at hy hby hstE
            have HWY := Lib.hid hwy
            have hiw2 : IntKind.i64.wrap ((j : Int) + 1) = (j : Int) + 1 := IntWalk.i64_in _ (by omega)
            have y0 : wy.cell? ⟨wr.heap.size, 0, none⟩ = some (.int .i64 xg) := by rw [hy.cell 0, ← hxg]; rfl
            have y1 : wy.cell? ⟨wr.heap.size, 1, none⟩ = some (.string (bs x.name)) := hy.cell 1
            have y2 : wy.cell? ⟨wr.heap.size, 2, none⟩ = some (.int .i64 xk) := by rw [hy.cell 2, ← hxk]; rfl
            have y3 : rowOf wy wr.heap.size 3 11 = some x.attr.vals.toArray := hy.row 3 11 (by simp [Entry.len])
            have y14 : wy.cell? ⟨wr.heap.size, 14, none⟩ = some (.string (bs x.fh)) := hy.cell 14
            have hyl := hy.lt
            clear hwy he1 hfl hft m2 hU1 hE1 hst l1 l2 l3 g0 g1 k0 k1 hlj hz1 hz2 hml hml2 hxg hxk hby
            go_wp2_with (first
              | (refine wpList_store_new (by rfl) 126 _ _ (by rfl) x.vals entryZ8.vals wr 126 rfl (by rfl) (by rfl) (by rfl) (by kernel_rfl) (Entry.one _) ?_; rw [← HWY.out])
              | fail)
            go_region_held3 (fun W => Stb wy W) (first | exact Stb.start | assumption | (exact Stb.alloc (by assumption) _) | (exact Stb.call (by assumption) (by assumption))) (first
              | (go_at_call_of 60 (xg); refine (K1.out _).mono ?_; rintro e w3 ⟨rfl, hb⟩)
              | (go_at_call 68; refine (K2.out _).mono ?_; rintro e w3 ⟨rfl, hb⟩)
              | (go_at_call_of 60 (xk); refine (K3.out _).mono ?_; rintro e w3 ⟨rfl, hb⟩)
              | fail)
            have hs5 : Stb wy w3 := by assumption
            have HS9 := Lib.hid (hstE.call hs5.below)
            clear hs5 hstE
            go_wp2
            go_roundw
            case rel => exact ⟨j + 1, by omega, by rw [HS2.out]; first | rfl | simp only [List.append_assoc], by go_num, HS9.out⟩
            case measure => simp [intOf]; omega
          · obtain rfl : j = es.length := by omega
            have HST := Lib.hid hst
            clear hst
            go_wp2
            go_roundw
            case rel => exact ⟨k + 1, by omega, by rw [HS.out, List.take_length], by go_num, HST.out⟩
            case measure => simp [intOf]; omega
      · have hb3 : rB8 ⟨z.bare, es, us⟩ 112 = num es.length 4 ++ es.flatMap (entB true) := rfl
        have hm : es.length ≤ 64 ∧ ∀ x ∈ es, entM true x := hm
        obtain ⟨m1, m2⟩ := hm
        rw [hb3, ← List.append_assoc] at HS
        have KN := Lib.hid (fun W => refNum_any es.length 4 W (by omega) (by decide))
        have hn4' := num_len es.length 4
        generalize num es.length 4 = s4 at *
        have hz2 := bs_size s4
        have hml : (m ++ s4).length ≤ 300004 := by rw [List.length_append]; omega
        have hml2 : m.length + s4.length ≤ 9223372036854775807 := by omega
        clear hb3 hl2
        go_wp2_with fail
        refine (KN.out _).mono ?_
        rintro e w2 ⟨rfl, hb2⟩
        have hst2 := Lib.hid (hst.call hb2)
        clear hst hb2
        go_wp2
        go_loopw [6, 9] (fun sv jv wr => ∃ j : Nat, j ≤ es.length ∧ sv = .string (bs (m ++ s4 ++ (es.take j).flatMap (entB true))) ∧ jv = .int .i64 j ∧ Stb w1 wr) (fun _ jv _ => es.length - (intOf jv).toNat)
        case atStart => exact ⟨0, Nat.zero_le _, by simp [bs_append], rfl, hst2.out⟩
        case round =>
          clear hst2
          obtain ⟨j, hj, rfl, rfl, hst⟩ := hrel
          have b56 := (hst.1 _ 56 hlt).trans c56
          by_cases hltj : j < es.length
          · obtain ⟨bb, off, he1, hbb, r1, -⟩ := rowCell8 Entry.len (by decide) (hE1.below hst.below) hltj
            rw [he1] at b56
            have hk0 : (0 : Int) ≤ (j : Int) := Int.natCast_nonneg _
            have hk1 : (j : Int) < (es.length : Int) := by omega
            have hnm := m2 es[j] (List.getElem_mem hltj)
            have hfl := flat_take_len (entB true) 500 es (fun x hx => entB_len true x (m2 x hx)) j
            have hft := flat_take (entB true) es j hltj
            generalize es[j] = x at *
            have hlj : (m ++ s4 ++ (es.take j).flatMap (entB true)).length ≤ 340000 := by rw [List.length_append]; omega
            obtain ⟨⟨g0, g1⟩, nl, ⟨k0, k1⟩, hwh⟩ := hnm
            obtain ⟨xg, hxg⟩ : ∃ n : Nat, x.gen = n := ⟨x.gen.toNat, by omega⟩
            obtain ⟨xk, hxk⟩ : ∃ n : Nat, x.cookie = n := ⟨x.cookie.toNat, by omega⟩
            have K1 := fun W => refNum_any xg 8 W (by omega) (by decide)
            have K2 := fun W => refText_any x.name W (by omega)
            have K3 := fun W => refNum_any xk 8 W (by omega) (by decide)
            have l1 := num_len xg 8
            have l2 := opq_len8 x.name
            have l3 := num_len xk 8
            obtain ⟨po, pg, fl⟩ := hwh rfl
            have K4 := fun W => postBytes8_any x.attr W po pg
            have K5 := fun W => refText_any x.fh W (by omega)
            have l4 := x.attr.bytes_len
            have l5 := opq_len8 x.fh
            have HS2 := (show m ++ s4 ++ (es.take (j + 1)).flatMap (entB true) = m ++ s4 ++ (es.take j).flatMap (entB true) ++ num xg 8 ++ opq x.name ++ num xk 8 ++ x.attr.bytes ++ opq x.fh by rw [hft]; simp [entB, hxg, hxk])
            generalize x.attr.bytes = a4 at *
            generalize opq x.fh = a5 at *
            generalize m ++ s4 ++ (es.take j).flatMap (entB true) = mj at *
            generalize num xg 8 = a1 at *
            generalize opq x.name = a2 at *
            generalize num xk 8 = a3 at *
            have HS2 := Lib.hid HS2
            have K1 := Lib.hid K1
            have K2 := Lib.hid K2
            have K3 := Lib.hid K3
            have e1 : mj.length + a1.length ≤ 9223372036854775807 := by omega
            have e2 : mj.length + a1.length + a2.length ≤ 9223372036854775807 := by omega
            have e3 : mj.length + (a1.length + a2.length) + a3.length ≤ 9223372036854775807 := by omega
            have e4 : mj.length + (a1.length + (a2.length + a3.length)) + a4.length ≤ 9223372036854775807 := by omega
            have e5 : mj.length + (a1.length + (a2.length + (a3.length + a4.length))) + a5.length ≤ 9223372036854775807 := by omega
            have K4 := Lib.hid K4
            have K5 := Lib.hid K5
            have hy := Blk.new wr 126 x.vals
            have hby := (Below.refl wr.heap.size wr).alloc (Nat.le_refl _) (.cells x.vals.toArray 126)
            have hstE := hst.call hby
            obtain ⟨wy, hwy⟩ : ∃ V, V = wr.alloc (.cells x.vals.toArray 126) := ⟨_, rfl⟩
            rw [← hwy] at hy hby hstE
            have HWY := Lib.hid hwy
            have hiw2 : IntKind.i64.wrap ((j : Int) + 1) = (j : Int) + 1 := IntWalk.i64_in _ (by omega)
            have y0 : wy.cell? ⟨wr.heap.size, 0, none⟩ = some (.int .i64 xg) := by rw [hy.cell 0, ← hxg]; rfl
            have y1 : wy.cell? ⟨wr.heap.size, 1, none⟩ = some (.string (bs x.name)) := hy.cell 1
            have y2 : wy.cell? ⟨wr.heap.size, 2, none⟩ = some (.int .i64 xk) := by rw [hy.cell 2, ← hxk]; rfl
            have y3 : rowOf wy wr.heap.size 3 11 = some x.attr.vals.toArray := hy.row 3 11 (by simp [Entry.len])
            have y14 : wy.cell? ⟨wr.heap.size, 14, none⟩ = some (.string (bs x.fh)) := hy.cell 14
            have hyl := hy.lt
            clear hwy he1 hfl hft m2 hU1 hE1 hst l1 l2 l3 g0 g1 k0 k1 hlj hz1 hz2 hml hml2 hxg hxk hby
            go_wp2_with (first
              | (refine wpList_store_new (by rfl) 126 _ _ (by rfl) x.vals entryZ8.vals wr 126 rfl (by rfl) (by rfl) (by rfl) (by kernel_rfl) (Entry.one _) ?_; rw [← HWY.out])
              | fail)
            go_region_held3 (fun W => Stb wy W) (first | exact Stb.start | assumption | (exact Stb.alloc (by assumption) _) | (exact Stb.call (by assumption) (by assumption))) (first
              | (go_at_call_of 60 (xg); refine (K1.out _).mono ?_; rintro e w3 ⟨rfl, hb⟩)
              | (go_at_call 68; refine (K2.out _).mono ?_; rintro e w3 ⟨rfl, hb⟩)
              | (go_at_call_of 60 (xk); refine (K3.out _).mono ?_; rintro e w3 ⟨rfl, hb⟩)
              | fail)
            have hs5 : Stb wy w3 := by assumption
            replace hy := hy.below hs5.below (by omega)
            have hs6 := hstE.call hs5.below
            have y3 : rowOf w3 wr.heap.size 3 11 = some x.attr.vals.toArray := hy.row 3 11 (by simp [Entry.len])
            have y14 : w3.cell? ⟨wr.heap.size, 14, none⟩ = some (.string (bs x.fh)) := hy.cell 14
            have hyl := hy.lt
            clear hs5 hstE
            go_wp2_with fail
            go_region_held3 (fun W => Stb w3 W) (first | exact Stb.start | assumption | (exact Stb.alloc (by assumption) _) | (exact Stb.call (by assumption) (by assumption))) (first
              | (go_at_call 69; refine (K4.out _).mono ?_; rintro e w5 ⟨rfl, hb⟩)
              | (go_at_call 68; refine (K5.out _).mono ?_; rintro e w5 ⟨rfl, hb⟩)
              | fail)
            have hs7 : Stb w3 w5 := by assumption
            have HS9 := Lib.hid (hs6.call hs7.below)
            clear hs7 hs6
            go_wp2
            go_roundw
            case rel => exact ⟨j + 1, by omega, by rw [HS2.out]; first | rfl | simp only [List.append_assoc], by go_num, HS9.out⟩
            case measure => simp [intOf]; omega
          · obtain rfl : j = es.length := by omega
            have HST := Lib.hid hst
            clear hst
            go_wp2
            go_roundw
            case rel => exact ⟨k + 1, by omega, by rw [HS.out, List.take_length], by go_num, HST.out⟩
            case measure => simp [intOf]; omega
    · obtain rfl : k = l.length := by omega
      have HST := Lib.hid (below_then HB1.out hst.below)
      clear hst
      go_wp2
      go_ret
      exact ⟨ret_string (by rw [HS0.out]), HST.out⟩
end Go.Proofs.YtfjflkmhhbhceaaGreatDoor

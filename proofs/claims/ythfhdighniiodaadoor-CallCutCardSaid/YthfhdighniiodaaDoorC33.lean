/-
  Layer 7, walks: the document's Bytes (written by wip/tools/genbytes7.py). Conditions: the call may be; its numbers are machine numbers.
-/
import Derived.Test.YthfhdighniiodaaDoorC13
import Derived.Test.YthfhdighniiodaaDoorC24
import Derived.Test.YthfhdighniiodaaDoorC32
namespace Go.Proofs.YthfhdighniiodaaDoor
open Go.RowKit
attribute [local go_sem ↓] Go.wp_at_zero Go.wp_at_succ
attribute [local go_sem] rowAt_ptr rowOf_drew rowOf_drewN rowOf_alloc_past rowOf_new
attribute [local go_sem ↓] ldSet ldOpt

attribute [local go_sem] Call.at0 Call.lat0 Call.at1 Call.lat1 Call.at2 Call.lat2 Call.at3 Call.lat3 Call.at4 Call.lat4 Call.at5 Call.lat5 Call.at6 Call.lat6 Call.at7 Call.lat7 Call.at8 Call.lat8 Call.at9 Call.lat9 Call.at10 Call.lat10 Call.at11 Call.lat11 Call.at12 Call.lat12 Call.at13 Call.lat13 Call.at14 Call.lat14 Call.at15 Call.lat15 Call.at16 Call.lat16 Call.at17 Call.lat17 Call.at18 Call.lat18 Call.at19 Call.lat19 Call.at20 Call.lat20 Call.at21 Call.lat21 Call.at22 Call.lat22 Call.at23 Call.lat23 Call.sub0_24 Call.lsub0_24 Call.sub9_10 Call.lsub9_10 Call.sub9_2 Call.lsub9_2 Call.sub11_2 Call.lsub11_2 Call.sub13_2 Call.lsub13_2 Call.sub15_2 Call.lsub15_2 Call.sub17_2 Call.lsub17_2 Call.sub19_2 Call.lsub19_2 Call.len Sett.at0 Sett.lat0 Sett.at1 Sett.lat1 Sett.at2 Sett.lat2 Sett.at3 Sett.lat3 Sett.at4 Sett.lat4 Sett.at5 Sett.lat5 Sett.at6 Sett.lat6 Sett.at7 Sett.lat7 Sett.at8 Sett.lat8 Sett.at9 Sett.lat9 Sett.sub0_10 Sett.lsub0_10 Sett.sub0_2 Sett.lsub0_2 Sett.sub2_2 Sett.lsub2_2 Sett.sub4_2 Sett.lsub4_2 Sett.sub6_2 Sett.lsub6_2 Sett.sub8_2 Sett.lsub8_2 Sett.len Opt.at0 Opt.lat0 Opt.at1 Opt.lat1 Opt.sub0_2 Opt.lsub0_2 Opt.len

set_option maxRecDepth 20000 in
set_option maxHeartbeats 3200000 in
theorem refBytes7_any (x : Call) (w : World) (hma : cMayAll x (cFields x.proc) = true) (hgo : x.offset ≤ 9223372036854775807) (hgk : x.cookie ≤ 9223372036854775807) (hgv : x.verf ≤ 9223372036854775807) (hgs : x.set.good) (hgg : x.guard.n ≤ 9223372036854775807) :
    Calls Tryd.prog 33 #[.agg x.vals.toArray] w fun e w' => e = .returned (.string (bs (cLaid x (cFields x.proc) (cFields x.proc).length))) ∧ Below w.heap.size w w' := by
  have hb := Blk.new w 57 x.vals
  have hB : Below w.heap.size w (w.alloc (.cells x.vals.toArray 57)) := (Below.refl _ _).alloc (Nat.le_refl _) _
  have hc := hb.cell
  go_enter Tryd.func33, Tryd.ntmps33
  go_wp2_with fail
  refine (refFields_any x.proc _).mono ?_
  rintro e w1 ⟨rfl, hb1⟩
  have hX := hb.stays hb1
  have HB1 := Lib.hid (below_then hB hb1)
  have hcx := hX.cell
  have rs : rowOf w1 w.heap.size 9 10 = some x.set.vals.toArray := hX.row 9 10 (by simp [Call.len])
  have rg : rowOf w1 w.heap.size 19 2 = some x.guard.vals.toArray := hX.row 19 2 (by simp [Call.len])
  have hlt := hX.lt
  have hlet := fun k (hk : k < (cFields x.proc).length) => cFields_letter x.proc hk
  have hlen := cLaid_len x (cFields x.proc) hma hlet
  have hsh := cFields_short x.proc
  clear hb hB hc hb1 hX
  obtain ⟨l, hlf⟩ : ∃ l, l = cFields x.proc := ⟨_, rfl⟩
  rw [← hlf] at hma hlet hlen hsh ⊢
  have HLF := Lib.hid hlf
  clear hlf
  have hsz := bs_size l
  go_wp2
  go_loopw [4, 5] (fun sv iv wr => ∃ k : Nat, k ≤ l.length ∧ sv = .string (bs (cLaid x l k)) ∧ iv = .int .i64 k ∧ Stb w1 wr) (fun _ iv _ => l.length - (intOf iv).toNat)
  case atStart => exact ⟨0, Nat.zero_le _, rfl, rfl, Stb.of (Below.refl _ _)⟩
  case round =>
    obtain ⟨k, hk, rfl, rfl, hst⟩ := hrel
    by_cases hlt2 : k < l.length
    · have hS := cLaid_succ x l k hlt2
      have hm : cMay x l[k].toNat = true := by
        rw [cMayAll, List.all_eq_true] at hma
        exact hma _ (List.getElem_mem hlt2)
      have hq : ((bs l)[k]'(by rw [hsz]; exact hlt2)).toNat = l[k].toNat := rfl
      have hl1 := hlen k (Nat.le_of_lt hlt2)
      have hz1 := bs_size (cLaid x l k)
      have hz2 := bs_size (cBytes x l[k].toNat)
      have hl2 := cBytes_len x l[k].toNat hm (hlet k hlt2)
      have hx := hlet k hlt2
      generalize l[k].toNat = c at *
      have HS := Lib.hid hS
      have hl3 : 600 * k ≤ 3000 := by omega
      clear hS hlen hlet hma
      generalize cLaid x l k = m at *
      rcases hx with rfl | rfl | rfl | rfl | rfl | rfl | rfl | rfl | rfl | rfl | rfl | rfl | rfl
      · have hb3 : cBytes x 102 = opq x.fh := rfl
        have hml : x.fh.length ≤ 1000000000 := by simp [cMay] at hm; omega
        rw [hb3] at hz2 hl2 HS
        clear hm hb3
        go_wp2_with fail
        refine (refText_any x.fh _ hml).mono ?_
        rintro e w2 ⟨rfl, hb2⟩
        have hst2 := Lib.hid (hst.call hb2)
        clear hst hb2
        go_wp2
        go_roundw
        case rel => exact ⟨k + 1, by omega, by rw [HS.out, bs_append], by go_num, hst2.out⟩
        case measure => simp [intOf]; omega
      · have hb3 : cBytes x 70 = opq x.fh2 := rfl
        have hml : x.fh2.length ≤ 1000000000 := by simp [cMay] at hm; omega
        rw [hb3] at hz2 hl2 HS
        clear hm hb3
        go_wp2_with fail
        refine (refText_any x.fh2 _ hml).mono ?_
        rintro e w2 ⟨rfl, hb2⟩
        have hst2 := Lib.hid (hst.call hb2)
        clear hst hb2
        go_wp2
        go_roundw
        case rel => exact ⟨k + 1, by omega, by rw [HS.out, bs_append], by go_num, hst2.out⟩
        case measure => simp [intOf]; omega
      · have hb3 : cBytes x 110 = opq x.name := rfl
        have hml : x.name.length ≤ 1000000000 := by simp [cMay] at hm; omega
        rw [hb3] at hz2 hl2 HS
        clear hm hb3
        go_wp2_with fail
        refine (refText_any x.name _ hml).mono ?_
        rintro e w2 ⟨rfl, hb2⟩
        have hst2 := Lib.hid (hst.call hb2)
        clear hst hb2
        go_wp2
        go_roundw
        case rel => exact ⟨k + 1, by omega, by rw [HS.out, bs_append], by go_num, hst2.out⟩
        case measure => simp [intOf]; omega
      · have hb3 : cBytes x 78 = opq x.name2 := rfl
        have hml : x.name2.length ≤ 1000000000 := by simp [cMay] at hm; omega
        rw [hb3] at hz2 hl2 HS
        clear hm hb3
        go_wp2_with fail
        refine (refText_any x.name2 _ hml).mono ?_
        rintro e w2 ⟨rfl, hb2⟩
        have hst2 := Lib.hid (hst.call hb2)
        clear hst hb2
        go_wp2
        go_roundw
        case rel => exact ⟨k + 1, by omega, by rw [HS.out, bs_append], by go_num, hst2.out⟩
        case measure => simp [intOf]; omega
      · have hb3 : cBytes x 116 = opq x.text := rfl
        have hml : x.text.length ≤ 1000000000 := by simp [cMay] at hm; omega
        rw [hb3] at hz2 hl2 HS
        clear hm hb3
        go_wp2_with fail
        refine (refText_any x.text _ hml).mono ?_
        rintro e w2 ⟨rfl, hb2⟩
        have hst2 := Lib.hid (hst.call hb2)
        clear hst hb2
        go_wp2
        go_roundw
        case rel => exact ⟨k + 1, by omega, by rw [HS.out, bs_append], by go_num, hst2.out⟩
        case measure => simp [intOf]; omega
      · have hb3 : cBytes x 100 = opq x.data := rfl
        have hml : x.data.length ≤ 1000000000 := by simp [cMay] at hm; omega
        rw [hb3] at hz2 hl2 HS
        clear hm hb3
        go_wp2_with fail
        refine (refText_any x.data _ hml).mono ?_
        rintro e w2 ⟨rfl, hb2⟩
        have hst2 := Lib.hid (hst.call hb2)
        clear hst hb2
        go_wp2
        go_roundw
        case rel => exact ⟨k + 1, by omega, by rw [HS.out, bs_append], by go_num, hst2.out⟩
        case measure => simp [intOf]; omega
      · have hb3 : cBytes x 111 = num x.offset.toNat 8 := rfl
        obtain ⟨n, hn⟩ : ∃ n : Nat, x.offset = n := ⟨x.offset.toNat, by simp [cMay] at hm; omega⟩
        rw [hn, Int.toNat_natCast] at hb3
        have hn2 : (n : Int) ≤ 9223372036854775807 := by simp [cMay] at hm; omega
        rw [hb3] at hz2 hl2 HS
        clear hm hb3
        go_wp2_with fail
        refine (refNum_any n 8 _ hn2 (by decide)).mono ?_
        rintro e w2 ⟨rfl, hb2⟩
        have hst2 := Lib.hid (hst.call hb2)
        clear hst hb2
        go_wp2
        go_roundw
        case rel => exact ⟨k + 1, by omega, by rw [HS.out, bs_append], by go_num, hst2.out⟩
        case measure => simp [intOf]; omega
      · have hb3 : cBytes x 107 = num x.cookie.toNat 8 := rfl
        obtain ⟨n, hn⟩ : ∃ n : Nat, x.cookie = n := ⟨x.cookie.toNat, by simp [cMay] at hm; omega⟩
        rw [hn, Int.toNat_natCast] at hb3
        have hn2 : (n : Int) ≤ 9223372036854775807 := by simp [cMay] at hm; omega
        rw [hb3] at hz2 hl2 HS
        clear hm hb3
        go_wp2_with fail
        refine (refNum_any n 8 _ hn2 (by decide)).mono ?_
        rintro e w2 ⟨rfl, hb2⟩
        have hst2 := Lib.hid (hst.call hb2)
        clear hst hb2
        go_wp2
        go_roundw
        case rel => exact ⟨k + 1, by omega, by rw [HS.out, bs_append], by go_num, hst2.out⟩
        case measure => simp [intOf]; omega
      · have hb3 : cBytes x 118 = num x.verf.toNat 8 := rfl
        obtain ⟨n, hn⟩ : ∃ n : Nat, x.verf = n := ⟨x.verf.toNat, by simp [cMay] at hm; omega⟩
        rw [hn, Int.toNat_natCast] at hb3
        have hn2 : (n : Int) ≤ 9223372036854775807 := by simp [cMay] at hm; omega
        rw [hb3] at hz2 hl2 HS
        clear hm hb3
        go_wp2_with fail
        refine (refNum_any n 8 _ hn2 (by decide)).mono ?_
        rintro e w2 ⟨rfl, hb2⟩
        have hst2 := Lib.hid (hst.call hb2)
        clear hst hb2
        go_wp2
        go_roundw
        case rel => exact ⟨k + 1, by omega, by rw [HS.out, bs_append], by go_num, hst2.out⟩
        case measure => simp [intOf]; omega
      · have hb3 : cBytes x 99 = num x.count.toNat 4 := rfl
        obtain ⟨n, hn⟩ : ∃ n : Nat, x.count = n := ⟨x.count.toNat, by simp [cMay] at hm; omega⟩
        rw [hn, Int.toNat_natCast] at hb3
        have hn2 : (n : Int) ≤ 9223372036854775807 := by simp [cMay] at hm; omega
        rw [hb3] at hz2 hl2 HS
        clear hm hb3
        go_wp2_with fail
        refine (refNum_any n 4 _ hn2 (by decide)).mono ?_
        rintro e w2 ⟨rfl, hb2⟩
        have hst2 := Lib.hid (hst.call hb2)
        clear hst hb2
        go_wp2
        go_roundw
        case rel => exact ⟨k + 1, by omega, by rw [HS.out, bs_append], by go_num, hst2.out⟩
        case measure => simp [intOf]; omega
      · have hb3 : cBytes x 104 = num x.how.toNat 4 := rfl
        obtain ⟨n, hn⟩ : ∃ n : Nat, x.how = n := ⟨x.how.toNat, by simp [cMay] at hm; omega⟩
        rw [hn, Int.toNat_natCast] at hb3
        have hn2 : (n : Int) ≤ 9223372036854775807 := by simp [cMay] at hm; omega
        rw [hb3] at hz2 hl2 HS
        clear hm hb3
        go_wp2_with fail
        refine (refNum_any n 4 _ hn2 (by decide)).mono ?_
        rintro e w2 ⟨rfl, hb2⟩
        have hst2 := Lib.hid (hst.call hb2)
        clear hst hb2
        go_wp2
        go_roundw
        case rel => exact ⟨k + 1, by omega, by rw [HS.out, bs_append], by go_num, hst2.out⟩
        case measure => simp [intOf]; omega
      · have hb3 : cBytes x 115 = x.set.bytes := rfl
        have hml : x.set.ok = true := hm
        rw [hb3] at hz2 hl2 HS
        clear hm hb3
        go_wp2_with fail
        refine (setBytes_any x.set _ hml hgs).mono ?_
        rintro e w2 ⟨rfl, hb2⟩
        have hst2 := Lib.hid (hst.call hb2)
        clear hst hb2
        go_wp2
        go_roundw
        case rel => exact ⟨k + 1, by omega, by rw [HS.out, bs_append], by go_num, hst2.out⟩
        case measure => simp [intOf]; omega
      · have hb3 : cBytes x 103 = x.guard.bytes := rfl
        have hml : x.guard.is = true → 0 ≤ x.guard.n := fun _ => by simp [cMay] at hm; omega
        rw [hb3] at hz2 hl2 HS
        clear hm hb3
        go_wp2_with fail
        refine (refOptO_any x.guard _ hml hgg).mono ?_
        rintro e w2 ⟨rfl, hb2⟩
        have hst2 := Lib.hid (hst.call hb2)
        clear hst hb2
        go_wp2
        go_roundw
        case rel => exact ⟨k + 1, by omega, by rw [HS.out, bs_append], by go_num, hst2.out⟩
        case measure => simp [intOf]; omega
    · obtain rfl : k = l.length := by omega
      have HBW := Lib.hid (below_then HB1.out hst.below)
      clear hlen hlet hma hst
      go_wp2
      go_ret
      exact ⟨by rw [← HLF.out]; rfl, HBW.out⟩
end Go.Proofs.YthfhdighniiodaaDoor
/-
  Layer 17, walks of the document's own: a record's Bytes (written by wip/tools/genrecbytes.py). Conditions: the changes may be, at most 16.
-/
import Derived.Test.YthfhdighniiodaaDoorR30
import Derived.Test.YthfhdighniiodaaDoorR28
import Derived.Test.YthfhdighniiodaaDoorR29
namespace Go.Proofs.YthfhdighniiodaaDoor
open Go.RowKit
attribute [local go_sem ↓] Go.wp_at_zero Go.wp_at_succ
attribute [local go_sem] rowAt_ptr rowOf_drew rowOf_drewN rowOf_alloc_past rowOf_new
attribute [local go_sem ↓] ldAttrR ldChange

attribute [local go_sem] Change.at0 Change.lat0 Change.at1 Change.lat1 Change.at2 Change.lat2 Change.at3 Change.lat3 Change.at4 Change.lat4 Change.at5 Change.lat5 Change.at6 Change.lat6 Change.at7 Change.lat7 Change.at8 Change.lat8 Change.at9 Change.lat9 Change.at10 Change.lat10 Change.at11 Change.lat11 Change.at12 Change.lat12 Change.at13 Change.lat13 Change.at14 Change.lat14 Change.at15 Change.lat15 Change.at16 Change.lat16 Change.at17 Change.lat17 Change.sub0_18 Change.lsub0_18 Change.sub6_10 Change.lsub6_10 Change.len Attr.at0 Attr.lat0 Attr.at1 Attr.lat1 Attr.at2 Attr.lat2 Attr.at3 Attr.lat3 Attr.at4 Attr.lat4 Attr.at5 Attr.lat5 Attr.at6 Attr.lat6 Attr.at7 Attr.lat7 Attr.at8 Attr.lat8 Attr.at9 Attr.lat9 Attr.sub0_10 Attr.lsub0_10 Attr.len

set_option maxRecDepth 20000 in
set_option maxHeartbeats 3200000 in
theorem refBytes17_any (A : Option Addr) (c : Nat) (l : List Change) (w : World) (hl : l.length ≤ 16) (hok : ∀ x ∈ l, rOk x = true ∧ x.serial ≤ 9223372036854775807 ∧ x.attr.good) (hA : At w 18 A (l.map Change.vals)) :
    Calls Tryd.prog 24 #[.slice A l.length c] w fun e w' => e = .returned (.string (bs (num l.length 4 ++ recMany l))) ∧ Below w.heap.size w w' := by
  go_enter Tryd.func24, Tryd.ntmps24
  go_wp2_with fail
  refine (refNum_any l.length 4 _ (by omega) (by decide)).mono ?_
  rintro e w1 ⟨rfl, hb1⟩
  go_wp2
  go_loopw [3, 4] (fun sv iv wr => ∃ k : Nat, k ≤ l.length ∧ sv = .string (bs (num l.length 4 ++ recMany (l.take k))) ∧ iv = .int .i64 k ∧ Below w.heap.size w wr) (fun _ iv _ => l.length - (intOf iv).toNat)
  case atStart => exact ⟨0, Nat.zero_le _, by simp [recMany], rfl, hb1⟩
  case round =>
    clear hb1
    obtain ⟨k, hk, rfl, rfl, hB⟩ := hrel
    by_cases hlt : k < l.length
    · obtain ⟨b, off, rfl, hb, hr⟩ := rowCellOf Change.len (by omega) (hA.below hB) hlt
      obtain ⟨ho, hs, hg⟩ := hok _ (List.getElem_mem hlt)
      have HM := Lib.hid (recMany_succ l k hlt)
      have hlm : (recMany (l.take k)).length ≤ 904 * 16 := Nat.le_trans (recMany_len fun x hx => (hok x (List.mem_of_mem_take hx)).1) (Nat.mul_le_mul (Nat.le_refl _) (by rw [List.length_take]; omega))
      generalize l[k] = x at *
      obtain ⟨hp1, hma, hp3⟩ := rOk_parts ho
      have hkd := rHas_kind hp1
      have hlet := rHas_letter x.kind
      have hsh := rHas_short x.kind
      have hlen := rLaid_len x (rHas x.kind) hma hlet
      have hone : recOne x = num x.kind.toNat 4 ++ rLaid x (rHas x.kind) (rHas x.kind).length := rfl
      obtain ⟨q, hq⟩ : ∃ q : Nat, x.kind = q := ⟨x.kind.toNat, by omega⟩
      have hqk : x.kind.toNat = q := by omega
      rw [hqk] at hone
      have hq9 : (q : Int) ≤ 9223372036854775807 := by omega
      obtain ⟨m, hm⟩ : ∃ m, m = num l.length 4 ++ recMany (l.take k) := ⟨_, rfl⟩
      have hml : m.length ≤ 20000 := by rw [hm, List.length_append, num_len]; omega
      rw [← hm]
      have HMM := Lib.hid hm
      have hX := Blk.new wr 44 x.vals
      have hB2 := hB.alloc hB.size (.cells x.vals.toArray 44)
      obtain ⟨w2, hw2⟩ : ∃ u, u = wr.alloc (.cells x.vals.toArray 44) := ⟨_, rfl⟩
      rw [← hw2] at hX hB2
      have HW2 := Lib.hid hw2
      have hcx := hX.cell
      obtain ⟨ls, hls⟩ : ∃ ls, ls = rHas x.kind := ⟨_, rfl⟩
      have HLS := Lib.hid (fun u => refLetters_any x.kind u)
      rw [← hls] at hma hlet hsh hlen hone HLS
      rw [hq] at HLS
      have hk0 : (0 : Int) ≤ (k : Int) := Int.natCast_nonneg _
      have hk1 : (k : Int) < (l.length : Int) := by omega
      have hcq : w2.cell? ⟨wr.heap.size, 0, none⟩ = some (.int .i64 q) := by rw [hcx 0, ← hq]; rfl
      clear hm hw2 hq hqk hls hp1 hp3 hkd hB hlm hcx
      have tok : True := trivial
      go_wp2_with (first
        | (clear tok; refine wpList_new_struct (by rfl) (by rfl) 44 (by rfl) _ _ (by rfl) x.vals infoChangeS (by rfl) (by rfl) (Change.one _) (by rfl) (by rfl) ?_; rw [← HW2.out])
        | fail)
      refine (HLS.out _).mono ?_
      rintro e w3 ⟨rfl, hx⟩
      have hX3 := hX.stays hx
      have hB3 := below_then hB2 hx
      have hcq3 := (Stb.of hx).1 _ 0 hX.lt |>.trans hcq
      clear hx hX hB2 hcq
      go_wp2_with fail
      refine (refNum_any q 4 _ hq9 (by decide)).mono ?_
      rintro e w4 ⟨rfl, hx⟩
      have hX4 := hX3.stays hx
      have hB4 := below_then hB3 hx
      clear hx hX3 hB3 hcq3
      have hcx := hX4.cell
      have ra : rowOf w4 wr.heap.size 6 10 = some x.attr.vals.toArray := hX4.row 6 10 (by simp [Change.len])
      have hlt4 := hX4.lt
      have hsz := bs_size ls
      have HB4 := Lib.hid hB4
      clear hB4 hX4
      have z1 := bs_size m
      have z2 := bs_size (num q 4)
      have z3 := num_len q 4
      go_wp2
      have hpl : (m ++ num q 4).length ≤ 30000 := by rw [List.length_append]; omega
      clear z1 z2 z3
      generalize hp : m ++ num q 4 = p at *
      have HP := Lib.hid hp.symm
      clear hp
      go_loopw [3, 7] (fun sv iv wz => ∃ j : Nat, j ≤ ls.length ∧ sv = .string (bs (p ++ rLaid x ls j)) ∧ iv = .int .i64 j ∧ Stb w4 wz) (fun _ iv _ => ls.length - (intOf iv).toNat)
      case atStart => exact ⟨0, Nat.zero_le _, by rw [show rLaid x ls 0 = [] from rfl, List.append_nil, HP.out, bs_append], rfl, Stb.of (Below.refl _ _)⟩
      case round =>
        obtain ⟨j, hj, rfl, rfl, hst⟩ := hrel
        by_cases hltj : j < ls.length
        · have hS := rLaid_succ x ls j hltj
          have hm := rAll_at hma j hltj
          have hq2 : ((bs ls)[j]'(by rw [hsz]; exact hltj)).toNat = ls[j].toNat := rfl
          have hl1 := hlen j (Nat.le_of_lt hltj)
          have z1 := bs_size (p ++ rLaid x ls j)
          have hz1 : (p ++ rLaid x ls j).length ≤ 40000 := by rw [List.length_append]; omega
          have hxl := (hlet _ (List.getElem_mem hltj)).1
          have hl2 := rBytes_len x ls[j].toNat hm hxl
          have z2 := bs_size (rBytes x ls[j].toNat)
          generalize ls[j].toNat = c at *
          have HS := Lib.hid (show p ++ rLaid x ls (j + 1) = (p ++ rLaid x ls j) ++ rBytes x c by rw [hS, List.append_assoc])
          clear hS hlen hlet hma hl1
          generalize p ++ rLaid x ls j = t at *
          rcases hxl with rfl | rfl | rfl | rfl | rfl | rfl | rfl | rfl
          · have hb3 : rBytes x 101 = num x.epoch.toNat 4 := rfl
            obtain ⟨n, hn⟩ : ∃ n : Nat, x.epoch = n := ⟨x.epoch.toNat, by simp [rMay] at hm; omega⟩
            rw [hn, Int.toNat_natCast] at hb3
            have hn2 : (n : Int) ≤ 9223372036854775807 := by simp [rMay] at hm; omega
            rw [hb3] at z2 hl2 HS
            clear hm hb3
            go_wp2_with fail
            refine (refNum_any n 4 _ hn2 (by decide)).mono ?_
            rintro e w5 ⟨rfl, hb5⟩
            have hst5 := Lib.hid (hst.call hb5)
            clear hst hb5
            go_wp2
            go_roundw
            case rel => exact ⟨j + 1, by omega, by rw [HS.out, bs_append], by go_num, hst5.out⟩
            case measure => simp [intOf]; omega
          · have hb3 : rBytes x 115 = num x.serial.toNat 8 := rfl
            obtain ⟨n, hn⟩ : ∃ n : Nat, x.serial = n := ⟨x.serial.toNat, by simp [rMay] at hm; omega⟩
            rw [hn, Int.toNat_natCast] at hb3
            have hn2 : (n : Int) ≤ 9223372036854775807 := by simp [rMay] at hm; omega
            rw [hb3] at z2 hl2 HS
            clear hm hb3
            go_wp2_with fail
            refine (refNum_any n 8 _ hn2 (by decide)).mono ?_
            rintro e w5 ⟨rfl, hb5⟩
            have hst5 := Lib.hid (hst.call hb5)
            clear hst hb5
            go_wp2
            go_roundw
            case rel => exact ⟨j + 1, by omega, by rw [HS.out, bs_append], by go_num, hst5.out⟩
            case measure => simp [intOf]; omega
          · have hb3 : rBytes x 117 = opq x.up := rfl
            have hml : x.up.length ≤ 1000000000 := by simp [rMay] at hm; omega
            rw [hb3] at z2 hl2 HS
            clear hm hb3
            go_wp2_with fail
            refine (refText_any x.up _ hml).mono ?_
            rintro e w5 ⟨rfl, hb5⟩
            have hst5 := Lib.hid (hst.call hb5)
            clear hst hb5
            go_wp2
            go_roundw
            case rel => exact ⟨j + 1, by omega, by rw [HS.out, bs_append], by go_num, hst5.out⟩
            case measure => simp [intOf]; omega
          · have hb3 : rBytes x 110 = opq x.name := rfl
            have hml : x.name.length ≤ 1000000000 := by simp [rMay] at hm; omega
            rw [hb3] at z2 hl2 HS
            clear hm hb3
            go_wp2_with fail
            refine (refText_any x.name _ hml).mono ?_
            rintro e w5 ⟨rfl, hb5⟩
            have hst5 := Lib.hid (hst.call hb5)
            clear hst hb5
            go_wp2
            go_roundw
            case rel => exact ⟨j + 1, by omega, by rw [HS.out, bs_append], by go_num, hst5.out⟩
            case measure => simp [intOf]; omega
          · have hb3 : rBytes x 99 = opq x.child := rfl
            have hml : x.child.length ≤ 1000000000 := by simp [rMay] at hm; omega
            rw [hb3] at z2 hl2 HS
            clear hm hb3
            go_wp2_with fail
            refine (refText_any x.child _ hml).mono ?_
            rintro e w5 ⟨rfl, hb5⟩
            have hst5 := Lib.hid (hst.call hb5)
            clear hst hb5
            go_wp2
            go_roundw
            case rel => exact ⟨j + 1, by omega, by rw [HS.out, bs_append], by go_num, hst5.out⟩
            case measure => simp [intOf]; omega
          · have hb3 : rBytes x 97 = x.attr.bytes := rfl
            have hml : x.attr.ok = true := hm
            rw [hb3] at z2 hl2 HS
            clear hm hb3
            go_wp2_with fail
            refine (attrBytes_any x.attr _ hml hg).mono ?_
            rintro e w5 ⟨rfl, hb5⟩
            have hst5 := Lib.hid (hst.call hb5)
            clear hst hb5
            go_wp2
            go_roundw
            case rel => exact ⟨j + 1, by omega, by rw [HS.out, bs_append], by go_num, hst5.out⟩
            case measure => simp [intOf]; omega
          · have hb3 : rBytes x 98 = num x.no.toNat 4 := rfl
            obtain ⟨n, hn⟩ : ∃ n : Nat, x.no = n := ⟨x.no.toNat, by simp [rMay] at hm; omega⟩
            rw [hn, Int.toNat_natCast] at hb3
            have hn2 : (n : Int) ≤ 9223372036854775807 := by simp [rMay] at hm; omega
            rw [hb3] at z2 hl2 HS
            clear hm hb3
            go_wp2_with fail
            refine (refNum_any n 4 _ hn2 (by decide)).mono ?_
            rintro e w5 ⟨rfl, hb5⟩
            have hst5 := Lib.hid (hst.call hb5)
            clear hst hb5
            go_wp2
            go_roundw
            case rel => exact ⟨j + 1, by omega, by rw [HS.out, bs_append], by go_num, hst5.out⟩
            case measure => simp [intOf]; omega
          · have hb3 : rBytes x 116 = num x.slot.toNat 4 := rfl
            obtain ⟨n, hn⟩ : ∃ n : Nat, x.slot = n := ⟨x.slot.toNat, by simp [rMay] at hm; omega⟩
            rw [hn, Int.toNat_natCast] at hb3
            have hn2 : (n : Int) ≤ 9223372036854775807 := by simp [rMay] at hm; omega
            rw [hb3] at z2 hl2 HS
            clear hm hb3
            go_wp2_with fail
            refine (refNum_any n 4 _ hn2 (by decide)).mono ?_
            rintro e w5 ⟨rfl, hb5⟩
            have hst5 := Lib.hid (hst.call hb5)
            clear hst hb5
            go_wp2
            go_roundw
            case rel => exact ⟨j + 1, by omega, by rw [HS.out, bs_append], by go_num, hst5.out⟩
            case measure => simp [intOf]; omega
        · obtain rfl : j = ls.length := by omega
          have HBW := Lib.hid (below_then HB4.out hst.below)
          clear hlen hlet hma hst
          go_wp2
          go_roundw
          case rel => exact ⟨k + 1, by omega, by rw [HM.out, hone, ← List.append_assoc, ← List.append_assoc, ← HMM.out, ← HP.out], by go_num, HBW.out⟩
          case measure => simp [intOf]; omega
    · obtain rfl : k = l.length := by omega
      rw [List.take_length]
      go_wp2
      go_ret
      exact ⟨rfl, hB⟩
end Go.Proofs.YthfhdighniiodaaDoor
/-
  Layer 17, walks: the laws RecGets and RecPuts. Conditions: a machine text; changes that a machine holds.
-/
namespace Go.Proofs.YthfhdighniiodaaDoor
open Go.RowKit
attribute [local go_sem ↓] Go.wp_at_zero Go.wp_at_succ
attribute [local go_sem] rowAt_ptr rowOf_drew rowOf_drewN rowOf_alloc_past rowOf_new
attribute [local go_sem ↓] ldAttrR ldChange

attribute [local go_sem] Change.at0 Change.lat0 Change.at1 Change.lat1 Change.at2 Change.lat2 Change.at3 Change.lat3 Change.at4 Change.lat4 Change.at5 Change.lat5 Change.at6 Change.lat6 Change.at7 Change.lat7 Change.at8 Change.lat8 Change.at9 Change.lat9 Change.at10 Change.lat10 Change.at11 Change.lat11 Change.at12 Change.lat12 Change.at13 Change.lat13 Change.at14 Change.lat14 Change.at15 Change.lat15 Change.at16 Change.lat16 Change.at17 Change.lat17 Change.sub0_18 Change.lsub0_18 Change.sub6_10 Change.lsub6_10 Change.len Attr.at0 Attr.lat0 Attr.at1 Attr.lat1 Attr.at2 Attr.lat2 Attr.at3 Attr.lat3 Attr.at4 Attr.lat4 Attr.at5 Attr.lat5 Attr.at6 Attr.lat6 Attr.at7 Attr.lat7 Attr.at8 Attr.lat8 Attr.at9 Attr.lat9 Attr.sub0_10 Attr.lsub0_10 Attr.len

set_option maxRecDepth 20000 in
set_option maxHeartbeats 1600000 in
theorem recGetsLaw_any (s : List UInt8) (w : World) (hl : s.length ≤ maxLen) :
    Calls Tryd.prog 7 #[.string (bs s)] w fun e w' => e = .returned (.bool true) ∧ Below w.heap.size w w' := by
  have hsz := bs_size s
  unfold maxLen at hl
  by_cases hlong : 3000 < (s.length : Int)
  · go_enter Tryd.func7, Tryd.ntmps7
    go_wp2_with fail
    refine (known17_any _).mono ?_
    rintro e w2 ⟨rfl, hb2⟩
    go_wp2
    go_ret
    exact ⟨rfl, hb2⟩
  · have HG := Lib.hid (fun u => recGet_any s u (by omega))
    have HD := Lib.hid (fun u => refGet17_any s u (by omega))
    have hgd := rGet_d (s := s) (by omega)
    have hsame := rGet_same (s := s) (by omega)
    cases hd : (dGetR s).2 with
    | false =>
      rw [hd, if_neg (by simp)] at hgd
      rw [hgd] at HG
      rw [hd] at HD
      clear hgd hd hsame
      go_enter Tryd.func7, Tryd.ntmps7
      go_wp2_with fail
      refine (HG.out _).mono ?_
      rintro e w1 ⟨v, rfl, hRow, hB1⟩
      obtain ⟨A, c, rfl, hA⟩ := hRow.at_
      rw [List.length_map]
      clear hRow hA
      go_wp2_with fail
      refine (HD.out _).mono ?_
      rintro e w2 ⟨v2, rfl, _, hx⟩
      have hB2 := below_then hB1 hx
      clear hB1 hx
      go_wp2_with fail
      refine (known17_any _).mono ?_
      rintro e w3 ⟨rfl, hb3⟩
      go_wp2
      go_ret
      exact ⟨rfl, below_then hB2 hb3⟩
    | true =>
      rw [hd, if_pos rfl] at hgd
      rw [hgd] at HG hsame
      rw [hd] at HD
      obtain ⟨e1, e2, e3⟩ := hsame rfl
      simp only at e1 e2 e3
      generalize (dGetR s).1 = l at *
      have HR := Lib.hid (fun A c u hA => refBytes17_any A c l u e2 (fun x hx => ⟨(e3 x hx).1, (e3 x hx).2.1, (e3 x hx).2.2⟩) hA)
      rw [← e1] at HR
      clear hgd hd e1 e3 hsame
      go_enter Tryd.func7, Tryd.ntmps7
      go_wp2_with fail
      refine (HG.out _).mono ?_
      rintro e w1 ⟨v, rfl, hRow, hB1⟩
      obtain ⟨A, c, rfl, hA⟩ := hRow.at_
      rw [List.length_map]
      clear hRow
      go_wp2_with fail
      refine (HD.out _).mono ?_
      rintro e w2 ⟨v2, rfl, hRow2, hx⟩
      obtain ⟨A2, c2, rfl, hA2⟩ := (hRow2 (by first | rfl | trivial)).at_
      rw [List.length_map]
      have hB2 := below_then hB1 hx
      have hA := hA.below hx
      clear hB1 hx hRow2
      go_wp2_with fail
      refine (same17_any A A2 c c2 l l _ (by omega) (by omega) hA hA2).mono ?_
      rintro e w3 ⟨rfl, hx⟩
      rw [decide_eq_true rfl]
      have hB3 := below_then hB2 hx
      have hA := hA.below hx
      clear hB2 hx hA2
      go_wp2_with fail
      refine (HR.out A c _ hA).mono ?_
      rintro e w4 ⟨rfl, hx⟩
      have hB4 := below_then hB3 hx
      clear hB3 hx hA
      go_wp2_with fail
      refine (known17_any _).mono ?_
      rintro e w5 ⟨rfl, hb5⟩
      go_wp2
      go_ret
      exact ⟨rfl, below_then hB4 hb5⟩

set_option maxRecDepth 20000 in
set_option maxHeartbeats 1600000 in
theorem recPutsLaw_any (A : Option Addr) (c : Nat) (l : List Change) (w : World) (hl : l.length ≤ maxLen) (hg : ∀ x ∈ l, x.good) (hA : At w 18 A (l.map Change.vals)) :
    Calls Tryd.prog 6 #[.slice A l.length c] w fun e w' => e = .returned (.bool true) ∧ Below w.heap.size w w' := by
  unfold maxLen at hl
  go_enter Tryd.func6, Tryd.ntmps6
  go_wp2_with fail
  refine (refLarge17_any A c l _ hl hA).mono ?_
  rintro e w0 ⟨he0, rfl⟩
  cases ho : over longR 40 l with
  | true =>
    rw [ho] at he0
    subst he0
    go_wp2_with fail
    refine (known17_any _).mono ?_
    rintro e w2 ⟨rfl, hb⟩
    go_wp2
    go_ret
    exact ⟨rfl, hb⟩
  | false =>
    rw [ho] at he0
    subst he0
    clear ho
    go_wp2_with fail
    refine (put17_any A c l _ hl hg hA).mono ?_
    rintro e w1 ⟨rfl, hB1⟩
    by_cases h16 : 16 < l.length
    · have hp : rPut l = ([], 4) := by simp [rPut, h16]
      have h16i : (16 : Int) < (l.length : Int) := by omega
      rw [hp]
      clear hp
      go_wp2_with fail
      refine (known17_any _).mono ?_
      rintro e w2 ⟨rfl, hb⟩
      go_wp2
      go_ret
      exact ⟨rfl, below_then hB1 hb⟩
    · have h16i : ¬ (16 : Int) < (l.length : Int) := by omega
      have HBAD := Lib.hid (fun k hk h => rPut_bad (l := l) (k := k) h16 hk h)
      have HALL := Lib.hid (show (∀ (j : Nat) (hj : j < l.length), rOk l[j] = true) → rPut l = (num l.length 4 ++ recMany l, 0) from fun h => by
        have : l.all rOk = true := by
          rw [List.all_eq_true]; intro x hx
          obtain ⟨j, hj, rfl⟩ := List.getElem_of_mem hx
          exact h j hj
        simp [rPut, h16, this])
      generalize rPut l = P at *
      go_wp2
      go_loopw [5] (fun i wr => ∃ k : Nat, k ≤ l.length ∧ i = .int .i64 k ∧ (∀ (j : Nat) (hj : j < l.length), j < k → rOk l[j] = true) ∧ Below w.heap.size w wr) (fun i _ => l.length - (intOf i).toNat)
      case atStart => exact ⟨0, Nat.zero_le _, rfl, fun _ _ h => absurd h (Nat.not_lt_zero _), hB1⟩
      case round =>
        clear hB1
        obtain ⟨k, hk, rfl, hok, hB⟩ := hrel
        by_cases hlt : k < l.length
        · have hA1 := hA.below hB
          obtain ⟨b, off, rfl, hb, hr⟩ := rowCellOf Change.len (by omega) hA1 hlt
          have hgk := hg _ (List.getElem_mem hlt)
          have hk0 : (0 : Int) ≤ (k : Int) := Int.natCast_nonneg _
          have hk1 : (k : Int) < (l.length : Int) := by omega
          have HK := Lib.hid (HBAD.out k hlt)
          have HP := Lib.hid (show rOk l[k] = true → ∀ (j : Nat) (hj : j < l.length), j < k + 1 → rOk l[j] = true from fun hx j hj h => by
            rcases Nat.lt_or_ge j k with h2 | h2
            · exact hok j hj h2
            · obtain rfl : j = k := by omega
              exact hx)
          clear hok
          generalize l[k] = x at *
          have hri := rIs_ok (x := x) (Go.bounds_i64 hgk.2.2.1).2
          have HC1 := Lib.hid (fun u => refCheck17_any x u)
          have hc2 := fun u => check17_any x u hgk.2.2.2.2.2.2.1
          rw [hri] at HC1
          unfold rCheck at hc2
          have HC0 := Lib.hid hc2
          clear hri hgk hA1 hc2
          go_wp2_with fail
          have hc2 := HC0.out
          refine (HC1.out _).mono ?_
          rintro e w2 ⟨rfl, hx⟩
          have hB2 := below_then hB hx
          have hr2 : rowOf w2 b (off + k * 18) 18 = some x.vals.toArray := (rowOf_below hx hb _ _).trans hr
          clear hB hx hr
          cases hox : rOk x with
          | true =>
            rw [hox] at hc2
            have HC2 := Lib.hid hc2
            have HP2 := Lib.hid (HP.out hox)
            clear HK HP hox hc2
            go_wp2_with fail
            refine (HC2.out _).mono ?_
            rintro e w3 ⟨rfl, hx⟩
            have HB3 := Lib.hid (below_then hB2 hx)
            clear hB2 hx hr2
            go_wp2
            go_roundw
            case rel => exact ⟨k + 1, by omega, by go_num, HP2.out, HB3.out⟩
            case measure => simp [intOf]; omega
          | false =>
            rw [hox] at hc2
            have HC2 := Lib.hid hc2
            have hpp := HK.out hox
            subst hpp
            clear HK HP hox HALL HBAD hc2
            go_wp2_with fail
            refine (HC2.out _).mono ?_
            rintro e w3 ⟨rfl, hx⟩
            have hB3 := below_then hB2 hx
            clear hB2 hx hr2
            go_wp2_with fail
            refine (known17_any _).mono ?_
            rintro e w4 ⟨rfl, hb4⟩
            go_wp2
            go_ret
            exact ⟨rfl, below_then hB3 hb4⟩
        · obtain rfl : k = l.length := by omega
          have hall : ∀ x ∈ l, rOk x = true ∧ x.serial ≤ 9223372036854775807 ∧ x.attr.good := fun x hx => by
            obtain ⟨j, hj, rfl⟩ := List.getElem_of_mem hx
            have hgj := hg _ (List.getElem_mem hj)
            exact ⟨hok j hj hj, (Go.bounds_i64 hgj.2.2.1).2, hgj.2.2.2.2.2.2.1⟩
          have hpp := HALL.out (fun j hj => hok j hj hj)
          subst hpp
          have hlm := recMany_len (fun x hx => (hall x hx).1)
          have hgb := rGet_back l (by omega) hall
          have HG := Lib.hid (fun u => recGet_any (num l.length 4 ++ recMany l) u (by rw [List.length_append, num_len]; omega))
          rw [hgb] at HG
          have HR := Lib.hid (fun u hA => refBytes17_any A c l u (by omega) hall hA)
          clear hgb hlm hall hok HALL HBAD hlt hk
          generalize num l.length 4 ++ recMany l = s at *
          go_wp2_with fail
          refine (HG.out _).mono ?_
          rintro e w2 ⟨v, rfl, hRow, hx⟩
          obtain ⟨A2, c2, rfl, hA2⟩ := hRow.at_
          rw [List.length_map]
          have hB2 := below_then hB hx
          clear hB hx hRow
          go_wp2_with fail
          refine (HR.out _ (hA.below hB2)).mono ?_
          rintro e w3 ⟨rfl, hx⟩
          have hB3 := below_then hB2 hx
          have hA2 := hA2.below hx
          clear hB2 hx
          go_wp2_with fail
          refine (same17_any A2 A c2 c l l _ (by omega) (by omega) hA2 (hA.below hB3)).mono ?_
          rintro e w4 ⟨rfl, hx⟩
          rw [decide_eq_true rfl]
          have hB4 := below_then hB3 hx
          clear hB3 hx hA2
          go_wp2_with fail
          refine (known17_any _).mono ?_
          rintro e w5 ⟨rfl, hx⟩
          go_wp2
          go_ret
          exact ⟨rfl, below_then hB4 hx⟩
end Go.Proofs.YthfhdighniiodaaDoor

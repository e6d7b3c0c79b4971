/-
  Layer 20, walks: the program's Page. Conditions: lengths; a count that a machine holds.
-/
import Derived.Test.YtmkhpgpnahligaaNodePagePure
import Derived.OwnWalk
namespace Go.Proofs.Ytmkhpgpnahligaa
open Go.RowKit
attribute [local go_sem ↓] Go.wp_at_zero Go.wp_at_succ
attribute [local go_sem] rowAt_ptr rowOf_drew rowOf_drewN rowOf_alloc_past rowOf_new
attribute [local go_sem ↓] ldEntry

attribute [local go_sem] Entry.at0 Entry.lat0 Entry.at1 Entry.lat1 Entry.at2 Entry.lat2 Entry.at3 Entry.lat3 Entry.at4 Entry.lat4 Entry.at5 Entry.lat5 Entry.at6 Entry.lat6 Entry.at7 Entry.lat7 Entry.at8 Entry.lat8 Entry.at9 Entry.lat9 Entry.at10 Entry.lat10 Entry.at11 Entry.lat11 Entry.at12 Entry.lat12 Entry.at13 Entry.lat13 Entry.at14 Entry.lat14 Entry.sub0_15 Entry.lsub0_15 Entry.sub3_11 Entry.lsub3_11 Entry.sub4_10 Entry.lsub4_10 Entry.len

theorem below_of {w w1 w2 : World} (h : Below w.heap.size w w1) (hb : Below w1.heap.size w1 w2) : Below w.heap.size w w2 := below_then h hb
set_option maxRecDepth 20000 in
set_option maxHeartbeats 3200000 in
theorem nodePage_any (A : Option Addr) (c : Nat) (l : List Entry) (ck count more : Int) (w : World) (hl : l.length ≤ 70) (hn : ∀ x ∈ l, x.name.length ≤ 300) (hm : 0 ≤ more ∧ more ≤ 1000) (hc : -9223372036854775808 ≤ count ∧ count ≤ 9223372036854775807) (hA : At w 15 A (l.map Entry.vals)) :
    Calls Try.prog 9 #[.slice A l.length c, .int .i64 ck, .int .i64 count, .int .i64 more] w (PagePost w (pageF l ck count more)) := by
  have hB1 : Below w.heap.size w (w.alloc (.cells #[.int .i64 ck] 3)) := (Below.refl _ _).alloc (Nat.le_refl _) _
  have hX := Blk.new w 3 [.int .i64 ck]
  have hA1 := hA.below hB1
  have hlb : (behind ck l).length ≤ 70 := Nat.le_trans (List.length_filter_le _ _) hl
  have hnb : ∀ x ∈ behind ck l, x.name.length ≤ 300 := fun x hx => hn x (List.mem_filter.1 hx).1
  have hsz : (w.alloc (.cells #[.int .i64 ck] 3)).heap.size = w.heap.size + 1 := by simp
  go_enter Try.func9, Try.ntmps9
  go_upto_region 1 with fail
  change Code.wp _ _ _ _ (w.alloc (.cells #[.int .i64 ck] 3))
  change Blk (w.alloc (.cells #[.int .i64 ck] 3)) _ _ _ at hX
  generalize w.alloc (.cells #[.int .i64 ck] 3) = w1 at *
  have HC := Lib.hid (cloneE_at A c l w1 (by omega) hA1)
  have H1 := Lib.hid (And.intro hX (And.intro hB1 hsz))
  clear hX hB1 hA1 hA hsz
  go_wp2_with fail
  refine HC.out.mono ?_
  rintro e w2 ⟨A2, c2, rfl, hR, hb2⟩
  obtain ⟨hX, hB1, hsz⟩ := H1.out
  have HD := Lib.hid (deleteLe_any A2 c2 l w.heap.size ck w2 w1.heap.size (by omega) hR hb2.size (by omega) ((hX.stays hb2).cell 0))
  have HB2 := Lib.hid (below_then hB1 hb2)
  have HB1 := Lib.hid hB1
  clear HC hR hb2 hX hB1 hsz H1
  go_wp2_with fail
  refine HD.out.mono ?_
  rintro e w3 ⟨A3, c3, rfl, hc3, hA3, hb3, hF3⟩
  have hF3 : Fresh w.heap.size A3 := fun p h => Nat.le_trans HB1.out.size (hF3 p h)
  obtain ⟨r, hr⟩ : ∃ r, r = behind ck l := ⟨_, rfl⟩
  have HQ1 := Lib.hid (fun (W : World) (h : pageN (behind ck l) count more = 0) (h2 : 0 < (behind ck l).length) (hb : Below w.heap.size w W) => PagePost.few (w := w) h h2 hb)
  have HQ2 := Lib.hid (fun (W : World) (k : Nat) (h : pageN (behind ck l) count more = k) (h2 : ¬ (k = 0 ∧ 0 < (behind ck l).length)) (hA : At W 15 A3 ((behind ck l).map Entry.vals)) (hb : Below w.heap.size w W) => PagePost.some_ (w := w) h h2 hA hF3 hb)
  rw [← hr] at HQ1 HQ2 hlb hnb hA3 hc3 ⊢
  generalize pageF l ck count more = PF at *
  clear hr HD hn hl
  have hB3 := HB2.out.trans (hb3.mono HB1.out.size)
  have h3 : ∀ W, Below w3.heap.size w3 W → At W 15 A3 (r.map Entry.vals) := fun W h => hA3.below h
  have HB3 := Lib.hid hB3
  have H3 := Lib.hid h3
  clear HB1 HB2 hb3 hA3 hB3 h3 hF3
  go_wp2
  go_loopw [12, 13, 24] (fun L n i wr => ∃ (k : Nat) (z : Int), k ≤ r.length ∧ L = .int .i64 z ∧ n = .int .i64 k ∧ i = .int .i64 k ∧ pageN r count more = k + pageN (r.drop k) z more ∧ z ≤ count ∧ (0 ≤ z ∨ z = count) ∧ Below w3.heap.size w3 wr) (fun _ _ i _ => r.length - (intOf i).toNat)
  case atStart => exact ⟨0, count, Nat.zero_le _, rfl, rfl, rfl, by simp, Int.le_refl _, .inr rfl, Below.refl _ _⟩
  case round =>
    obtain ⟨k, z, hk, rfl, rfl, rfl, hp, hz1, hz2, hb⟩ := hrel
    obtain ⟨hm1, hm2⟩ := hm
    obtain ⟨hc9, hc8⟩ := hc
    by_cases hlk : k < r.length
    · obtain ⟨b1, o1, rfl, hlt1, hrow, -⟩ := rowCell8 Entry.len (by omega) (H3.out _ hb) hlk
      have hnk := hnb r[k] (List.getElem_mem hlk)
      have hZ := Blk.new wr 35 r[k].vals
      have hcell := hZ.cell 1
      have hsz := bs_size r[k].name
      have hb4 := below_then hb ((Below.refl wr.heap.size wr).alloc (Nat.le_refl _) (.cells r[k].vals.toArray 35))
      have hw1 : IntKind.i64.wrap (24 + (r[k].name.length : Int)) = 24 + (r[k].name.length : Int) := IntWalk.i64_in _ (by omega)
      have hw2 : IntKind.i64.wrap (24 + (r[k].name.length : Int) + more) = 24 + (r[k].name.length : Int) + more := IntWalk.i64_in _ (by omega)
      have hk0 : (0 : Int) ≤ (k : Int) := Int.natCast_nonneg _
      have hk1 : (k : Int) < (r.length : Int) := by omega
      have hkc : (k : Int) ≤ (c3 : Int) := by omega
      by_cases hgt : z < 24 + (r[k].name.length : Int) + more
      · have hpn : pageN r count more = k := by rw [hp, pageN_no hlk hgt, Nat.add_zero]
        have HA4 := Lib.hid (H3.out _ hb4)
        have HB4 := Lib.hid (below_of HB3.out hb4)
        clear hp hz1 hz2 hb4 hb
        generalize r[k] = x at *
        go_upto_region 12 with (first | (refine wpList_new_struct (by rfl) (by rfl) 35 (by rfl) _ _ (by rfl) x.vals infoEntry2 (by rfl) (by rfl) (Entry.one _) (by rfl) (by rfl) ?_) | fail)
        generalize wr.alloc (.cells x.vals.toArray 35) = w4 at *
        have HPN := Lib.hid hpn
        have HBW := Lib.hid HB4.out
        have HAW := Lib.hid HA4.out
        by_cases hz : k = 0
        · subst hz
          by_cases hr0 : 0 < r.length
          · have hr1 : (0 : Int) < (r.length : Int) := by omega
            have HZ := Lib.hid hr0
            clear hgt hw1 hw2 hrow hcell hZ hnb hnk hsz hk0 hk1 hkc hlk hlt1 hm1 hm2 hc8 hc9 hpn
            go_wp2
            go_ret3
            exact HQ1.out _ HPN.out HZ.out HBW.out
          · have hr1 : ¬ (0 : Int) < (r.length : Int) := by omega
            have HZ := Lib.hid (show ¬ ((0 : Nat) = 0 ∧ 0 < r.length) from fun h => hr0 h.2)
            have hc0 : (0 : Int) ≤ (c3 : Int) := Int.natCast_nonneg _
            have hc1 : (0 : Int) ≤ (r.length : Int) := Int.natCast_nonneg _
            clear hgt hw1 hw2 hrow hcell hZ hnb hnk hsz hk0 hk1 hkc hlk hlt1 hm1 hm2 hc8 hc9 hpn
            go_wp2
            go_ret3
            exact HQ2.out _ _ HPN.out (by simpa using HZ.out) HAW.out HBW.out
        · have hz0 : ((k : Int) == 0) = false := by simp; omega
          have HZ := Lib.hid (show ¬ (k = 0 ∧ 0 < r.length) from fun h => hz h.1)
          have hc0 : (0 : Int) ≤ (k : Int) := Int.natCast_nonneg _
          have hc1 : (k : Int) ≤ (r.length : Int) := by omega
          have hc2 : (k : Int) ≤ (c3 : Int) := by omega
          clear hgt hw1 hw2 hrow hcell hZ hnb hnk hsz hk0 hk1 hkc hlk hlt1 hm1 hm2 hc8 hc9 hpn
          go_wp2
          go_ret3
          exact HQ2.out _ _ HPN.out (by simpa using HZ.out) HAW.out HBW.out
      · have hpn := hp
        rw [pageN_yes hlk hgt] at hpn
        have hw3 : IntKind.i64.wrap (z - (24 + (r[k].name.length : Int) + more)) = z - (24 + (r[k].name.length : Int) + more) := IntWalk.i64_in _ (by omega)
        have hw4 : IntKind.i64.wrap ((k : Int) + 1) = ((k + 1 : Nat) : Int) := by rw [IntWalk.i64_in _ (by omega)]; omega
        have HN := Lib.hid (show pageN r count more = (k + 1) + pageN (r.drop (k + 1)) (z - (24 + (r[k].name.length : Int) + more)) more ∧ z - (24 + (r[k].name.length : Int) + more) ≤ count ∧ (0 ≤ z - (24 + (r[k].name.length : Int) + more) ∨ z - (24 + (r[k].name.length : Int) + more) = count) from ⟨by omega, by omega, by omega⟩)
        have HB4 := Lib.hid hb4
        clear hp hz1 hz2 hb4 hb hpn
        generalize r[k] = x at *
        go_wp2_with (first | (refine wpList_new_struct (by rfl) (by rfl) 35 (by rfl) _ _ (by rfl) x.vals infoEntry2 (by rfl) (by rfl) (Entry.one _) (by rfl) (by rfl) ?_) | fail)
        go_roundw
        case rel => exact ⟨k + 1, _, by omega, rfl, rfl, rfl, HN.out.1, HN.out.2.1, HN.out.2.2, HB4.out⟩
        case measure => simp [intOf]; omega
    · have hpn : pageN r count more = k := by rw [hp, pageN_end hlk, Nat.add_zero]
      have hkl : ¬ (k : Int) < (r.length : Int) := by omega
      have HA4 := Lib.hid (H3.out _ hb)
      have HB4 := Lib.hid (below_of HB3.out hb)
      clear hp hz1 hz2 hb
      go_upto_region 12 with fail
      have HPN := Lib.hid hpn
      have HBW := Lib.hid HB4.out
      have HAW := Lib.hid HA4.out
      by_cases hz : k = 0
      · subst hz
        by_cases hr0 : 0 < r.length
        · have hr1 : (0 : Int) < (r.length : Int) := by omega
          have HZ := Lib.hid hr0
          clear hkl hnb hlk hm1 hm2 hc8 hc9 hpn
          go_wp2
          go_ret3
          exact HQ1.out _ HPN.out HZ.out HBW.out
        · have hr1 : ¬ (0 : Int) < (r.length : Int) := by omega
          have HZ := Lib.hid (show ¬ ((0 : Nat) = 0 ∧ 0 < r.length) from fun h => hr0 h.2)
          have hc0 : (0 : Int) ≤ (c3 : Int) := Int.natCast_nonneg _
          have hc1 : (0 : Int) ≤ (r.length : Int) := Int.natCast_nonneg _
          clear hkl hnb hlk hm1 hm2 hc8 hc9 hpn
          go_wp2
          go_ret3
          exact HQ2.out _ _ HPN.out (by simpa using HZ.out) HAW.out HBW.out
      · have hz0 : ((k : Int) == 0) = false := by simp; omega
        have HZ := Lib.hid (show ¬ (k = 0 ∧ 0 < r.length) from fun h => hz h.1)
        have hc0 : (0 : Int) ≤ (k : Int) := Int.natCast_nonneg _
        have hc1 : (k : Int) ≤ (r.length : Int) := by omega
        have hc2 : (k : Int) ≤ (c3 : Int) := by omega
        clear hkl hnb hlk hm1 hm2 hc8 hc9 hpn
        go_wp2
        go_ret3
        exact HQ2.out _ _ HPN.out (by simpa using HZ.out) HAW.out HBW.out
end Go.Proofs.Ytmkhpgpnahligaa

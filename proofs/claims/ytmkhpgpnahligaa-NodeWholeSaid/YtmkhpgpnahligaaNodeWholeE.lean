/-
  Layer 20, walks: the law NodeWhole. Conditions: machine lists and numbers.
-/
import Derived.Test.YtmkhpgpnahligaaNodeWholeC
import Derived.Test.YtmkhpgpnahligaaNodeWholeD
import Derived.Test.YtmkhpgpnahligaaNodePageA
import Derived.Test.YtmkhpgpnahligaaNodePageC
import Derived.Test.YtmkhpgpnahligaaNodeWalkB
namespace Go.Proofs.Ytmkhpgpnahligaa
open Go.RowKit
attribute [local go_sem ↓] Go.wp_at_zero Go.wp_at_succ
attribute [local go_sem] rowAt_ptr rowOf_drew rowOf_drewN rowOf_alloc_past rowOf_new
attribute [local go_sem ↓] ldEntry

attribute [local go_sem] Entry.at0 Entry.lat0 Entry.at1 Entry.lat1 Entry.at2 Entry.lat2 Entry.at3 Entry.lat3 Entry.at4 Entry.lat4 Entry.at5 Entry.lat5 Entry.at6 Entry.lat6 Entry.at7 Entry.lat7 Entry.at8 Entry.lat8 Entry.at9 Entry.lat9 Entry.at10 Entry.lat10 Entry.at11 Entry.lat11 Entry.at12 Entry.lat12 Entry.at13 Entry.lat13 Entry.at14 Entry.lat14 Entry.sub0_15 Entry.lsub0_15 Entry.sub3_11 Entry.lsub3_11 Entry.sub4_10 Entry.lsub4_10 Entry.len

set_option maxRecDepth 20000 in
set_option maxHeartbeats 1600000 in
theorem nodeWholeLaw_any (A : Option Addr) (c : Nat) (l : List Entry) (count : Int) (w : World) (hl : l.length ≤ 9223372036854775807) (hc : -9223372036854775808 ≤ count ∧ count ≤ 9223372036854775807) (hA : At w 15 A (l.map Entry.vals)) :
    Calls Try.prog 4 #[.slice A l.length c, .int .i64 count] w fun e w' => e = .returned (.bool true) ∧ Below w.heap.size w w' := by
  obtain ⟨i0, hi, hz, hsize, hby⟩ := info_parts infoEntryB
  have HI := Lib.hid (And.intro hi (And.intro hz (And.intro hsize hby)))
  clear hi hz hsize hby
  go_enter Try.func4, Try.ntmps4
  go_wp2_with fail
  refine (large20_any A c l w hl hA).mono ?_
  rintro e w1 ⟨b, rfl, hs, hb1⟩
  cases b with
  | true =>
    clear hs
    go_wp2_with fail
    refine (known20_any _).mono ?_
    rintro e w2 ⟨rfl, hb2⟩
    go_wp2
    go_ret
    exact ⟨rfl, below_then hb1 hb2⟩
  | false =>
    obtain ⟨h70, hn⟩ := hs rfl
    go_wp2_with fail
    refine (refCheck20_any A c l w1 h70 hn (hA.below hb1)).mono ?_
    rintro e w2 ⟨b, rfl, hG, hb2⟩
    have hb2 := below_then hb1 hb2
    cases b with
    | false =>
      have HB := Lib.hid hb2
      clear hs hn hb1 hb2 hA hG
      go_wp2_with fail
      refine (known20_any _).mono ?_
      rintro e w3 ⟨rfl, hb3⟩
      go_wp2
      go_ret
      exact ⟨rfl, below_then HB.out hb3⟩
    | true =>
      have HG := Lib.hid (hG rfl)
      clear hG hs
      by_cases q : 5000 < count
      · have HB := Lib.hid hb2
        clear hn hb1 hb2 hA
        go_wp2_with fail
        refine (known20_any _).mono ?_
        rintro e w3 ⟨rfl, hb3⟩
        go_wp2
        go_ret
        exact ⟨rfl, below_then HB.out hb3⟩
      have HN := Lib.hid hn
      have HA := Lib.hid hA
      have HC := Lib.hid hc
      clear hn hA hb1 hc
      go_wp2_with fail
      go_loopw [5, 6, 7] (fun v ck i wr => ∃ (j m : Nat), j ≤ m ∧ m ≤ l.length ∧ i = .int .i64 j ∧ ck = .int .i64 (ckAt l m) ∧ RowS wr w.heap.size 35 15 v ((l.take m).map Entry.vals) ∧ Below w.heap.size w wr) (fun _ _ i _ => l.length + 1 - (intOf i).toNat)
      case atStart => exact ⟨0, 0, Nat.le_refl _, Nat.zero_le _, rfl, rfl, by simpa using RowS.none_, hb2⟩
      case round =>
        obtain ⟨j, m, hjm, hml, rfl, rfl, hR, hb⟩ := hrel
        have hjl : (j : Int) ≤ (l.length : Int) := by omega
        have HP := Lib.hid (nodePage_any A c l (ckAt l m) count 0 _ h70 HN.out (by omega) HC.out (HA.out.below hb))
        have HS := whole_step HG.out hml count
        generalize pageF l (ckAt l m) count 0 = P at *
        have HB := Lib.hid hb
        have HJM := Lib.hid hjm
        have HML := Lib.hid hml
        clear hb hjm hml
        go_wp2_with fail
        cases HS with
        | small h hc48 =>
          subst h
          refine HP.out.mono ?_
          rintro e w3 ⟨A1, c1, rfl, hA1, hb3, -⟩
          have HB3 := Lib.hid (below_then HB.out hb3)
          clear HP hR hA1 hb3
          go_wp2_with fail
          refine (known20_any _).mono ?_
          rintro e w4 ⟨rfl, hb4⟩
          go_wp2
          go_ret
          exact ⟨rfl, below_then HB3.out hb4⟩
        | last p h hp =>
          subst h
          refine HP.out.mono ?_
          rintro e w3 ⟨A1, c1, he, hA1, hb3, hF⟩
          dsimp only at he hA1
          subst he
          have hpl : p.length ≤ 70 := by have := congrArg List.length hp; simp at this; omega
          have hB3 := below_then HB.out hb3
          have HAP := Lib.hid ((hR.stays hb3).appendAll 22 22 i0 Try.underlying22 HI.out.1 HI.out.2.1 HI.out.2.2.1 HI.out.2.2.2 (by rfl) (by decide) (by decide) hB3.size (c := c1) hA1 (by
            intro r hr
            obtain ⟨x, _, rfl⟩ := List.mem_map.1 hr
            rfl) (by
            intro r hr u hu
            obtain ⟨x, _, rfl⟩ := List.mem_map.1 hr
            exact x.one u hu) (by simp; omega))
          rw [← List.map_append, hp, List.length_map] at HAP
          have HB3 := Lib.hid hB3
          clear HP hR hA1 hb3 hB3 hp hpl
          go_wp2_with (first | (refine wpList_append_by (by rfl) (.tmp 48) (.tmp 49) #[22, 22] (by rfl) _ _ (by rfl) (by rfl) HAP.out ?_; rintro v' w4 ⟨hR4, hb4, -⟩; obtain ⟨A4, c4, hv, hA4⟩ := hR4.at_; rw [List.length_map] at hv; subst hv; have HB4 := Lib.hid (hb4 w HB3.out); clear hR4 hb4 HAP) | fail)
          have HS := Lib.hid ((same20_any A4 A c4 c l l w4 (by omega) (by omega) hA4 (HA.out.below HB4.out)).mono (R' := fun e w' => e = .returned (.bool true) ∧ Below w4.heap.size w4 w') (by rintro e w' ⟨rfl, h⟩; exact ⟨by rw [decide_eq_true rfl], h⟩))
          clear hA4
          refine HS.out.mono ?_
          rintro e w5 ⟨rfl, hb5⟩
          go_wp2_with fail
          refine (known20_any _).mono ?_
          rintro e w6 ⟨rfl, hb6⟩
          go_wp2
          go_ret
          exact ⟨rfl, below_then HB4.out (below_then hb5 hb6)⟩
        | more p x h hp hm hx =>
          subst h
          refine HP.out.mono ?_
          rintro e w3 ⟨A1, c1, he, hA1, hb3, hF⟩
          dsimp only at he hA1
          rw [List.length_append, List.length_singleton] at he
          subst he
          have hpl : p.length + 1 ≤ 70 := by omega
          have hB3 := below_then HB.out hb3
          have HAP := Lib.hid ((hR.stays hb3).appendAll 22 22 i0 Try.underlying22 HI.out.1 HI.out.2.1 HI.out.2.2.1 HI.out.2.2.2 (by rfl) (by decide) (by decide) hB3.size (c := c1) hA1 (by
            intro r hr
            obtain ⟨x, _, rfl⟩ := List.mem_map.1 hr
            rfl) (by
            intro r hr u hu
            obtain ⟨x, _, rfl⟩ := List.mem_map.1 hr
            exact x.one u hu) (by simp; omega))
          rw [← List.map_append, hp, List.length_map, List.length_append, List.length_singleton] at HAP
          have HT := Lib.hid (show ∀ w4, w3.grownBy w4 u5.ownBlock → At w4 15 A1 ((p ++ [x]).map Entry.vals) from fun w4 hg =>
            hA1.touch (Touch.of_grown hg (F := fun k => k < wr.heap.size) fun k hk => (hR.lt k hk).2) fun b off e hlt => Nat.lt_irrefl _ (Nat.lt_of_lt_of_le hlt (hF _ e)))
          have HB3 := Lib.hid hB3
          have HX := Lib.hid hx
          have HM := Lib.hid hm
          clear HP hR hA1 hb3 hB3 hp hx hm hF
          go_upto_region 12 with (first | (refine wpList_append_by (by rfl) (.tmp 48) (.tmp 49) #[22, 22] (by rfl) _ _ (by rfl) (by rfl) HAP.out ?_; rintro v' w4 ⟨hR4, hb4, hg4⟩; have HR4 := Lib.hid hR4; have HB4 := Lib.hid (hb4 w HB3.out); have hA4 := HT.out w4 hg4; clear hR4 hb4 HAP HT hg4) | fail)
          obtain ⟨b1, o1, rfl, -, -, hcell⟩ := rowCell8 Entry.len (by omega) hA4 (k := p.length) (by simp)
          have hck : w4.cell? ⟨b1, o1 + p.length * 15 + 2, none⟩ = some (.int .i64 x.cookie) := hcell 2 (.int .i64 x.cookie) (by simp; rfl)
          clear hcell hA4
          rw [HX.out] at hck
          have hz1 : (((p.length : Int) + 1) == 0) = false := by simp; omega
          have hw1 : IntKind.i64.wrap ((p.length : Int) + 1 - 1) = (p.length : Int) := by rw [IntWalk.i64_in _ (by omega)]; omega
          have hp0 : (0 : Int) ≤ (p.length : Int) := Int.natCast_nonneg _
          have hp1 : (p.length : Int) < (p.length : Int) + 1 := by omega
          go_wp2
          go_roundw
          case rel => exact ⟨j + 1, m + (p.length + 1), by have := HJM.out; omega, HM.out, by go_num, rfl, HR4.out, HB4.out⟩
          case measure => simp [intOf]; omega
end Go.Proofs.Ytmkhpgpnahligaa

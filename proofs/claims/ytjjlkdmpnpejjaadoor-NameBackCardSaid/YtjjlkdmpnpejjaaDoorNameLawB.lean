/-
  Layer 4, walks: the laws NameSplits, NameBack. Condition: machine texts; the library's own number is some number.
-/
import Derived.Test.YtjjlkdmpnpejjaaDoorNameLawA
namespace Go.Proofs.YtjjlkdmpnpejjaaDoor
open Go.RowKit
attribute [local go_sem ↓] Go.wp_at_zero Go.wp_at_succ
attribute [local go_sem] rowAt_ptr rowOf_drew rowOf_drewN rowOf_alloc_past rowOf_new

set_option maxHeartbeats 800000 in
theorem nameSplitsLaw_any (l : List UInt8) (A : Option Addr) (c : Nat) (ps : List (List UInt8)) (w : World) (hl : l.length ≤ 9223372036854775807) (hn : ps.length ≤ maxLen ∧ ps.length ≤ c) (hA : At w 1 A (ps.map str1)) (hm : MxLen w) (hp : ∀ p ∈ ps, p.length ≤ maxLen) :
    Calls Tryd.prog 3 #[.string (bs l), .slice A ps.length c] w fun e w' => e = .returned (.bool true) ∧ Below w.heap.size w w' := by
  obtain ⟨hn1, hn2⟩ := hn
  unfold maxLen at hn1 hp
  have hsz := bs_size l
  have HK := Lib.hid (fun W h => known4_any W h)
  have HM := Lib.hid hm
  have HPM := Lib.hid hp
  clear hm hp
  go_enter Tryd.func3, Tryd.ntmps3
  by_cases hq : 300 < (l.length : Int)
  · go_wp2_with fail
    refine (HK.out _ HM.out).mono ?_
    rintro e w1 ⟨rfl, hb1⟩
    go_wp2
    go_ret
    exact ⟨rfl, hb1⟩
  by_cases hq2 : 30 < (ps.length : Int)
  · go_wp2_with fail
    refine (HK.out _ HM.out).mono ?_
    rintro e w1 ⟨rfl, hb1⟩
    go_wp2
    go_ret
    exact ⟨rfl, hb1⟩
  have HPS := Lib.hid (show ∀ (j : Nat) (hj : j < ps.length), j < 0 → ps[j].length ≤ 200 from fun _ _ h => absurd h (Nat.not_lt_zero _))
  go_wp2
  go_loop [5] (fun i => ∃ k : Nat, k ≤ ps.length ∧ i = .int .i64 k ∧ ∀ (j : Nat) (hj : j < ps.length), j < k → ps[j].length ≤ 200) (fun i => ps.length - (intOf i).toNat)
  case atStart => exact ⟨0, Nat.zero_le _, rfl, HPS.out⟩
  case round =>
    clear HPS
    obtain ⟨k, hk, rfl, hno⟩ := hrel
    by_cases hlk : k < ps.length
    · obtain ⟨b, off, rfl, hcell⟩ := strs_cell hA hlk
      have hk0 : (0 : Int) ≤ (k : Int) := Int.natCast_nonneg _
      have hk1 : (k : Int) < (ps.length : Int) := by omega
      have hpz := bs_size ps[k]
      have hpl := HPM.out ps[k] (List.getElem_mem hlk)
      clear hA
      by_cases hbig : 200 < (ps[k].length : Int)
      · clear hno
        go_wp2_with fail
        refine (HK.out _ HM.out).mono ?_
        rintro e w1 ⟨rfl, hb1⟩
        go_wp2
        go_ret
        exact ⟨rfl, hb1⟩
      · have HN := Lib.hid (show ∀ (j : Nat) (hj : j < ps.length), j < k + 1 → ps[j].length ≤ 200 from fun j hj h => by
          rcases Nat.lt_or_ge j k with h1 | h1
          · exact hno j hj h1
          · obtain rfl : j = k := by omega
            omega)
        clear hno
        go_wp2
        go_round
        case rel => exact ⟨k + 1, by omega, by go_num, HN.out⟩
        case measure => simp [intOf]; omega
    · obtain rfl : k = ps.length := by omega
      have hk1 : ¬ (ps.length : Int) < (ps.length : Int) := by omega
      have hall : ∀ p ∈ ps, p.length ≤ 1000 := fun p hp => by
        obtain ⟨j, hj, rfl⟩ := List.getElem_of_mem hp
        have := hno j hj hj
        omega
      have K1 := Lib.hid (split4_any l w (by omega) HM.out)
      have K2 := Lib.hid (fun W => refSplit4_any l W (by omega))
      have K3 := Lib.hid (fun W (hb : Below w.heap.size w W) => joinP4_any A c ps W (by omega) hall (hA.below hb) hn2)
      have K4 := Lib.hid (fun W (hb : Below w.heap.size w W) => refJoin4_any A c ps W (by omega) hall (hA.below hb))
      have hfl : (fieldsL l).length ≤ 1000 := by
        have h1 := pieces_len l
        have h2 := Lib.countB_le (bs [47]) (Nat.le_refl _) _ (bs l) (Nat.le_refl _)
        rw [bs_size] at h2
        have h3 : (fieldsL l).length ≤ (pieces [] l).length := List.length_filter_le _ _
        omega
      generalize fieldsL l = F at *
      generalize joinL ps = J at *
      clear hno hall hA
      go_wp2_with fail
      refine K1.out.mono ?_
      rintro e w1 ⟨v1, rfl, hR1, hb1⟩
      go_wp2_with fail
      refine (K2.out _).mono ?_
      rintro e w2 ⟨v2, rfl, hR2, hb2⟩
      obtain ⟨A1, c1, hv1, hA1⟩ := hR1.at_
      obtain ⟨A2, c2, hv2, hA2⟩ := hR2.at_
      rw [List.length_map] at hv1 hv2
      subst hv1 hv2
      have HS := Lib.hid ((same4_any A1 A2 c1 c2 F F w2 (by omega) (by omega) (hA1.below hb2) hA2).mono (R' := fun e w' => e = .returned (.bool true) ∧ Below w2.heap.size w2 w') (by rintro e w' ⟨rfl, h⟩; exact ⟨by rw [decide_eq_true rfl], h⟩))
      have HB2 := Lib.hid (below_then hb1 hb2)
      clear hR1 hR2 hA1 hA2 hb1 hb2 K1 K2
      go_wp2_with fail
      refine HS.out.mono ?_
      rintro e w3 ⟨rfl, hb3⟩
      have HB3 := Lib.hid (below_then HB2.out hb3)
      clear hb3 HS
      go_wp2_with fail
      refine (K3.out _ HB3.out).mono ?_
      rintro e w4 ⟨rfl, hb4⟩
      have HB4 := Lib.hid (below_then HB3.out hb4)
      clear hb4 K3
      go_wp2_with fail
      refine (K4.out _ HB4.out).mono ?_
      rintro e w5 ⟨rfl, rfl⟩
      clear K4
      go_wp2_with fail
      refine (HK.out _ (HM.out.below HB4.out)).mono ?_
      rintro e w6 ⟨rfl, hb6⟩
      go_wp2
      go_ret
      exact ⟨rfl, below_then HB4.out hb6⟩

theorem nameSt_ok {l : List UInt8} (h : nameSt l = 0) : l.length ≤ 24 ∧ l ≠ [] ∧ ∀ c ∈ l, c ≠ 47 := by
  unfold nameSt at h
  split at h
  · omega
  · rename_i hb
    split at h
    · omega
    · refine ⟨by omega, fun e => hb (by rw [e]; rfl), fun c hc e => hb ?_⟩
      subst e
      have : l.contains 47 = true := by rw [List.contains_iff_mem]; exact hc
      rw [this]
      simp
set_option maxHeartbeats 800000 in
theorem nameBackLaw_any (A : Option Addr) (c : Nat) (ps : List (List UInt8)) (w : World) (hn : ps.length ≤ maxLen ∧ ps.length ≤ c) (hA : At w 1 A (ps.map str1)) (hm : MxLen w) (hp : ∀ p ∈ ps, p.length ≤ maxLen) :
    Calls Tryd.prog 4 #[.slice A ps.length c] w fun e w' => e = .returned (.bool true) ∧ Below w.heap.size w w' := by
  obtain ⟨hn1, hn2⟩ := hn
  unfold maxLen at hn1 hp
  have HK := Lib.hid (fun W h => known4_any W h)
  have HM := Lib.hid hm
  have HPM := Lib.hid hp
  clear hm hp
  go_enter Tryd.func4, Tryd.ntmps4
  by_cases hq2 : 30 < (ps.length : Int)
  · go_wp2_with fail
    refine (HK.out _ HM.out).mono ?_
    rintro e w1 ⟨rfl, hb1⟩
    go_wp2
    go_ret
    exact ⟨rfl, hb1⟩
  have HPS := Lib.hid (show ∀ (j : Nat) (hj : j < ps.length), j < 0 → nameSt ps[j] = 0 from fun _ _ h => absurd h (Nat.not_lt_zero _))
  go_wp2
  go_loop [3] (fun i => ∃ k : Nat, k ≤ ps.length ∧ i = .int .i64 k ∧ ∀ (j : Nat) (hj : j < ps.length), j < k → nameSt ps[j] = 0) (fun i => ps.length - (intOf i).toNat)
  case atStart => exact ⟨0, Nat.zero_le _, rfl, HPS.out⟩
  case round =>
    clear HPS
    obtain ⟨k, hk, rfl, hno⟩ := hrel
    by_cases hlk : k < ps.length
    · obtain ⟨b, off, rfl, hcell⟩ := strs_cell hA hlk
      have hk0 : (0 : Int) ≤ (k : Int) := Int.natCast_nonneg _
      have hk1 : (k : Int) < (ps.length : Int) := by omega
      have hpl := HPM.out ps[k] (List.getElem_mem hlk)
      have HC := Lib.hid (check4_any ps[k] w hpl)
      have HN := fun (h0 : nameSt ps[k] = 0) => (show ∀ (j : Nat) (hj : j < ps.length), j < k + 1 → nameSt ps[j] = 0 from fun j hj h => by
          rcases Nat.lt_or_ge j k with h1 | h1
          · exact hno j hj h1
          · obtain rfl : j = k := by omega
            exact h0)
      have HN := Lib.hid HN
      generalize nameSt ps[k] = S at *
      clear hA hno hpl
      go_wp2_with fail
      refine HC.out.mono ?_
      rintro e w1 ⟨rfl, rfl⟩
      by_cases hs : S = 0
      · have HN2 := Lib.hid (HN.out hs)
        subst hs
        go_wp2
        go_round
        case rel => exact ⟨k + 1, by omega, by go_num, HN2.out⟩
        case measure => simp [intOf]; omega
      · have hs2 : (S != 0) = true := by simpa using hs
        clear hs HN
        go_wp2_with fail
        refine (HK.out _ HM.out).mono ?_
        rintro e w1 ⟨rfl, hb1⟩
        go_wp2
        go_ret
        exact ⟨rfl, hb1⟩
    · obtain rfl : k = ps.length := by omega
      have hk1 : ¬ (ps.length : Int) < (ps.length : Int) := by omega
      have hok : ∀ p ∈ ps, p.length ≤ 24 ∧ p ≠ [] ∧ ∀ c ∈ p, c ≠ 47 := fun p hp => by
        obtain ⟨j, hj, rfl⟩ := List.getElem_of_mem hp
        exact nameSt_ok (hno j hj hj)
      have hjl : (joinL ps).length ≤ 1000000 := by
        unfold joinL
        split
        · simp
        · have hlen : ∀ (l : List (List UInt8)), (∀ p ∈ l, p.length ≤ 24) → ((l.map (47 :: ·)).flatten).length ≤ l.length * 25 := fun l => by
            induction l with
            | nil => simp
            | cons p l ih =>
              intro h
              have h1 := h p (by simp)
              have h2 := ih (fun q hq => h q (by simp [hq]))
              rw [List.map_cons, List.flatten_cons, List.length_append, List.length_cons, List.length_cons, Nat.succ_mul]
              omega
          have := hlen ps (fun p hp => (hok p hp).1)
          omega
      have K3 := Lib.hid (joinP4_any A c ps w (by omega) (fun p hp => by have := (hok p hp).1; omega) hA hn2)
      have K1 := Lib.hid (fun W h => split4_any (joinL ps) W hjl h)
      rw [fields_join (fun p hp => (hok p hp).2)] at K1
      generalize joinL ps = J at *
      have HA := Lib.hid hA
      clear hno hok hA
      go_wp2_with fail
      refine K3.out.mono ?_
      rintro e w1 ⟨rfl, hb1⟩
      have HB1 := Lib.hid hb1
      clear hb1 K3
      go_wp2_with fail
      refine (K1.out _ (HM.out.below HB1.out)).mono ?_
      rintro e w2 ⟨v1, rfl, hR1, hb2⟩
      obtain ⟨A1, c1, hv1, hA1⟩ := hR1.at_
      rw [List.length_map] at hv1
      subst hv1
      have HB2 := Lib.hid (below_then HB1.out hb2)
      have HS := Lib.hid ((same4_any A1 A c1 c ps ps w2 (by omega) (by omega) hA1 (HA.out.below HB2.out)).mono (R' := fun e w' => e = .returned (.bool true) ∧ Below w2.heap.size w2 w') (by rintro e w' ⟨rfl, h⟩; exact ⟨by rw [decide_eq_true rfl], h⟩))
      clear hR1 hA1 hb2 K1
      go_wp2_with fail
      refine HS.out.mono ?_
      rintro e w3 ⟨rfl, hb3⟩
      have HB3 := Lib.hid (below_then HB2.out hb3)
      clear hb3 HS
      go_wp2_with fail
      refine (HK.out _ (HM.out.below HB3.out)).mono ?_
      rintro e w6 ⟨rfl, hb6⟩
      go_wp2
      go_ret
      exact ⟨rfl, below_then HB3.out hb6⟩
end Go.Proofs.YtjjlkdmpnpejjaaDoor

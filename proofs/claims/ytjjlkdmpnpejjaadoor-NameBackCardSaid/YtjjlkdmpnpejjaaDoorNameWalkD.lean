/-
  Layer 4, walks: the document's size of a rune (written by wip/tools/gensize4.py). Condition: machine texts.
-/
import Derived.Test.YtjjlkdmpnpejjaaDoorNameWalkB
import Derived.Test.YtjjlkdmpnpejjaaDoorNamePureC
namespace Go.Proofs.YtjjlkdmpnpejjaaDoor
open Go.RowKit
attribute [local go_sem ↓] Go.wp_at_zero Go.wp_at_succ
attribute [local go_sem] rowAt_ptr rowOf_drew rowOf_drewN rowOf_alloc_past rowOf_new

def Pair4 (p : Nat × Nat) (w : World) (e : Ending) (w' : World) : Prop := e = .returned (.tuple #[.int .i64 (p.1 : Int), .int .i64 (p.2 : Int)]) ∧ w = w'
theorem Pair4.of {p : Nat × Nat} {w : World} {a b : Int} (h1 : a = (p.1 : Int)) (h2 : b = (p.2 : Int)) : Pair4 p w (.returned (.tuple #[.int .i64 a, .int .i64 b])) w := ⟨by rw [h1, h2], rfl⟩

set_option maxRecDepth 20000 in
set_option maxHeartbeats 1600000 in
theorem size4_one (l : List UInt8) (i : Nat) (w : World) (hl : l.length ≤ 9223372036854775807) (hi : i < l.length) (hc : (l[i]).toNat < 128) :
    Calls Tryd.prog 30 #[.string (bs l), .int .i64 (i : Int)] w (Pair4 (rsz (l.drop i)) w) := by
  have hsz := bs_size l
  have h00 : at0 (l.drop i) 0 = (l[i]).toNat := at0_at (k := 0) hi
  have hr : rsz (l.drop i) = (1, (l[i]).toNat) := by unfold rsz; rw [h00, if_pos hc]
  rw [hr]
  have hi0 : (0 : Int) ≤ (i : Int) := Int.natCast_nonneg _
  have hi1 : (i : Int) < (l.length : Int) := by omega
  have hg : (bs l)[i]'(by rw [hsz]; exact hi) = l[i] := rfl
  generalize l[i] = c at *
  have hc1 : (c.toNat : Int) < 128 := by omega
  clear h00 hr hc
  go_enter Tryd.func30, Tryd.ntmps30
  go_wp2
  go_ret2
  exact Pair4.of rfl rfl

set_option maxRecDepth 20000 in
set_option maxHeartbeats 1600000 in
theorem size4_none (l : List UInt8) (i : Nat) (w : World) (hl : l.length ≤ 9223372036854775807) (hi : i < l.length) (hc : ¬ (l[i]).toNat < 128) (h2 : ¬ (194 ≤ (l[i]).toNat ∧ (l[i]).toNat ≤ 223)) (h3 : ¬ (224 ≤ (l[i]).toNat ∧ (l[i]).toNat ≤ 239)) (h4 : ¬ (240 ≤ (l[i]).toNat ∧ (l[i]).toNat ≤ 244)) :
    Calls Tryd.prog 30 #[.string (bs l), .int .i64 (i : Int)] w (Pair4 (rsz (l.drop i)) w) := by
  have hsz := bs_size l
  have h00 : at0 (l.drop i) 0 = (l[i]).toNat := at0_at (k := 0) hi
  have hr : rsz (l.drop i) = (0, 0) := by unfold rsz; rw [h00, if_neg hc, if_neg h2, if_neg h3, if_neg h4]
  rw [hr]
  have hi0 : (0 : Int) ≤ (i : Int) := Int.natCast_nonneg _
  have hi1 : (i : Int) < (l.length : Int) := by omega
  have hg : (bs l)[i]'(by rw [hsz]; exact hi) = l[i] := rfl
  generalize l[i] = c at *
  clear h00 hr
  have hc255 := UInt8.toNat_lt c
  have d1 : ¬ (c.toNat : Int) < 128 := by omega
  rcases Nat.lt_or_ge c.toNat 194 with h | h
  · have d2 : ¬ (194 : Int) ≤ (c.toNat : Int) := by omega
    have d3 : ¬ (224 : Int) ≤ (c.toNat : Int) := by omega
    have d4 : ¬ (240 : Int) ≤ (c.toNat : Int) := by omega
    clear hc h2 h3 h4 h
    go_enter Tryd.func30, Tryd.ntmps30
    go_wp2
    go_ret2
    exact Pair4.of rfl rfl
  · have d2 : ¬ (c.toNat : Int) ≤ 223 := by omega
    have d3 : ¬ (c.toNat : Int) ≤ 239 := by omega
    have d4 : ¬ (c.toNat : Int) ≤ 244 := by omega
    have d5 : (194 : Int) ≤ (c.toNat : Int) := by omega
    have d6 : (224 : Int) ≤ (c.toNat : Int) := by omega
    have d7 : (240 : Int) ≤ (c.toNat : Int) := by omega
    clear hc h2 h3 h4 h
    go_enter Tryd.func30, Tryd.ntmps30
    go_wp2
    go_ret2
    exact Pair4.of rfl rfl

set_option maxRecDepth 20000 in
set_option maxHeartbeats 1600000 in
theorem size4_n2 (l : List UInt8) (i : Nat) (w : World) (hl : l.length ≤ 9223372036854775807) (hi : i < l.length) (hc : 194 ≤ (l[i]).toNat ∧ (l[i]).toNat ≤ 223) :
    Calls Tryd.prog 30 #[.string (bs l), .int .i64 (i : Int)] w (Pair4 (rsz (l.drop i)) w) := by
  have hsz := bs_size l
  have h00 : at0 (l.drop i) 0 = (l[i]).toNat := at0_at (k := 0) hi
  have hr : rsz (l.drop i) = rfin (l.drop i) 2 128 ((l[i]).toNat - 192) := by unfold rsz; rw [h00, if_neg (by omega), if_pos hc]
  rw [hr]
  have hlen : (l.drop i).length = l.length - i := List.length_drop
  have hat : ∀ k (h : i + k < l.length), at0 (l.drop i) k = (l[i + k]).toNat := fun k h => at0_at h
  have hi0 : (0 : Int) ≤ (i : Int) := Int.natCast_nonneg _
  have hi1 : (i : Int) < (l.length : Int) := by omega
  have hg : (bs l)[i]'(by rw [hsz]; exact hi) = l[i] := rfl
  obtain ⟨c, hcd⟩ : ∃ c, c = l[i] := ⟨_, rfl⟩
  rw [← hcd] at hg hc ⊢
  obtain ⟨c1, c2⟩ := hc
  have hc255 := UInt8.toNat_lt c
  have d1 : ¬ (c.toNat : Int) < 128 := by omega
  have d2 : (194 : Int) ≤ (c.toNat : Int) := by omega
  have d3 : (c.toNat : Int) ≤ 223 := by omega
  obtain ⟨v0, hv0⟩ : ∃ v0, v0 = c.toNat - 192 := ⟨_, rfl⟩
  have d4 : (c.toNat : Int) - 192 = (v0 : Int) := by omega
  have hv31 : v0 ≤ 31 := by omega
  rw [← hv0]
  generalize l.drop i = s at *
  have HS := Lib.hid (fun (h : s.length < 2) => rfin_short (least := 128) (v := v0) h)
  have HB := Lib.hid (fun (j : Nat) (hj : j + 1 < 2) (h : contB s (j + 1) = false) => rfin_bad (least := 128) (v := v0) hj h)
  have HG := Lib.hid (fun (hl : ¬ s.length < 2) (h : ∀ j, j + 1 < 2 → contB s (j + 1) = true) => rfin_good (least := 128) (v := v0) hl h)
  have HV := Lib.hid (fun (m : Nat) (h : m ≤ 3) => vAcc_le s hv31 h)
  have HL := Lib.hid hlen
  have HA := Lib.hid hat
  generalize rfin s 2 128 v0 = R at *
  clear hr h00 hlen hat hcd hv0 c1 c2 hv31
  go_enter Tryd.func30, Tryd.ntmps30
  by_cases hn : (2 : Int) > (l.length : Int) - (i : Int)
  · have HZ := Lib.hid (HS.out (by have := HL.out; omega))
    clear HS HB HG HV
    go_wp2
    all_goals first
      | (exfalso; omega)
      | (go_ret2; rw [HZ.out]; exact Pair4.of rfl rfl)
  · have hn2 : ¬ (2 : Int) > (l.length : Int) - (i : Int) := hn
    have HN := Lib.hid (show i + 2 ≤ l.length by omega)
    go_wp2
    all_goals try (exfalso; omega)
    go_loop [9, 10] (fun v k => ∃ m : Nat, m + 1 ≤ 2 ∧ k = .int .i64 ((m + 1 : Nat) : Int) ∧ v = .int .i64 (vAcc s v0 m : Int) ∧ ∀ j, j < m → contB s (j + 1) = true) (fun _ k => 2 - (intOf k).toNat)
    case atStart => exact ⟨0, by omega, rfl, rfl, fun _ h => absurd h (Nat.not_lt_zero _)⟩
    case round =>
      obtain ⟨m, hm, rfl, rfl, hcon⟩ := hrel
      have HC := Lib.hid hcon
      have hvm := HV.out m (by omega)
      obtain ⟨V, hV⟩ : ∃ V, V = vAcc s v0 m := ⟨_, rfl⟩
      rw [← hV] at hvm ⊢
      have HVV := Lib.hid hV
      clear hcon hV
      by_cases hlt : m + 1 < 2
      · have hq : i + (m + 1) < l.length := by have := HN.out; omega
        have hat := HA.out (m + 1) hq
        obtain ⟨q, hqd⟩ : ∃ q, q = i + (m + 1) := ⟨_, rfl⟩
        have hqi : (i : Int) + ((m : Int) + 1) = (q : Int) := by omega
        have hq0 : (0 : Int) ≤ (q : Int) := Int.natCast_nonneg _
        have hq1 : (q : Int) < (l.length : Int) := by omega
        have hql : q < l.length := by omega
        have hgq : (bs l)[q]'(by rw [hsz]; exact hql) = l[q]'hql := rfl
        have hat2 : at0 s (m + 1) = (l[q]'hql).toNat := by subst hqd; exact hat
        clear hat hqd
        generalize l[q]'hql = d at *
        have hd := UInt8.toNat_lt d
        have hm9 : (m : Int) + 1 < 2 := by omega
        by_cases hcd : 128 ≤ d.toNat ∧ d.toNat ≤ 191
        · obtain ⟨hd1, hd2⟩ := hcd
          have HCB := Lib.hid (show contB s (m + 1) = true by unfold contB; rw [hat2]; exact decide_eq_true ⟨hd1, hd2⟩)
          have HNV := Lib.hid (show vAcc s v0 (m + 1) = 64 * V + d.toNat - 128 by rw [HVV.out, ← hat2]; rfl)
          clear hat2
          have e1 : ¬ (d.toNat : Int) < 128 := by omega
          have e2 : (d.toNat : Int) ≤ 191 := by omega
          go_wp2
          go_round
          case rel => exact ⟨m + 1, by omega, by go_num, by rw [HNV.out]; congr 1; omega, fun j hj => by
            rcases Nat.lt_or_ge j m with h | h
            · exact HC.out j h
            · obtain rfl : j = m := by omega
              exact HCB.out⟩
          case measure => simp [intOf]; omega
        · have HZ := Lib.hid (HB.out m hlt (by unfold contB; rw [hat2]; exact decide_eq_false hcd))
          clear hat2
          go_wp2
          all_goals first
            | (exfalso; omega)
            | (go_ret2; rw [HZ.out]; exact Pair4.of rfl rfl)
      · obtain rfl : m = 1 := by omega
        have HGG := Lib.hid (HG.out (by have := HL.out; have := HN.out; omega) (fun j hj => HC.out j (by omega)))
        clear HG HB HS HV HA hm hlt
        go_wp2
        all_goals first
          | (exfalso; omega)
          | (go_ret2
             rw [HGG.out, show 2 - 1 = 1 from rfl, ← HVV.out]
             first
               | (rw [if_neg (by omega)]; exact Pair4.of rfl rfl)
               | (rw [if_pos (by omega)]; exact Pair4.of rfl rfl))

set_option maxRecDepth 20000 in
set_option maxHeartbeats 1600000 in
theorem size4_n3 (l : List UInt8) (i : Nat) (w : World) (hl : l.length ≤ 9223372036854775807) (hi : i < l.length) (hc : 224 ≤ (l[i]).toNat ∧ (l[i]).toNat ≤ 239) :
    Calls Tryd.prog 30 #[.string (bs l), .int .i64 (i : Int)] w (Pair4 (rsz (l.drop i)) w) := by
  have hsz := bs_size l
  have h00 : at0 (l.drop i) 0 = (l[i]).toNat := at0_at (k := 0) hi
  have hr : rsz (l.drop i) = rfin (l.drop i) 3 2048 ((l[i]).toNat - 224) := by unfold rsz; rw [h00, if_neg (by omega), if_neg (by omega), if_pos hc]
  rw [hr]
  have hlen : (l.drop i).length = l.length - i := List.length_drop
  have hat : ∀ k (h : i + k < l.length), at0 (l.drop i) k = (l[i + k]).toNat := fun k h => at0_at h
  have hi0 : (0 : Int) ≤ (i : Int) := Int.natCast_nonneg _
  have hi1 : (i : Int) < (l.length : Int) := by omega
  have hg : (bs l)[i]'(by rw [hsz]; exact hi) = l[i] := rfl
  obtain ⟨c, hcd⟩ : ∃ c, c = l[i] := ⟨_, rfl⟩
  rw [← hcd] at hg hc ⊢
  obtain ⟨c1, c2⟩ := hc
  have hc255 := UInt8.toNat_lt c
  have d1 : ¬ (c.toNat : Int) < 128 := by omega
  have d2 : (224 : Int) ≤ (c.toNat : Int) := by omega
  have d3 : (c.toNat : Int) ≤ 239 := by omega
  obtain ⟨v0, hv0⟩ : ∃ v0, v0 = c.toNat - 224 := ⟨_, rfl⟩
  have d4 : (c.toNat : Int) - 224 = (v0 : Int) := by omega
  have hv31 : v0 ≤ 31 := by omega
  rw [← hv0]
  generalize l.drop i = s at *
  have HS := Lib.hid (fun (h : s.length < 3) => rfin_short (least := 2048) (v := v0) h)
  have HB := Lib.hid (fun (j : Nat) (hj : j + 1 < 3) (h : contB s (j + 1) = false) => rfin_bad (least := 2048) (v := v0) hj h)
  have HG := Lib.hid (fun (hl : ¬ s.length < 3) (h : ∀ j, j + 1 < 3 → contB s (j + 1) = true) => rfin_good (least := 2048) (v := v0) hl h)
  have HV := Lib.hid (fun (m : Nat) (h : m ≤ 3) => vAcc_le s hv31 h)
  have HL := Lib.hid hlen
  have HA := Lib.hid hat
  generalize rfin s 3 2048 v0 = R at *
  clear hr h00 hlen hat hcd hv0 c1 c2 hv31
  go_enter Tryd.func30, Tryd.ntmps30
  by_cases hn : (3 : Int) > (l.length : Int) - (i : Int)
  · have HZ := Lib.hid (HS.out (by have := HL.out; omega))
    clear HS HB HG HV
    go_wp2
    all_goals first
      | (exfalso; omega)
      | (go_ret2; rw [HZ.out]; exact Pair4.of rfl rfl)
  · have hn2 : ¬ (3 : Int) > (l.length : Int) - (i : Int) := hn
    have HN := Lib.hid (show i + 3 ≤ l.length by omega)
    go_wp2
    all_goals try (exfalso; omega)
    go_loop [9, 10] (fun v k => ∃ m : Nat, m + 1 ≤ 3 ∧ k = .int .i64 ((m + 1 : Nat) : Int) ∧ v = .int .i64 (vAcc s v0 m : Int) ∧ ∀ j, j < m → contB s (j + 1) = true) (fun _ k => 3 - (intOf k).toNat)
    case atStart => exact ⟨0, by omega, rfl, rfl, fun _ h => absurd h (Nat.not_lt_zero _)⟩
    case round =>
      obtain ⟨m, hm, rfl, rfl, hcon⟩ := hrel
      have HC := Lib.hid hcon
      have hvm := HV.out m (by omega)
      obtain ⟨V, hV⟩ : ∃ V, V = vAcc s v0 m := ⟨_, rfl⟩
      rw [← hV] at hvm ⊢
      have HVV := Lib.hid hV
      clear hcon hV
      by_cases hlt : m + 1 < 3
      · have hq : i + (m + 1) < l.length := by have := HN.out; omega
        have hat := HA.out (m + 1) hq
        obtain ⟨q, hqd⟩ : ∃ q, q = i + (m + 1) := ⟨_, rfl⟩
        have hqi : (i : Int) + ((m : Int) + 1) = (q : Int) := by omega
        have hq0 : (0 : Int) ≤ (q : Int) := Int.natCast_nonneg _
        have hq1 : (q : Int) < (l.length : Int) := by omega
        have hql : q < l.length := by omega
        have hgq : (bs l)[q]'(by rw [hsz]; exact hql) = l[q]'hql := rfl
        have hat2 : at0 s (m + 1) = (l[q]'hql).toNat := by subst hqd; exact hat
        clear hat hqd
        generalize l[q]'hql = d at *
        have hd := UInt8.toNat_lt d
        have hm9 : (m : Int) + 1 < 3 := by omega
        by_cases hcd : 128 ≤ d.toNat ∧ d.toNat ≤ 191
        · obtain ⟨hd1, hd2⟩ := hcd
          have HCB := Lib.hid (show contB s (m + 1) = true by unfold contB; rw [hat2]; exact decide_eq_true ⟨hd1, hd2⟩)
          have HNV := Lib.hid (show vAcc s v0 (m + 1) = 64 * V + d.toNat - 128 by rw [HVV.out, ← hat2]; rfl)
          clear hat2
          have e1 : ¬ (d.toNat : Int) < 128 := by omega
          have e2 : (d.toNat : Int) ≤ 191 := by omega
          go_wp2
          go_round
          case rel => exact ⟨m + 1, by omega, by go_num, by rw [HNV.out]; congr 1; omega, fun j hj => by
            rcases Nat.lt_or_ge j m with h | h
            · exact HC.out j h
            · obtain rfl : j = m := by omega
              exact HCB.out⟩
          case measure => simp [intOf]; omega
        · have HZ := Lib.hid (HB.out m hlt (by unfold contB; rw [hat2]; exact decide_eq_false hcd))
          clear hat2
          go_wp2
          all_goals first
            | (exfalso; omega)
            | (go_ret2; rw [HZ.out]; exact Pair4.of rfl rfl)
      · obtain rfl : m = 2 := by omega
        have HGG := Lib.hid (HG.out (by have := HL.out; have := HN.out; omega) (fun j hj => HC.out j (by omega)))
        clear HG HB HS HV HA hm hlt
        go_wp2
        all_goals first
          | (exfalso; omega)
          | (go_ret2
             rw [HGG.out, show 3 - 1 = 2 from rfl, ← HVV.out]
             first
               | (rw [if_neg (by omega)]; exact Pair4.of rfl rfl)
               | (rw [if_pos (by omega)]; exact Pair4.of rfl rfl))

set_option maxRecDepth 20000 in
set_option maxHeartbeats 1600000 in
theorem size4_n4 (l : List UInt8) (i : Nat) (w : World) (hl : l.length ≤ 9223372036854775807) (hi : i < l.length) (hc : 240 ≤ (l[i]).toNat ∧ (l[i]).toNat ≤ 244) :
    Calls Tryd.prog 30 #[.string (bs l), .int .i64 (i : Int)] w (Pair4 (rsz (l.drop i)) w) := by
  have hsz := bs_size l
  have h00 : at0 (l.drop i) 0 = (l[i]).toNat := at0_at (k := 0) hi
  have hr : rsz (l.drop i) = rfin (l.drop i) 4 65536 ((l[i]).toNat - 240) := by unfold rsz; rw [h00, if_neg (by omega), if_neg (by omega), if_neg (by omega), if_pos hc]
  rw [hr]
  have hlen : (l.drop i).length = l.length - i := List.length_drop
  have hat : ∀ k (h : i + k < l.length), at0 (l.drop i) k = (l[i + k]).toNat := fun k h => at0_at h
  have hi0 : (0 : Int) ≤ (i : Int) := Int.natCast_nonneg _
  have hi1 : (i : Int) < (l.length : Int) := by omega
  have hg : (bs l)[i]'(by rw [hsz]; exact hi) = l[i] := rfl
  obtain ⟨c, hcd⟩ : ∃ c, c = l[i] := ⟨_, rfl⟩
  rw [← hcd] at hg hc ⊢
  obtain ⟨c1, c2⟩ := hc
  have hc255 := UInt8.toNat_lt c
  have d1 : ¬ (c.toNat : Int) < 128 := by omega
  have d2 : (240 : Int) ≤ (c.toNat : Int) := by omega
  have d3 : (c.toNat : Int) ≤ 244 := by omega
  obtain ⟨v0, hv0⟩ : ∃ v0, v0 = c.toNat - 240 := ⟨_, rfl⟩
  have d4 : (c.toNat : Int) - 240 = (v0 : Int) := by omega
  have hv31 : v0 ≤ 31 := by omega
  rw [← hv0]
  generalize l.drop i = s at *
  have HS := Lib.hid (fun (h : s.length < 4) => rfin_short (least := 65536) (v := v0) h)
  have HB := Lib.hid (fun (j : Nat) (hj : j + 1 < 4) (h : contB s (j + 1) = false) => rfin_bad (least := 65536) (v := v0) hj h)
  have HG := Lib.hid (fun (hl : ¬ s.length < 4) (h : ∀ j, j + 1 < 4 → contB s (j + 1) = true) => rfin_good (least := 65536) (v := v0) hl h)
  have HV := Lib.hid (fun (m : Nat) (h : m ≤ 3) => vAcc_le s hv31 h)
  have HL := Lib.hid hlen
  have HA := Lib.hid hat
  generalize rfin s 4 65536 v0 = R at *
  clear hr h00 hlen hat hcd hv0 c1 c2 hv31
  go_enter Tryd.func30, Tryd.ntmps30
  by_cases hn : (4 : Int) > (l.length : Int) - (i : Int)
  · have HZ := Lib.hid (HS.out (by have := HL.out; omega))
    clear HS HB HG HV
    go_wp2
    all_goals first
      | (exfalso; omega)
      | (go_ret2; rw [HZ.out]; exact Pair4.of rfl rfl)
  · have hn2 : ¬ (4 : Int) > (l.length : Int) - (i : Int) := hn
    have HN := Lib.hid (show i + 4 ≤ l.length by omega)
    go_wp2
    all_goals try (exfalso; omega)
    go_loop [9, 10] (fun v k => ∃ m : Nat, m + 1 ≤ 4 ∧ k = .int .i64 ((m + 1 : Nat) : Int) ∧ v = .int .i64 (vAcc s v0 m : Int) ∧ ∀ j, j < m → contB s (j + 1) = true) (fun _ k => 4 - (intOf k).toNat)
    case atStart => exact ⟨0, by omega, rfl, rfl, fun _ h => absurd h (Nat.not_lt_zero _)⟩
    case round =>
      obtain ⟨m, hm, rfl, rfl, hcon⟩ := hrel
      have HC := Lib.hid hcon
      have hvm := HV.out m (by omega)
      obtain ⟨V, hV⟩ : ∃ V, V = vAcc s v0 m := ⟨_, rfl⟩
      rw [← hV] at hvm ⊢
      have HVV := Lib.hid hV
      clear hcon hV
      by_cases hlt : m + 1 < 4
      · have hq : i + (m + 1) < l.length := by have := HN.out; omega
        have hat := HA.out (m + 1) hq
        obtain ⟨q, hqd⟩ : ∃ q, q = i + (m + 1) := ⟨_, rfl⟩
        have hqi : (i : Int) + ((m : Int) + 1) = (q : Int) := by omega
        have hq0 : (0 : Int) ≤ (q : Int) := Int.natCast_nonneg _
        have hq1 : (q : Int) < (l.length : Int) := by omega
        have hql : q < l.length := by omega
        have hgq : (bs l)[q]'(by rw [hsz]; exact hql) = l[q]'hql := rfl
        have hat2 : at0 s (m + 1) = (l[q]'hql).toNat := by subst hqd; exact hat
        clear hat hqd
        generalize l[q]'hql = d at *
        have hd := UInt8.toNat_lt d
        have hm9 : (m : Int) + 1 < 4 := by omega
        by_cases hcd : 128 ≤ d.toNat ∧ d.toNat ≤ 191
        · obtain ⟨hd1, hd2⟩ := hcd
          have HCB := Lib.hid (show contB s (m + 1) = true by unfold contB; rw [hat2]; exact decide_eq_true ⟨hd1, hd2⟩)
          have HNV := Lib.hid (show vAcc s v0 (m + 1) = 64 * V + d.toNat - 128 by rw [HVV.out, ← hat2]; rfl)
          clear hat2
          have e1 : ¬ (d.toNat : Int) < 128 := by omega
          have e2 : (d.toNat : Int) ≤ 191 := by omega
          go_wp2
          go_round
          case rel => exact ⟨m + 1, by omega, by go_num, by rw [HNV.out]; congr 1; omega, fun j hj => by
            rcases Nat.lt_or_ge j m with h | h
            · exact HC.out j h
            · obtain rfl : j = m := by omega
              exact HCB.out⟩
          case measure => simp [intOf]; omega
        · have HZ := Lib.hid (HB.out m hlt (by unfold contB; rw [hat2]; exact decide_eq_false hcd))
          clear hat2
          go_wp2
          all_goals first
            | (exfalso; omega)
            | (go_ret2; rw [HZ.out]; exact Pair4.of rfl rfl)
      · obtain rfl : m = 3 := by omega
        have HGG := Lib.hid (HG.out (by have := HL.out; have := HN.out; omega) (fun j hj => HC.out j (by omega)))
        clear HG HB HS HV HA hm hlt
        go_wp2
        all_goals first
          | (exfalso; omega)
          | (go_ret2
             rw [HGG.out, show 4 - 1 = 3 from rfl, ← HVV.out]
             first
               | (rw [if_neg (by omega)]; exact Pair4.of rfl rfl)
               | (rw [if_pos (by omega)]; exact Pair4.of rfl rfl))

theorem size4_any (l : List UInt8) (i : Nat) (w : World) (hl : l.length ≤ 9223372036854775807) (hi : i < l.length) :
    Calls Tryd.prog 30 #[.string (bs l), .int .i64 (i : Int)] w (Pair4 (rsz (l.drop i)) w) := by
  by_cases h1 : (l[i]).toNat < 128
  · exact size4_one l i w hl hi h1
  by_cases h2 : 194 ≤ (l[i]).toNat ∧ (l[i]).toNat ≤ 223
  · exact size4_n2 l i w hl hi h2
  by_cases h3 : 224 ≤ (l[i]).toNat ∧ (l[i]).toNat ≤ 239
  · exact size4_n3 l i w hl hi h3
  by_cases h4 : 240 ≤ (l[i]).toNat ∧ (l[i]).toNat ≤ 244
  · exact size4_n4 l i w hl hi h4
  · exact size4_none l i w hl hi h1 h2 h3 h4
end Go.Proofs.YtjjlkdmpnpejjaaDoor

/-
  Layer 3, walks: the program's reader of decimal digits. Condition: a machine text.
-/
import Derived.Test.YtlblenojhfeboaaDoorFhWalkB
import Derived.Test.YtlblenojhfeboaaDoorFhTextPure
import Derived.Test.YtlblenojhfeboaaDoorXdrReadD
namespace Go.Proofs.YtlblenojhfeboaaDoor
open Go.RowKit
attribute [local go_sem ↓] Go.wp_at_zero Go.wp_at_succ
attribute [local go_sem] rowAt_ptr rowOf_drew rowOf_drewN rowOf_alloc_past rowOf_new

set_option maxRecDepth 20000 in
set_option maxHeartbeats 1600000 in
theorem number3_any (l : List UInt8) (w : World) (hl : l.length ≤ 9223372036854775807) : Calls Tryd.prog 43 #[.string (bs l)] w fun e w' => ∃ v, e = .returned (.int .i64 v) ∧ NumP l v ∧ Below w.heap.size w w' := by
  have hsz := bs_size l
  by_cases h0 : l.length = 0
  · have HP := Lib.hid (NumP.bad_len (.inl h0))
    have hne : ((l.length : Int) == 0) = true := by rw [beq_iff_eq]; omega
    clear h0
    go_enter Tryd.func43, Tryd.ntmps43
    go_wp2
    go_ret
    exact ⟨-1, rfl, HP.out, Below.refl _ _⟩
  by_cases h19 : 19 < l.length
  · have HP := Lib.hid (NumP.bad_len (.inr h19))
    have hne : ((l.length : Int) == 0) = false := by rw [beq_eq_false_iff_ne]; omega
    have hg : (19 : Int) < (l.length : Int) := by omega
    clear h0 h19
    go_enter Tryd.func43, Tryd.ntmps43
    go_wp2
    go_ret
    exact ⟨-1, rfl, HP.out, Below.refl _ _⟩
  have hne : ((l.length : Int) == 0) = false := by rw [beq_eq_false_iff_ne]; omega
  have hg : ¬ (19 : Int) < (l.length : Int) := by omega
  obtain ⟨v5, w5, hrun, hRB, hb5⟩ := RowB.of_string (P := Tryd.prog) w 9 59 l Tryd.underlying9 Tryd.underlying59 Tryd.underlying5
  obtain ⟨g, cs, rfl, hgw, hlc, hblk, htk⟩ : ∃ g cs, v5 = .slice (some ⟨g, 0, none⟩) l.length cs.length ∧ w.heap.size ≤ g ∧ l.length ≤ cs.length ∧ BlkM w5 g 5 cs ∧ cs.take l.length = rawV l := by
    rcases hRB with ⟨_, h⟩ | h
    · rw [h] at h0; simp at h0
    · exact h
  have hcell : ∀ (k : Nat) (hk : k < l.length), w5.cell? ⟨g, k, none⟩ = some (.int .u8 (l[k].toNat : Int)) := fun k hk => by
    have h1 := hblk.cell k
    rw [h1]
    have h2 : (cs.take l.length)[k]? = some (.int .u8 (l[k].toNat : Int)) := by
      rw [htk]
      simp [rawV, u8, hk]
    rwa [List.getElem?_take_of_lt hk] at h2
  have HCELL := Lib.hid hcell
  have HB5 := Lib.hid hb5
  have hl19 : l.length ≤ 19 := by omega
  clear hRB hb5 hblk htk hcell hgw h0 h19 hl
  go_enter Tryd.func43, Tryd.ntmps43
  go_upto_region 5 with fail
  clear hrun hsz hne hg
  go_loop [3, 18] (fun nv iv => ∃ (k m : Nat), k ≤ l.length ∧ iv = .int .i64 (k : Int) ∧ nv = .int .i64 (m : Int) ∧ m ≤ 9223372036854775807 ∧ decVal (l.take k) = m) (fun _ iv => l.length - (intOf iv).toNat)
  case atStart => exact ⟨0, 0, Nat.zero_le _, rfl, rfl, by omega, rfl⟩
  case round =>
    obtain ⟨k, m, hkl, rfl, rfl, hm, hv⟩ := hrel
    by_cases hk : k < l.length
    · have hk2 : (k : Int) < (l.length : Int) := by omega
      have hc := HCELL.out k hk
      have e0 : IntKind.i64.wrap ((k : Int) + 1) = (k : Int) + 1 := IntWalk.i64_in _ (by omega)
      obtain ⟨x, hx⟩ : ∃ x, x = l[k].toNat := ⟨_, rfl⟩
      rw [← hx] at hc
      have hx256 : x < 256 := by rw [hx]; exact UInt8.toNat_lt _
      have e1 : IntKind.i64.wrap ((x : Int) - 48) = (x : Int) - 48 := IntWalk.i64_in _ (by omega)
      by_cases hd : 48 ≤ x ∧ x ≤ 57
      · obtain ⟨d, hdd⟩ : ∃ d, x = 48 + d := ⟨x - 48, by omega⟩
        have e2 : (x : Int) - 48 = (d : Int) := by omega
        have hd9 : d ≤ 9 := by omega
        have g1 : ¬ (d : Int) < 0 := by omega
        have g2 : ¬ (9 : Int) < (d : Int) := by omega
        obtain ⟨D, hD⟩ : ∃ D, D + d = 9223372036854775807 := ⟨9223372036854775807 - d, by omega⟩
        have e3 : IntKind.i64.wrap (9223372036854775807 - (d : Int)) = (D : Int) := by rw [IntWalk.i64_in _ (by omega)]; omega
        obtain ⟨Q, hQ⟩ : ∃ Q, Q = D / 10 := ⟨_, rfl⟩
        have p0 : (0 : Int) ≤ (D : Int) := Int.natCast_nonneg _
        have p1 : (D : Int) ≤ 9223372036854775807 := by omega
        have e4 : (D : Int) / 10 = (Q : Int) := by omega
        have hnext : decVal (l.take (k + 1)) = 10 * m + d := by
          rw [take_snoc hk, decVal_snoc, hv, ← hx, hdd]; omega
        by_cases hbig : Q < m
        · have HP := Lib.hid (NumP.bad_big hk (by rw [hnext]; omega))
          have g3 : (Q : Int) < (m : Int) := by omega
          clear hx hdd hD hQ hnext hv hd hbig
          go_wp2
          go_ret
          exact ⟨-1, rfl, HP.out, HB5.out⟩
        · have g3 : ¬ (Q : Int) < (m : Int) := by omega
          have hm2 : 10 * m + d ≤ 9223372036854775807 := by omega
          have e5 : IntKind.i64.wrap (10 * (m : Int)) = 10 * (m : Int) := IntWalk.i64_in _ (by omega)
          have e6 : IntKind.i64.wrap (10 * (m : Int) + (d : Int)) = 10 * (m : Int) + (d : Int) := IntWalk.i64_in _ (by omega)
          have HN := Lib.hid hnext
          clear hx hdd hD hQ hnext hv hd hbig
          go_wp2
          go_round
          case rel => exact ⟨k + 1, 10 * m + d, hk, by go_num, by go_num, hm2, HN.out⟩
          case measure => simp [intOf]; omega
      · have HP := Lib.hid (NumP.bad_dig hk (by unfold isDig; rw [← hx]; exact hd))
        have hd' : (x : Int) - 48 < 0 ∨ (9 : Int) < (x : Int) - 48 := by omega
        clear hx hv hd
        rcases hd' with g1 | g1
        · go_wp2
          go_ret
          exact ⟨-1, rfl, HP.out, HB5.out⟩
        · have g2 : ¬ (x : Int) - 48 < 0 := by omega
          go_wp2
          go_ret
          exact ⟨-1, rfl, HP.out, HB5.out⟩
    · have hk2 : ¬ (k : Int) < (l.length : Int) := by omega
      have HP := Lib.hid (NumP.ok (by rw [← hv, List.take_of_length_le (by omega)]) hm)
      clear hv
      go_wp2
      go_ret
      exact ⟨(m : Int), rfl, HP.out, HB5.out⟩
end Go.Proofs.YtlblenojhfeboaaDoor

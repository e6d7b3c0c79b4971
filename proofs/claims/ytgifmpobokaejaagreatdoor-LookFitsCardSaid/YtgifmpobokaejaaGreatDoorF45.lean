/-
  Layer 3, walks of the document's own: a number's digits, which parts may be, their bytes and their text. Condition: machine numbers.
-/
import Derived.Test.YtgifmpobokaejaaGreatDoorF44
import Derived.Test.YtgifmpobokaejaaGreatDoorF09
import Derived.Test.YtgifmpobokaejaaGreatDoorF08
import Derived.Lib.ItoaLen
namespace Go.Proofs.YtgifmpobokaejaaGreatDoor
open Go.RowKit
attribute [local go_sem ↓] Go.wp_at_zero Go.wp_at_succ
attribute [local go_sem] rowAt_ptr rowOf_drew rowOf_drewN rowOf_alloc_past rowOf_new
attribute [local go_sem] Parts.at0 Parts.lat0 Parts.at1 Parts.lat1 Parts.at2 Parts.lat2 Parts.sub0_3 Parts.lsub0_3 Parts.len

def dig10L : List UInt8 := [48, 49, 50, 51, 52, 53, 54, 55, 56, 57]
theorem dig10_cut {n : Nat} (h : n < 10) : (bs dig10L).extract n (n + 1) = bs [UInt8.ofNat (48 + n)] := by
  have e : ∀ n : Fin 10, (dig10L.drop n.val).take 1 = [UInt8.ofNat (48 + n.val)] := by decide
  rw [bs_part, show n + 1 - n = 1 by omega]
  exact congrArg bs (e ⟨n, h⟩)
theorem decDigits_len {n : Nat} (h : (n : Int) ≤ 9223372036854775807) : (Lib.decDigits n).length ≤ 21 := by
  have := Lib.itoa_length_le (n : Int) (by omega) h
  rwa [Lib.itoa_nonneg] at this

set_option maxRecDepth 20000 in
set_option maxHeartbeats 800000 in
theorem digits3_any (n : Nat) (w : World) (hn : (n : Int) ≤ 9223372036854775807) : Calls Tryz.prog 114 #[.int .i64 (n : Int)] w fun e w' => e = .returned (.string (bs (Lib.decDigits n))) ∧ w = w' := by
  have hl := decDigits_len hn
  obtain ⟨D, hD⟩ : ∃ D, D = Lib.decDigits n := ⟨_, rfl⟩
  rw [← hD] at hl ⊢
  have H0 := Lib.hid (show Lib.decDigits n ++ [] = D by rw [hD, List.append_nil])
  clear hD
  go_enter Tryz.func114, Tryz.ntmps114
  go_wp2
  go_loop [0, 3] (fun nv sv => ∃ (m : Nat) (acc : List UInt8), m ≤ n ∧ nv = .int .i64 (m : Int) ∧ sv = .string (bs acc) ∧ Lib.decDigits m ++ acc = D) (fun nv _ => (intOf nv).toNat)
  case atStart => exact ⟨n, [], Nat.le_refl _, rfl, rfl, H0.out⟩
  case round =>
    clear H0
    obtain ⟨m, acc, hmn, rfl, rfl, heq⟩ := hrel
    have hacc : acc.length ≤ 21 := by have := congrArg List.length heq; rw [List.length_append] at this; omega
    have hz := bs_size acc
    obtain ⟨r, hr⟩ : ∃ r, r = m % 10 := ⟨_, rfl⟩
    obtain ⟨q, hq⟩ : ∃ q, q = m / 10 := ⟨_, rfl⟩
    have hm0 : (0 : Int) ≤ (m : Int) := Int.natCast_nonneg _
    have hm9 : (m : Int) ≤ 9223372036854775807 := by omega
    have e1 : (m : Int) % 10 = (r : Int) := by omega
    have e2 : (m : Int) / 10 = (q : Int) := by omega
    have hr10 : r < 10 := by omega
    have e3 : IntKind.i64.wrap ((r : Int) + 1) = (r : Int) + 1 := IntWalk.i64_in _ (by omega)
    have p1 : (0 : Int) ≤ (r : Int) + 1 := by omega
    have p2 : (r : Int) + 1 ≤ 10 := by omega
    have p3 : (0 : Int) ≤ (r : Int) := by omega
    have p4 : (r : Int) ≤ (r : Int) + 1 := by omega
    have HC := Lib.hid (show (bs dig10L).extract r (r + 1) ++ bs acc = bs ([UInt8.ofNat (48 + r)] ++ acc) by rw [dig10_cut hr10, bs_append])
    by_cases hq0 : q < 1
    · have HV := Lib.hid (show [UInt8.ofNat (48 + r)] ++ acc = D by
        rw [← heq, Lib.decDigits, dif_pos (show m < 10 by omega), show r = m by omega])
      have hq1 : (q : Int) < 1 := by omega
      clear heq hr hq
      go_wp2
      go_ret
      exact ⟨by rw [← HV.out, ← HC.out]; rfl, rfl⟩
    · have HV := Lib.hid (show Lib.decDigits q ++ ([UInt8.ofNat (48 + r)] ++ acc) = D by
        rw [← heq, Lib.decDigits.eq_def m, dif_neg (show ¬ m < 10 by omega), ← hr, ← hq, List.append_assoc])
      have hq1 : ¬ (q : Int) < 1 := by omega
      have hqm : q < m := by omega
      clear heq hr hq
      go_wp2
      go_round
      case rel => exact ⟨q, [UInt8.ofNat (48 + r)] ++ acc, by omega, rfl, by rw [← HC.out]; rfl, HV.out⟩
      case measure => simp [intOf]; omega

end Go.Proofs.YtgifmpobokaejaaGreatDoor

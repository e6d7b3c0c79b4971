/-
  Layer 1, walks: the reference's reader takes numbers. Conditions: a reader at a block of its own; texts are machine texts.
-/
import Derived.Test.YtjepemfllgjhfaaXdrReadA
import Derived.Test.YtjepemfllgjhfaaLists
namespace Go.Proofs.Ytjepemfllgjhfaa
open Go.RowKit
attribute [local go_sem ↓] Go.wp_at_zero Go.wp_at_succ
attribute [local go_sem] rowAt_ptr rowOf_drew rowOf_drewN rowOf_alloc_past rowOf_new
attribute [local go_sem] bs_get

theorem beVal_take_le {l : List UInt8} {i k : Nat} (h : i ≤ k) : beVal (l.take i) ≤ beVal (l.take k) := by
  induction k with
  | zero => obtain rfl : i = 0 := by omega
            exact Nat.le_refl _
  | succ k ih =>
    rcases Nat.lt_or_ge i (k + 1) with hlt | hge
    · refine Nat.le_trans (ih (by omega)) ?_
      rcases Nat.lt_or_ge k l.length with hk | hk
      · rw [List.take_succ_eq_append_getElem hk, beVal_snoc]; omega
      · rw [List.take_of_length_le hk, List.take_of_length_le (by omega)]; exact Nat.le_refl _
    · obtain rfl : i = k + 1 := by omega
      exact Nat.le_refl _
theorem beVal_top {b : UInt8} {l : List UInt8} (h : l.length = 7) : 9223372036854775808 ≤ beVal (b :: l) ↔ 127 < b.toNat := by
  have := beVal_lt l
  rw [h] at this
  simp only [beVal, h]
  omega
theorem drop_get {S : List UInt8} {a k : Nat} (h : a + k < S.length) : (S.drop a)[k]? = some (S[a + k]'h) := by
  rw [List.getElem?_drop]; exact List.getElem?_eq_getElem h

theorem rU32_e {r : Rs} (h : (rU32 r).2.e ≠ 0) : (rU32 r).1 = 0 := by
  unfold rU32 rNum at *
  split at h <;> rename_i h1
  · simp [h1]
  · split at h <;> rename_i h2
    · simp [h1, h2]
    · exact absurd rfl h

end Go.Proofs.Ytjepemfllgjhfaa

/-
  Layer 4, plain laws: how a rune's size comes about. No condition.
-/
import Derived.Test.YtjjlkdmpnpejjaaDoorNamePureB
namespace Go.Proofs.YtjjlkdmpnpejjaaDoor
open Go.RowKit
theorem vAcc_le (s : List UInt8) {v : Nat} (hv : v ≤ 31) : ∀ {m : Nat}, m ≤ 3 → vAcc s v m < 100000000
  | 0, _ => Nat.lt_of_le_of_lt hv (by omega)
  | 1, _ => by have := at0_lt s (0 + 1); show 64 * v + at0 s (0 + 1) - 128 < _; omega
  | 2, _ => by have := at0_lt s (0 + 1); have := at0_lt s (1 + 1); show 64 * (64 * v + at0 s (0 + 1) - 128) + at0 s (1 + 1) - 128 < _; omega
  | 3, _ => by have := at0_lt s (0 + 1); have := at0_lt s (1 + 1); have := at0_lt s (2 + 1); show 64 * (64 * (64 * v + at0 s (0 + 1) - 128) + at0 s (1 + 1) - 128) + at0 s (2 + 1) - 128 < _; omega
  | m + 4, h => by omega
theorem at0_at {l : List UInt8} {i k : Nat} (h : i + k < l.length) : at0 (l.drop i) k = (l[i + k]).toNat := by
  unfold at0
  rw [List.getElem?_drop, List.getElem?_eq_getElem h]
  rfl
theorem rfin_short {s : List UInt8} {n least v : Nat} (h : s.length < n) : rfin s n least v = (0, 0) := by unfold rfin; rw [if_pos h]
theorem rfin_bad {s : List UInt8} {n least v j : Nat} (hj : j + 1 < n) (h : contB s (j + 1) = false) : rfin s n least v = (0, 0) := by
  unfold rfin
  have : ((List.range (n - 1)).all fun j => contB s (j + 1)) = false := by
    rw [← Bool.not_eq_true, List.all_eq_true]
    intro h2
    have := h2 j (List.mem_range.2 (by omega))
    rw [h] at this
    cases this
  rw [this]
  simp
theorem rfin_good {s : List UInt8} {n least v : Nat} (hl : ¬ s.length < n) (h : ∀ j, j + 1 < n → contB s (j + 1) = true) :
    rfin s n least v = if vAcc s v (n - 1) < least ∨ 1114111 < vAcc s v (n - 1) ∨ 55296 ≤ vAcc s v (n - 1) ∧ vAcc s v (n - 1) ≤ 57343 then (0, 0) else (n, vAcc s v (n - 1)) := by
  unfold rfin
  rw [if_neg hl, if_pos (List.all_eq_true.2 fun j hj => h j (by have := List.mem_range.1 hj; omega))]
end Go.Proofs.YtjjlkdmpnpejjaaDoor

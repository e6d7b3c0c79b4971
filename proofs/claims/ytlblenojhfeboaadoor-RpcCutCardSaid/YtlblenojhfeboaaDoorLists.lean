/-
  Plain laws of lists: a search up to a number of elements. No condition.
-/
import Derived.Test.YtlblenojhfeboaaDoorMem
namespace Go.Proofs.YtlblenojhfeboaaDoor
variable {α : Type}

theorem take_next (l : List α) (k : Nat) (hk : k < l.length) : l.take (k + 1) = l.take k ++ [l[k]] := List.take_succ_eq_append_getElem hk
/-- among the first N some one is so, or there are more than N -/
def over (p : α → Bool) (N : Nat) (l : List α) : Bool := (l.take N).any p || decide (N < l.length)
theorem over_yes {p : α → Bool} {N : Nat} {l : List α} {k : Nat} (hk : k < l.length) (h7 : k < N) (h : p l[k] = true) : over p N l = true := by
  have h1 : l[k] ∈ l.take N := by
    have : (l.take N)[k]? = some l[k] := by rw [List.getElem?_take, if_pos h7]; exact List.getElem?_eq_getElem hk
    exact List.mem_of_getElem? this
  unfold over; rw [List.any_eq_true.2 ⟨_, h1, h⟩]; rfl
theorem over_step {p : α → Bool} {l : List α} {k : Nat} (hk : k < l.length) (hn : (l.take k).any p = false) (h : p l[k] = false) : (l.take (k + 1)).any p = false := by
  rw [take_next _ _ hk, List.any_append, hn]; simp [h]
theorem over_end {p : α → Bool} {N : Nat} {l : List α} {k : Nat} (hk : k ≤ l.length) (hkN : k ≤ N) (hn : (l.take k).any p = false) (he : ¬ (k < l.length ∧ k < N)) : over p N l = decide ((N : Int) < (l.length : Int)) := by
  unfold over
  have : (l.take N).any p = false := by
    rcases Nat.lt_or_ge k N with h | h
    · rw [List.take_of_length_le (by omega)]
      rw [List.take_of_length_le (by omega)] at hn
      exact hn
    · obtain rfl : k = N := by omega
      exact hn
  rw [this, Bool.false_or]
  exact decide_eq_decide.2 (by omega)
theorem over_no {p : α → Bool} {N : Nat} {l : List α} (h : over p N l = false) : l.length ≤ N ∧ ∀ x ∈ l, p x = false := by
  unfold over at h
  rw [Bool.or_eq_false_iff] at h
  obtain ⟨h1, h2⟩ := h
  have hl : l.length ≤ N := by simpa using h2
  refine ⟨hl, fun t ht => ?_⟩
  rw [List.take_of_length_le hl] at h1
  simpa using List.any_eq_false.1 h1 t ht
end Go.Proofs.YtlblenojhfeboaaDoor

/-
  Layer 20 in plain words: what is written is read there, and all other bytes are as they were. Conditions as told.
-/
import Derived.Test.YtmkhpgpnahligaaNodePure
namespace Go.Proofs.Ytmkhpgpnahligaa

/-- bytes with a text in them -/
def nLaid (d : List UInt8) (k : Nat) (t : List UInt8) : List UInt8 := (nFill d (k + t.length)).take k ++ (t ++ (nFill d (k + t.length)).drop (k + t.length))
theorem nLaid_len (d : List UInt8) (k : Nat) (t : List UInt8) : (nLaid d k t).length = max d.length (k + t.length) := by
  have := nFill_len d (k + t.length)
  simp only [nLaid, List.length_append, List.length_take, List.length_drop]
  omega
theorem nLaid_read (d : List UInt8) (k : Nat) (t : List UInt8) (h : t.length ≤ 256) : (nRead (nLaid d k t) k t.length).1 = t := by
  have hl := nLaid_len d k t
  have hf := nFill_len d (k + t.length)
  have h1 : nFrom (nLaid d k t) k = k := by unfold nFrom; omega
  have h2 : nCount (nLaid d k t) k t.length = t.length := by unfold nCount; rw [h1]; omega
  show ((nLaid d k t).drop (nFrom (nLaid d k t) k)).take (nCount (nLaid d k t) k t.length) = t
  rw [h1, h2]
  unfold nLaid
  rw [List.drop_left' (by simp; omega), List.take_left' rfl]
theorem nFill_get (d : List UInt8) (n j : Nat) (h : j < (nFill d n).length) : (nFill d n)[j] = d.getD j 0 := by
  unfold nFill at h ⊢
  rw [List.getElem_append]
  split
  · simp [List.getD, *]
  · rw [List.getElem_replicate]
    simp [List.getD, List.getElem?_eq_none (show d.length ≤ j by omega)]
theorem nLaid_get (d : List UInt8) (k : Nat) (t : List UInt8) (j : Nat) (hj : j < (nLaid d k t).length) (h : j < k ∨ k + t.length ≤ j) : (nLaid d k t)[j] = d.getD j 0 := by
  have hl := nLaid_len d k t
  have hf := nFill_len d (k + t.length)
  have htk : ((nFill d (k + t.length)).take k).length = k := by simp; omega
  unfold nLaid at hj ⊢
  rw [List.getElem_append]
  split
  · rw [List.getElem_take, nFill_get]
  · rw [List.getElem_append]
    split
    · omega
    · rw [List.getElem_drop, nFill_get]
      congr 1
      omega
theorem nWrite_laid (d : List UInt8) (k : Nat) (t : List UInt8) (h1 : t ≠ []) (h2 : k + t.length ≤ 1024) : nWrite d k t = (nLaid d k t, 0) := by
  have h3 : ¬ ((1024 : Int) < k ∨ (1024 : Int) - k < t.length) := by omega
  simp [nWrite, h1, h3, nLaid]
end Go.Proofs.Ytmkhpgpnahligaa

/-
  Layer 4, plain laws: runes of a text, how it is shown and read. No condition.
-/
import Derived.Test.YtlblenojhfeboaaDoorXdrPure
namespace Go.Proofs.YtlblenojhfeboaaDoor
open Go.RowKit

/-- a text's byte at a place; nought behind its end -/
def at0 (s : List UInt8) (k : Nat) : Nat := ((s[k]?).getD 0).toNat
theorem at0_lt (s : List UInt8) (k : Nat) : at0 s k < 256 := UInt8.toNat_lt _
/-- the rune at a text's beginning, and how many bytes it has -/
def dec (s : List UInt8) : Nat × Nat :=
  if at0 s 0 < 128 then (at0 s 0, 1)
  else if at0 s 0 / 32 = 6 ∧ 1 < s.length ∧ at0 s 1 / 64 = 2 then
    if 128 ≤ at0 s 0 % 32 * 64 + at0 s 1 % 64 then (at0 s 0 % 32 * 64 + at0 s 1 % 64, 2) else (65533, 1)
  else if (at0 s 0 / 16 = 14 ∧ 1 < s.length ∧ at0 s 1 / 64 = 2) ∧ 2 < s.length ∧ at0 s 2 / 64 = 2 then
    if 2048 ≤ at0 s 0 % 16 * 4096 + at0 s 1 % 64 * 64 + at0 s 2 % 64 ∧ Utf8.valid ((at0 s 0 % 16 * 4096 + at0 s 1 % 64 * 64 + at0 s 2 % 64 : Nat) : Int) = true then (at0 s 0 % 16 * 4096 + at0 s 1 % 64 * 64 + at0 s 2 % 64, 3) else (65533, 1)
  else if ((at0 s 0 / 8 = 30 ∧ 1 < s.length ∧ at0 s 1 / 64 = 2) ∧ 2 < s.length ∧ at0 s 2 / 64 = 2) ∧ 3 < s.length ∧ at0 s 3 / 64 = 2 then
    if 65536 ≤ at0 s 0 % 8 * 262144 + at0 s 1 % 64 * 4096 + at0 s 2 % 64 * 64 + at0 s 3 % 64 ∧ Utf8.valid ((at0 s 0 % 8 * 262144 + at0 s 1 % 64 * 4096 + at0 s 2 % 64 * 64 + at0 s 3 % 64 : Nat) : Int) = true then (at0 s 0 % 8 * 262144 + at0 s 1 % 64 * 4096 + at0 s 2 % 64 * 64 + at0 s 3 % 64, 4) else (65533, 1)
  else (65533, 1)
theorem decode_dec (l : List UInt8) (i : Nat) : Utf8.decode (bs l) i = dec (l.drop i) := by
  have hget : ∀ k, ((bs l).get! (i + k)).toNat = at0 (l.drop i) k := fun k => by
    unfold at0
    rw [List.getElem?_drop]
    show (l.toArray[i + k]!).toNat = _
    rw [getElem!_def]
    simp only [List.getElem?_toArray]
    cases l[i + k]? <;> rfl
  have hlt : ∀ k, decide (i + k < (bs l).size) = decide (k < (l.drop i).length) := fun k => by
    rw [bs_size, List.length_drop]
    exact decide_eq_decide.2 (by omega)
  unfold Utf8.decode dec
  simp only [hget, hlt, Bool.and_eq_true, decide_eq_true_eq, beq_iff_eq, Utf8.runeError, ge_iff_le]
theorem dec_pos (s : List UInt8) : 1 ≤ (dec s).2 := by
  unfold dec
  repeat' split
  all_goals simp
theorem dec_le {s : List UInt8} (hs : s ≠ []) : (dec s).2 ≤ s.length := by
  have : 0 < s.length := List.length_pos_iff.2 hs
  unfold dec
  repeat' split
  all_goals simp only
  all_goals omega
theorem dec_lt (s : List UInt8) : (dec s).1 < 1114112 := by
  have h0 := at0_lt s 0
  have h1 := at0_lt s 1
  have h2 := at0_lt s 2
  have h3 := at0_lt s 3
  unfold dec
  repeat' split
  all_goals simp only
  all_goals first
    | omega
    | (rename_i h; have := h.2; simp only [Utf8.valid, Bool.or_eq_true, Bool.and_eq_true, decide_eq_true_eq] at this; omega)

/-- the document's: a continuation; the number that grows; what stands at the end -/
def contB (s : List UInt8) (k : Nat) : Bool := decide (128 ≤ at0 s k ∧ at0 s k ≤ 191)
def vAcc (s : List UInt8) (v : Nat) : Nat → Nat
  | 0 => v
  | m + 1 => 64 * vAcc s v m + at0 s (m + 1) - 128
def rfin (s : List UInt8) (n least v0 : Nat) : Nat × Nat :=
  if s.length < n then (0, 0)
  else if (List.range (n - 1)).all fun j => contB s (j + 1) then
    if vAcc s v0 (n - 1) < least ∨ 1114111 < vAcc s v0 (n - 1) ∨ 55296 ≤ vAcc s v0 (n - 1) ∧ vAcc s v0 (n - 1) ≤ 57343 then (0, 0) else (n, vAcc s v0 (n - 1))
  else (0, 0)
/-- the document's size: how many bytes the rune has, and it -/
def rsz (s : List UInt8) : Nat × Nat :=
  if at0 s 0 < 128 then (1, at0 s 0)
  else if 194 ≤ at0 s 0 ∧ at0 s 0 ≤ 223 then rfin s 2 128 (at0 s 0 - 192)
  else if 224 ≤ at0 s 0 ∧ at0 s 0 ≤ 239 then rfin s 3 2048 (at0 s 0 - 224)
  else if 240 ≤ at0 s 0 ∧ at0 s 0 ≤ 244 then rfin s 4 65536 (at0 s 0 - 240)
  else (0, 0)
theorem valid_iff (n : Nat) : Utf8.valid (n : Int) = true ↔ ¬ (1114111 < n ∨ 55296 ≤ n ∧ n ≤ 57343) := by
  simp only [Utf8.valid, Bool.or_eq_true, Bool.and_eq_true, decide_eq_true_eq]
  omega
theorem cont_iff (s : List UInt8) (k : Nat) : contB s k = true ↔ at0 s k / 64 = 2 := by
  have := at0_lt s k
  simp only [contB, decide_eq_true_eq]
  omega
theorem rsz_dec (s : List UInt8) : (rsz s = (0, 0) ∧ dec s = (65533, 1)) ∨ (0 < (rsz s).1 ∧ dec s = ((rsz s).2, (rsz s).1)) := by
  have h0 := at0_lt s 0
  have h1 := at0_lt s 1
  have h2 := at0_lt s 2
  have h3 := at0_lt s 3
  by_cases c1 : at0 s 0 < 128
  · right; simp [rsz, dec, c1]
  by_cases c2 : 194 ≤ at0 s 0 ∧ at0 s 0 ≤ 223
  · have e : at0 s 0 / 32 = 6 := by omega
    have v : vAcc s (at0 s 0 - 192) 1 = 64 * (at0 s 0 - 192) + at0 s 1 - 128 := rfl
    by_cases k1 : 1 < s.length ∧ at0 s 1 / 64 = 2
    · have hr : rsz s = (2, 64 * (at0 s 0 - 192) + at0 s 1 - 128) := by
        unfold rsz rfin
        rw [if_neg c1, if_pos c2, if_neg (by omega), if_pos (by simp [List.range_succ, cont_iff, k1.2]), v, if_neg (by omega)]
      have hd : dec s = (at0 s 0 % 32 * 64 + at0 s 1 % 64, 2) := by
        unfold dec
        rw [if_neg c1, if_pos ⟨e, k1⟩, if_pos (by omega)]
      right
      rw [hr, hd]
      exact ⟨by simp, Prod.ext (by simp only; omega) rfl⟩
    · have hr : rsz s = (0, 0) := by
        unfold rsz rfin
        rw [if_neg c1, if_pos c2]
        by_cases hl : s.length < 2
        · rw [if_pos hl]
        · rw [if_neg hl, if_neg (by simp [List.range_succ, cont_iff]; omega)]
      have hd : dec s = (65533, 1) := by
        unfold dec
        rw [if_neg c1, if_neg (fun h => k1 h.2), if_neg (by omega), if_neg (by omega)]
      exact .inl ⟨hr, hd⟩
  by_cases c3 : 224 ≤ at0 s 0 ∧ at0 s 0 ≤ 239
  · have e : at0 s 0 / 16 = 14 := by omega
    have v : vAcc s (at0 s 0 - 224) 2 = 64 * (64 * (at0 s 0 - 224) + at0 s 1 - 128) + at0 s 2 - 128 := rfl
    by_cases k1 : (1 < s.length ∧ at0 s 1 / 64 = 2) ∧ 2 < s.length ∧ at0 s 2 / 64 = 2
    · have ev : 64 * (64 * (at0 s 0 - 224) + at0 s 1 - 128) + at0 s 2 - 128 = at0 s 0 % 16 * 4096 + at0 s 1 % 64 * 64 + at0 s 2 % 64 := by omega
      have hr : rsz s = if at0 s 0 % 16 * 4096 + at0 s 1 % 64 * 64 + at0 s 2 % 64 < 2048 ∨ 1114111 < at0 s 0 % 16 * 4096 + at0 s 1 % 64 * 64 + at0 s 2 % 64 ∨ 55296 ≤ at0 s 0 % 16 * 4096 + at0 s 1 % 64 * 64 + at0 s 2 % 64 ∧ at0 s 0 % 16 * 4096 + at0 s 1 % 64 * 64 + at0 s 2 % 64 ≤ 57343 then (0, 0) else (3, at0 s 0 % 16 * 4096 + at0 s 1 % 64 * 64 + at0 s 2 % 64) := by
        unfold rsz rfin
        rw [if_neg c1, if_neg c2, if_pos c3, if_neg (by omega), if_pos (by simp [List.range_succ, cont_iff, k1.1.2, k1.2.2]), v, ev]
      have hd : dec s = if 2048 ≤ at0 s 0 % 16 * 4096 + at0 s 1 % 64 * 64 + at0 s 2 % 64 ∧ Utf8.valid ((at0 s 0 % 16 * 4096 + at0 s 1 % 64 * 64 + at0 s 2 % 64 : Nat) : Int) = true then (at0 s 0 % 16 * 4096 + at0 s 1 % 64 * 64 + at0 s 2 % 64, 3) else (65533, 1) := by
        unfold dec
        rw [if_neg c1, if_neg (by omega), if_pos ⟨⟨e, k1.1⟩, k1.2⟩]
      rw [hr, hd]
      generalize at0 s 0 % 16 * 4096 + at0 s 1 % 64 * 64 + at0 s 2 % 64 = x
      by_cases hx : x < 2048 ∨ 1114111 < x ∨ 55296 ≤ x ∧ x ≤ 57343
      · left
        rw [if_pos hx, if_neg (by rw [valid_iff]; omega)]
        exact ⟨rfl, rfl⟩
      · right
        rw [if_neg hx, if_pos (by rw [valid_iff]; omega)]
        exact ⟨by simp, rfl⟩
    · have hr : rsz s = (0, 0) := by
        unfold rsz rfin
        rw [if_neg c1, if_neg c2, if_pos c3]
        by_cases hl : s.length < 3
        · rw [if_pos hl]
        · rw [if_neg hl, if_neg (by simp [List.range_succ, cont_iff]; omega)]
      have hd : dec s = (65533, 1) := by
        unfold dec
        rw [if_neg c1, if_neg (by omega), if_neg (fun h => k1 ⟨h.1.2, h.2⟩), if_neg (by omega)]
      exact .inl ⟨hr, hd⟩
  by_cases c4 : 240 ≤ at0 s 0 ∧ at0 s 0 ≤ 244
  · have e : at0 s 0 / 8 = 30 := by omega
    have v : vAcc s (at0 s 0 - 240) 3 = 64 * (64 * (64 * (at0 s 0 - 240) + at0 s 1 - 128) + at0 s 2 - 128) + at0 s 3 - 128 := rfl
    by_cases k1 : ((1 < s.length ∧ at0 s 1 / 64 = 2) ∧ 2 < s.length ∧ at0 s 2 / 64 = 2) ∧ 3 < s.length ∧ at0 s 3 / 64 = 2
    · have ev : 64 * (64 * (64 * (at0 s 0 - 240) + at0 s 1 - 128) + at0 s 2 - 128) + at0 s 3 - 128 = at0 s 0 % 8 * 262144 + at0 s 1 % 64 * 4096 + at0 s 2 % 64 * 64 + at0 s 3 % 64 := by omega
      have hr : rsz s = if at0 s 0 % 8 * 262144 + at0 s 1 % 64 * 4096 + at0 s 2 % 64 * 64 + at0 s 3 % 64 < 65536 ∨ 1114111 < at0 s 0 % 8 * 262144 + at0 s 1 % 64 * 4096 + at0 s 2 % 64 * 64 + at0 s 3 % 64 ∨ 55296 ≤ at0 s 0 % 8 * 262144 + at0 s 1 % 64 * 4096 + at0 s 2 % 64 * 64 + at0 s 3 % 64 ∧ at0 s 0 % 8 * 262144 + at0 s 1 % 64 * 4096 + at0 s 2 % 64 * 64 + at0 s 3 % 64 ≤ 57343 then (0, 0) else (4, at0 s 0 % 8 * 262144 + at0 s 1 % 64 * 4096 + at0 s 2 % 64 * 64 + at0 s 3 % 64) := by
        unfold rsz rfin
        rw [if_neg c1, if_neg c2, if_neg c3, if_pos c4, if_neg (by omega), if_pos (by simp [List.range_succ, cont_iff, k1.1.1.2, k1.1.2.2, k1.2.2]), v, ev]
      have hd : dec s = if 65536 ≤ at0 s 0 % 8 * 262144 + at0 s 1 % 64 * 4096 + at0 s 2 % 64 * 64 + at0 s 3 % 64 ∧ Utf8.valid ((at0 s 0 % 8 * 262144 + at0 s 1 % 64 * 4096 + at0 s 2 % 64 * 64 + at0 s 3 % 64 : Nat) : Int) = true then (at0 s 0 % 8 * 262144 + at0 s 1 % 64 * 4096 + at0 s 2 % 64 * 64 + at0 s 3 % 64, 4) else (65533, 1) := by
        unfold dec
        rw [if_neg c1, if_neg (by omega), if_neg (by omega), if_pos ⟨⟨⟨e, k1.1.1⟩, k1.1.2⟩, k1.2⟩]
      rw [hr, hd]
      generalize at0 s 0 % 8 * 262144 + at0 s 1 % 64 * 4096 + at0 s 2 % 64 * 64 + at0 s 3 % 64 = x
      by_cases hx : x < 65536 ∨ 1114111 < x ∨ 55296 ≤ x ∧ x ≤ 57343
      · left
        rw [if_pos hx, if_neg (by rw [valid_iff]; omega)]
        exact ⟨rfl, rfl⟩
      · right
        rw [if_neg hx, if_pos (by rw [valid_iff]; omega)]
        exact ⟨by simp, rfl⟩
    · have hr : rsz s = (0, 0) := by
        unfold rsz rfin
        rw [if_neg c1, if_neg c2, if_neg c3, if_pos c4]
        by_cases hl : s.length < 4
        · rw [if_pos hl]
        · rw [if_neg hl, if_neg (by simp [List.range_succ, cont_iff]; omega)]
      have hd : dec s = (65533, 1) := by
        unfold dec
        rw [if_neg c1, if_neg (by omega), if_neg (by omega), if_neg (fun h => k1 ⟨⟨h.1.1.2, h.1.2⟩, h.2⟩)]
      exact .inl ⟨hr, hd⟩
  · have hr : rsz s = (0, 0) := by
      unfold rsz
      rw [if_neg c1, if_neg c2, if_neg c3, if_neg c4]
    have hd : dec s = (65533, 1) := by
      unfold dec
      rw [if_neg c1]
      by_cases q2 : at0 s 0 / 32 = 6 ∧ 1 < s.length ∧ at0 s 1 / 64 = 2
      · rw [if_pos q2, if_neg (by omega)]
      · rw [if_neg q2, if_neg (by omega)]
        by_cases q4 : ((at0 s 0 / 8 = 30 ∧ 1 < s.length ∧ at0 s 1 / 64 = 2) ∧ 2 < s.length ∧ at0 s 2 / 64 = 2) ∧ 3 < s.length ∧ at0 s 3 / 64 = 2
        · rw [if_pos q4, if_neg (by rw [valid_iff]; omega)]
        · rw [if_neg q4]
    exact .inl ⟨hr, hd⟩
theorem rsz_cont {s : List UInt8} (h : 128 ≤ at0 s 0 ∧ at0 s 0 ≤ 191) : rsz s = (0, 0) := by
  unfold rsz
  rw [if_neg (by omega), if_neg (by omega), if_neg (by omega), if_neg (by omega)]
/-- behind a rune's first byte there are continuations alone -/
theorem dec_conts {s : List UInt8} {k : Nat} (h1 : 1 ≤ k) (hk : k < (dec s).2) : 128 ≤ at0 s k ∧ at0 s k ≤ 191 := by
  have hk0 := at0_lt s k
  have : at0 s k / 64 = 2 := by
    unfold dec at hk
    repeat' split at hk
    all_goals simp only at hk
    all_goals first
      | omega
      | (rename_i q _ ; obtain rfl : k = 1 := by omega
         exact q.2.2)
      | (rename_i q _
         rcases (by omega : k = 1 ∨ k = 2) with rfl | rfl
         · exact q.1.2.2
         · exact q.2.2)
      | (rename_i q _
         rcases (by omega : k = 1 ∨ k = 2 ∨ k = 3) with rfl | rfl | rfl
         · exact q.1.1.2.2
         · exact q.1.2.2
         · exact q.2.2)
  omega
end Go.Proofs.YtlblenojhfeboaaDoor

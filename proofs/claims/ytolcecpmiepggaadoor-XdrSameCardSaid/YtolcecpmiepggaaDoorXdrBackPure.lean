/-
  Layer 1 in plain words: what was written is read again. Conditions: numbers that may be written; texts below 2^32 bytes.
-/
import Derived.Test.YtolcecpmiepggaaDoorXdrLawA
namespace Go.Proofs.YtolcecpmiepggaaDoor

theorem rNum_back (n k : Nat) (rest : List UInt8) (h : n < 256 ^ k) : rNum k ⟨num n k ++ rest, 0⟩ = (n, ⟨rest, 0⟩) := by
  have h1 : (num n k ++ rest).take k = num n k := List.take_left' (num_len n k)
  have h2 : (num n k ++ rest).drop k = rest := List.drop_left' (num_len n k)
  have h3 : ¬ (num n k ++ rest).length < k := by rw [List.length_append, num_len]; omega
  simp only [rNum, ne_eq, not_true_eq_false, if_false]
  rw [if_neg h3, h1, h2, beVal_num n k h]
theorem rU32_back (n : Nat) (rest : List UInt8) (h : n < 4294967296) : rU32 ⟨num n 4 ++ rest, 0⟩ = (n, ⟨rest, 0⟩) := rNum_back n 4 rest h
theorem rU64_back (n : Nat) (rest : List UInt8) (h : n < 9223372036854775808) : rU64 ⟨num n 8 ++ rest, 0⟩ = (n, ⟨rest, 0⟩) := by
  have h1 := rNum_back n 8 rest (by omega)
  simp [rU64, h1]; omega
theorem rBool_back (b : Bool) (rest : List UInt8) : rBool ⟨truth b ++ rest, 0⟩ = (b, ⟨rest, 0⟩) := by
  have h1 := rU32_back (if b then 1 else 0) rest (by split <;> omega)
  unfold rBool truth
  rw [h1]
  cases b <;> simp
theorem rPadded_back (s rest : List UInt8) : rPadded s.length ⟨filled s ++ rest, 0⟩ = (s, ⟨rest, 0⟩) := by
  have hf : filled s ++ rest = s ++ (List.replicate (padn s.length) 0 ++ rest) := by simp [filled]
  have h1 : ¬ (filled s ++ rest).length < s.length := by rw [hf, List.length_append]; omega
  have h2 : (filled s ++ rest).drop s.length = List.replicate (padn s.length) 0 ++ rest := by rw [hf]; exact List.drop_left
  have h3 : (filled s ++ rest).take s.length = s := by rw [hf]; exact List.take_left
  have h4 : ¬ (List.replicate (padn s.length) (0 : UInt8) ++ rest).length < padn s.length := by rw [List.length_append, List.length_replicate]; omega
  have h5 : (List.replicate (padn s.length) (0 : UInt8) ++ rest).take (padn s.length) = List.replicate (padn s.length) 0 := List.take_left' (by simp)
  have h6 : (List.replicate (padn s.length) (0 : UInt8) ++ rest).drop (padn s.length) = rest := List.drop_left' (by simp)
  simp only [rPadded, ne_eq, not_true_eq_false, if_false, h1, h2, h3, h4, h5, h6]
  rw [if_pos]
  simp
theorem rFixed_back (s rest : List UInt8) : rFixed s.length ⟨filled s ++ rest, 0⟩ = (s, ⟨rest, 0⟩) := by
  have hn : ¬ ((s.length : Int) < 0) := by omega
  simp only [rFixed, ne_eq, not_true_eq_false, if_false, hn, Int.toNat_natCast]
  exact rPadded_back s rest
theorem rOpaque_back (s rest : List UInt8) (most : Int) (hs : s.length < 4294967296) (hm : (s.length : Int) ≤ most) : rOpaque most ⟨opq s ++ rest, 0⟩ = (s, ⟨rest, 0⟩) := by
  have h1 : rU32 ⟨opq s ++ rest, 0⟩ = (s.length, ⟨filled s ++ rest, 0⟩) := by
    rw [opq, List.append_assoc]; exact rU32_back _ _ hs
  have h2 : ¬ most < (s.length : Int) := by omega
  simp only [rOpaque, h1, ne_eq, not_true_eq_false, if_false, h2]
  exact rPadded_back s rest
theorem rOpt_back (b : Bool) (n : Int) (rest : List UInt8) (h : b = true → 0 ≤ n) (hn : n ≤ 9223372036854775807) : rOpt ⟨optB b n ++ rest, 0⟩ = ((b, if b then n.toNat else 0), ⟨rest, 0⟩) := by
  cases b
  · have h1 := rBool_back false rest
    simp only [optB, Bool.false_eq_true, if_false, List.append_nil] at *
    simp [rOpt, h1]
  · have h1 := rBool_back true (num n.toNat 8 ++ rest)
    have h2 := rU64_back n.toNat rest (by have := h rfl; omega)
    simp only [optB, if_true, List.append_assoc] at *
    simp [rOpt, h1, h2]

/-- a thing as it is read again -/
def Thing.norm (t : Thing) : Thing :=
  if t.kind = 1 ∨ t.kind = 2 then ⟨t.kind, t.n, false, []⟩
  else if t.kind = 3 then ⟨3, 0, t.is, []⟩
  else if t.kind = 4 ∨ t.kind = 5 then ⟨t.kind, 0, false, t.s⟩
  else if t.kind = 6 then ⟨6, if t.is then t.n else 0, t.is, []⟩
  else t
theorem tTake_back (t : Thing) (rest : List UInt8) (he : t.err = 0) (hk : ¬ otherKind t.kind) (hs : t.s.length ≤ 200) (hn : t.n ≤ 9223372036854775807) :
    tTake t.norm.kind t.s.length ⟨t.bytes ++ rest, 0⟩ = (t.norm, ⟨rest, 0⟩) := by
  obtain ⟨k, n, is, s⟩ := t
  simp only at hs hn hk
  rcases kind_cases k with rfl | rfl | rfl | rfl | rfl | rfl | h
  · simp only [Thing.err, if_true] at he
    have h1 : ¬ (n < 0 ∨ 4294967295 < n) := fun h => by rw [if_pos h] at he; cases he
    obtain ⟨m, rfl⟩ := Int.eq_ofNat_of_zero_le (show 0 ≤ n by omega)
    have := rU32_back m rest (by omega)
    simp [Thing.norm, Thing.bytes, tTake, h1, this]
  · have he : (if n < 0 then (3 : Int) else 0) = 0 := he
    have h1 : ¬ n < 0 := fun h => by rw [if_pos h] at he; cases he
    obtain ⟨m, rfl⟩ := Int.eq_ofNat_of_zero_le (show 0 ≤ n by omega)
    have := rU64_back m rest (by omega)
    simp [Thing.norm, Thing.bytes, tTake, h1, this]
  · have := rBool_back is rest
    simp [Thing.norm, Thing.bytes, tTake, this]
  · have := rFixed_back s rest
    simp [Thing.norm, Thing.bytes, tTake, this]
  · have := rOpaque_back s rest s.length (by omega) (Int.le_refl _)
    simp [Thing.norm, Thing.bytes, tTake, this]
  · have he : (if is = true ∧ n < 0 then (3 : Int) else 0) = 0 := he
    have h1 : ¬ (is = true ∧ n < 0) := fun h => by rw [if_pos h] at he; cases he
    have h2 : is = true → 0 ≤ n := fun h => by
      rcases Int.lt_or_le n 0 with h3 | h3
      · exact absurd ⟨h, h3⟩ h1
      · exact h3
    have := rOpt_back is n rest h2 hn
    have hb : Thing.bytes ⟨6, n, is, s⟩ = optB is n := by simp [Thing.bytes, h1]
    rw [hb]
    cases is
    · simp [Thing.norm, tTake, this]
    · obtain ⟨m, rfl⟩ := Int.eq_ofNat_of_zero_le (h2 rfl)
      simp only [if_true, Int.toNat_natCast] at this
      simp [Thing.norm, tTake, this]
  · exact absurd h hk
theorem Thing.bytes_other {t : Thing} (h : otherKind t.kind) : t.bytes = [] := by
  obtain ⟨h1, h2, h3, h4, h5, h6⟩ := h
  simp [Thing.bytes, h1, h2, h3, h4, h5, h6]
end Go.Proofs.YtolcecpmiepggaaDoor

/-
  Layer 1, walks: the law XdrReads. No condition but machine numbers.
-/
import Derived.Test.YtfjflkmhhbhceaaGreatDoorK38
import Derived.Test.YtfjflkmhhbhceaaGreatDoorK26
import Derived.Test.YtfjflkmhhbhceaaGreatDoorK09
import Derived.Test.YtfjflkmhhbhceaaGreatDoorK11
namespace Go.Proofs.YtfjflkmhhbhceaaGreatDoor
open Go.RowKit
attribute [local go_sem ↓] Go.wp_at_zero Go.wp_at_succ
attribute [local go_sem] rowAt_ptr rowOf_drew rowOf_drewN rowOf_alloc_past rowOf_new
attribute [local go_sem] Thing.tlat0 Thing.tlat1 Thing.tlat2 Thing.tlat3

def otherKind (k : Int) : Prop := k ≠ 1 ∧ k ≠ 2 ∧ k ≠ 3 ∧ k ≠ 4 ∧ k ≠ 5 ∧ k ≠ 6
theorem tTake_other {k n : Int} {r : Rs} (h : otherKind k) : tTake k n r = (⟨k, 0, false, []⟩, r) := by
  obtain ⟨h1, h2, h3, h4, h5, h6⟩ := h
  simp [tTake, h1, h2, h3, h4, h5, h6]
theorem kind_cases (k : Int) : k = 1 ∨ k = 2 ∨ k = 3 ∨ k = 4 ∨ k = 5 ∨ k = 6 ∨ otherKind k := by unfold otherKind; omega
theorem rFixed_len {n : Int} {r : Rs} (h : r.s.length ≤ 9223372036854775807) : (rFixed n r).2.s.length ≤ r.s.length := by
  unfold rFixed; split
  · exact Nat.le_refl _
  · split
    · simp [Rs.fail]
    · exact rPadded_len h
theorem rOpaque_len {n : Int} {r : Rs} (h : r.s.length ≤ 9223372036854775807) : (rOpaque n r).2.s.length ≤ r.s.length := by
  unfold rOpaque; split
  · exact rU32_len h
  · split
    · simp [Rs.fail]
    · exact Nat.le_trans (rPadded_len (Nat.le_trans (rU32_len h) h)) (rU32_len h)
theorem tTake_len {k n : Int} {r : Rs} (h : r.s.length ≤ 9223372036854775807) : (tTake k n r).2.s.length ≤ r.s.length := by
  rcases kind_cases k with rfl | rfl | rfl | rfl | rfl | rfl | hk
  · exact rU32_len h
  · exact rU64_len h
  · exact rBool_len h
  · exact rFixed_len h
  · exact rOpaque_len h
  · exact rOpt_len h
  · rw [tTake_other hk]; exact Nat.le_refl _
end Go.Proofs.YtfjflkmhhbhceaaGreatDoor

/-
  Layer 1 in plain words: what was written is read again. Conditions: numbers that may be written; texts below 2^32 bytes.
-/
namespace Go.Proofs.YtfjflkmhhbhceaaGreatDoor

theorem rNum_back (n k : Nat) (rest : List UInt8) (h : n < 256 ^ k) : rNum k ⟨num n k ++ rest, 0⟩ = (n, ⟨rest, 0⟩) := by
  have h1 : (num n k ++ rest).take k = num n k := List.take_left' (num_len n k)
  have h2 : (num n k ++ rest).drop k = rest := List.drop_left' (num_len n k)
  have h3 : ¬ (num n k ++ rest).length < k := by rw [List.length_append, num_len]; omega
  simp only [rNum, ne_eq, not_true_eq_false, if_false]
  rw [if_neg h3, h1, h2, beVal_num n k h]
theorem rU32_back (n : Nat) (rest : List UInt8) (h : n < 4294967296) : rU32 ⟨num n 4 ++ rest, 0⟩ = (n, ⟨rest, 0⟩) := rNum_back n 4 rest h
theorem rU64_back (n : Nat) (rest : List UInt8) (h : n < 9223372036854775808) : rU64 ⟨num n 8 ++ rest, 0⟩ = (n, ⟨rest, 0⟩) := by
  have h1 := rNum_back n 8 rest (by omega)
  simp [rU64, h1]; omega
theorem rBool_back (b : Bool) (rest : List UInt8) : rBool ⟨truth b ++ rest, 0⟩ = (b, ⟨rest, 0⟩) := by
  have h1 := rU32_back (if b then 1 else 0) rest (by split <;> omega)
  unfold rBool truth
  rw [h1]
  cases b <;> simp
theorem rPadded_back (s rest : List UInt8) : rPadded s.length ⟨filled s ++ rest, 0⟩ = (s, ⟨rest, 0⟩) := by
  have hf : filled s ++ rest = s ++ (List.replicate (padn s.length) 0 ++ rest) := by simp [filled]
  have h1 : ¬ (filled s ++ rest).length < s.length := by rw [hf, List.length_append]; omega
  have h2 : (filled s ++ rest).drop s.length = List.replicate (padn s.length) 0 ++ rest := by rw [hf]; exact List.drop_left
  have h3 : (filled s ++ rest).take s.length = s := by rw [hf]; exact List.take_left
  have h4 : ¬ (List.replicate (padn s.length) (0 : UInt8) ++ rest).length < padn s.length := by rw [List.length_append, List.length_replicate]; omega
  have h5 : (List.replicate (padn s.length) (0 : UInt8) ++ rest).take (padn s.length) = List.replicate (padn s.length) 0 := List.take_left' (by simp)
  have h6 : (List.replicate (padn s.length) (0 : UInt8) ++ rest).drop (padn s.length) = rest := List.drop_left' (by simp)
  simp only [rPadded, ne_eq, not_true_eq_false, if_false, h1, h2, h3, h4, h5, h6]
  rw [if_pos]
  simp
theorem rFixed_back (s rest : List UInt8) : rFixed s.length ⟨filled s ++ rest, 0⟩ = (s, ⟨rest, 0⟩) := by
  have hn : ¬ ((s.length : Int) < 0) := by omega
  simp only [rFixed, ne_eq, not_true_eq_false, if_false, hn, Int.toNat_natCast]
  exact rPadded_back s rest
theorem rOpaque_back (s rest : List UInt8) (most : Int) (hs : s.length < 4294967296) (hm : (s.length : Int) ≤ most) : rOpaque most ⟨opq s ++ rest, 0⟩ = (s, ⟨rest, 0⟩) := by
  have h1 : rU32 ⟨opq s ++ rest, 0⟩ = (s.length, ⟨filled s ++ rest, 0⟩) := by
    rw [opq, List.append_assoc]; exact rU32_back _ _ hs
  have h2 : ¬ most < (s.length : Int) := by omega
  simp only [rOpaque, h1, ne_eq, not_true_eq_false, if_false, h2]
  exact rPadded_back s rest
theorem rOpt_back (b : Bool) (n : Int) (rest : List UInt8) (h : b = true → 0 ≤ n) (hn : n ≤ 9223372036854775807) : rOpt ⟨optB b n ++ rest, 0⟩ = ((b, if b then n.toNat else 0), ⟨rest, 0⟩) := by
  cases b
  · have h1 := rBool_back false rest
    simp only [optB, Bool.false_eq_true, if_false, List.append_nil] at *
    simp [rOpt, h1]
  · have h1 := rBool_back true (num n.toNat 8 ++ rest)
    have h2 := rU64_back n.toNat rest (by have := h rfl; omega)
    simp only [optB, if_true, List.append_assoc] at *
    simp [rOpt, h1, h2]

/-- a thing as it is read again -/
def Thing.norm (t : Thing) : Thing :=
  if t.kind = 1 ∨ t.kind = 2 then ⟨t.kind, t.n, false, []⟩
  else if t.kind = 3 then ⟨3, 0, t.is, []⟩
  else if t.kind = 4 ∨ t.kind = 5 then ⟨t.kind, 0, false, t.s⟩
  else if t.kind = 6 then ⟨6, if t.is then t.n else 0, t.is, []⟩
  else t
theorem tTake_back (t : Thing) (rest : List UInt8) (he : t.err = 0) (hk : ¬ otherKind t.kind) (hs : t.s.length ≤ 200) (hn : t.n ≤ 9223372036854775807) :
    tTake t.norm.kind t.s.length ⟨t.bytes ++ rest, 0⟩ = (t.norm, ⟨rest, 0⟩) := by
  obtain ⟨k, n, is, s⟩ := t
  simp only at hs hn hk
  rcases kind_cases k with rfl | rfl | rfl | rfl | rfl | rfl | h
  · simp only [Thing.err, if_true] at he
    have h1 : ¬ (n < 0 ∨ 4294967295 < n) := fun h => by rw [if_pos h] at he; cases he
    obtain ⟨m, rfl⟩ := Int.eq_ofNat_of_zero_le (show 0 ≤ n by omega)
    have := rU32_back m rest (by omega)
    simp [Thing.norm, Thing.bytes, tTake, h1, this]
  · have he : (if n < 0 then (3 : Int) else 0) = 0 := he
    have h1 : ¬ n < 0 := fun h => by rw [if_pos h] at he; cases he
    obtain ⟨m, rfl⟩ := Int.eq_ofNat_of_zero_le (show 0 ≤ n by omega)
    have := rU64_back m rest (by omega)
    simp [Thing.norm, Thing.bytes, tTake, h1, this]
  · have := rBool_back is rest
    simp [Thing.norm, Thing.bytes, tTake, this]
  · have := rFixed_back s rest
    simp [Thing.norm, Thing.bytes, tTake, this]
  · have := rOpaque_back s rest s.length (by omega) (Int.le_refl _)
    simp [Thing.norm, Thing.bytes, tTake, this]
  · have he : (if is = true ∧ n < 0 then (3 : Int) else 0) = 0 := he
    have h1 : ¬ (is = true ∧ n < 0) := fun h => by rw [if_pos h] at he; cases he
    have h2 : is = true → 0 ≤ n := fun h => by
      rcases Int.lt_or_le n 0 with h3 | h3
      · exact absurd ⟨h, h3⟩ h1
      · exact h3
    have := rOpt_back is n rest h2 hn
    have hb : Thing.bytes ⟨6, n, is, s⟩ = optB is n := by simp [Thing.bytes, h1]
    rw [hb]
    cases is
    · simp [Thing.norm, tTake, this]
    · obtain ⟨m, rfl⟩ := Int.eq_ofNat_of_zero_le (h2 rfl)
      simp only [if_true, Int.toNat_natCast] at this
      simp [Thing.norm, tTake, this]
  · exact absurd h hk
theorem Thing.bytes_other {t : Thing} (h : otherKind t.kind) : t.bytes = [] := by
  obtain ⟨h1, h2, h3, h4, h5, h6⟩ := h
  simp [Thing.bytes, h1, h2, h3, h4, h5, h6]
end Go.Proofs.YtfjflkmhhbhceaaGreatDoor


/-
  Layer 1 in plain words: what was read, written once more, is the bytes that were taken. No condition but that there was no error.
-/
namespace Go.Proofs.YtfjflkmhhbhceaaGreatDoor
open Go.RowKit

theorem rNum_same {k : Nat} {r : Rs} (h0 : r.e = 0) (h : (rNum k r).2.e = 0) : r.s = num (rNum k r).1 k ++ (rNum k r).2.s ∧ (rNum k r).1 < 256 ^ k := by
  unfold rNum at *
  rw [if_neg (by simpa using h0)] at *
  by_cases hs : r.s.length < k
  · rw [if_pos hs] at h; simp [Rs.fail] at h
  · rw [if_neg hs] at *
    have hl : (r.s.take k).length = k := by rw [List.length_take]; omega
    have h1 := num_beVal (r.s.take k)
    rw [hl] at h1
    have h2 := beVal_lt (r.s.take k)
    rw [hl] at h2
    exact ⟨by simp only; rw [h1, List.take_append_drop], h2⟩
theorem rU32_same {r : Rs} (h0 : r.e = 0) (h : (rU32 r).2.e = 0) : r.s = num (rU32 r).1 4 ++ (rU32 r).2.s ∧ (rU32 r).1 < 4294967296 := rNum_same h0 h
theorem rU64_same {r : Rs} (h0 : r.e = 0) (h : (rU64 r).2.e = 0) : r.s = num (rU64 r).1 8 ++ (rU64 r).2.s ∧ (rU64 r).1 < 9223372036854775808 := by
  unfold rU64 at *
  by_cases hv : 9223372036854775808 ≤ (rNum 8 r).1
  · rw [if_pos hv] at h; simp [Rs.fail] at h
  · rw [if_neg hv] at *
    exact ⟨(rNum_same h0 h).1, by omega⟩
theorem rBool_same {r : Rs} (h0 : r.e = 0) (h : (rBool r).2.e = 0) : r.s = truth (rBool r).1 ++ (rBool r).2.s := by
  unfold rBool at *
  by_cases hv : 1 < (rU32 r).1
  · rw [if_pos hv] at h; simp [Rs.fail] at h
  · rw [if_neg hv] at *
    have h1 := (rU32_same h0 h).1
    simp only
    rw [h1]
    congr 1
    unfold truth
    have : (rU32 r).1 = 0 ∨ (rU32 r).1 = 1 := by omega
    rcases this with h2 | h2 <;> rw [h2] <;> rfl
theorem zeros_eq {l : List UInt8} {n : Nat} (hl : l.length = n) (h : l.all (· == 0) = true) : l = List.replicate n 0 := by
  rw [List.all_eq_true] at h
  exact List.eq_replicate_iff.2 ⟨hl, fun x hx => by simpa using h x hx⟩
theorem rPadded_same {n : Nat} {r : Rs} (h0 : r.e = 0) (h : (rPadded n r).2.e = 0) : r.s = filled (rPadded n r).1 ++ (rPadded n r).2.s ∧ (rPadded n r).1.length = n := by
  unfold rPadded at *
  rw [if_neg (by simpa using h0)] at *
  by_cases h1 : r.s.length < n
  · rw [if_pos h1] at h; simp [Rs.fail] at h
  · rw [if_neg h1] at *
    by_cases h2 : (r.s.drop n).length < padn n
    · rw [if_pos h2] at h; simp [Rs.fail] at h
    · rw [if_neg h2] at *
      by_cases h3 : ((r.s.drop n).take (padn n)).all (· == 0) = true
      · rw [if_pos h3] at *
        have hl : (r.s.take n).length = n := by rw [List.length_take]; omega
        refine ⟨?_, hl⟩
        have hz := zeros_eq (n := padn n) (by rw [List.length_take]; omega) h3
        simp only [filled, hl, ← hz]
        rw [List.append_assoc, List.take_append_drop, List.take_append_drop]
      · rw [if_neg h3] at h; simp [Rs.fail] at h
theorem rFixed_same {n : Nat} {r : Rs} (h0 : r.e = 0) (h : (rFixed n r).2.e = 0) : r.s = filled (rFixed n r).1 ++ (rFixed n r).2.s ∧ (rFixed n r).1.length = n := by
  unfold rFixed at *
  rw [if_neg (by simpa using h0), if_neg (by omega), Int.toNat_natCast] at *
  exact rPadded_same h0 h
theorem rOpaque_same {most : Int} {r : Rs} (h0 : r.e = 0) (h : (rOpaque most r).2.e = 0) : r.s = opq (rOpaque most r).1 ++ (rOpaque most r).2.s ∧ ((rOpaque most r).1.length : Int) ≤ most := by
  unfold rOpaque at *
  by_cases h1 : (rU32 r).2.e ≠ 0
  · rw [if_pos h1] at h; exact absurd h h1
  · rw [if_neg h1] at *
    by_cases h2 : most < ((rU32 r).1 : Int)
    · rw [if_pos h2] at h; simp [Rs.fail] at h
    · rw [if_neg h2] at *
      have h1' : (rU32 r).2.e = 0 := by simpa using h1
      obtain ⟨e1, _⟩ := rU32_same h0 h1'
      obtain ⟨e2, e3⟩ := rPadded_same h1' h
      refine ⟨?_, by omega⟩
      rw [opq, e3, List.append_assoc, ← e2]
      exact e1
theorem rOpt_same {r : Rs} (h0 : r.e = 0) (h : (rOpt r).2.e = 0) : r.s = optB (rOpt r).1.1 (rOpt r).1.2 ++ (rOpt r).2.s ∧ (rOpt r).1.2 < 9223372036854775808 := by
  unfold rOpt at *
  by_cases hb : (rBool r).1 = true
  · rw [if_pos hb] at *
    by_cases he : (rU64 (rBool r).2).2.e ≠ 0
    · rw [if_pos he] at h; exact absurd h he
    · rw [if_neg he] at *
      have he' : (rU64 (rBool r).2).2.e = 0 := by simpa using he
      have hbe : (rBool r).2.e = 0 := Classical.byContradiction fun hc => by
        have : (rU64 (rBool r).2) = (0, (rBool r).2) := by simp [rU64, rNum, hc]
        rw [this] at he'; exact hc he'
      have e1 := rBool_same h0 hbe
      obtain ⟨e2, e3⟩ := rU64_same hbe he'
      refine ⟨?_, e3⟩
      simp only [optB, if_true, Int.toNat_natCast]
      rw [List.append_assoc, ← e2, ← hb]
      exact e1
  · rw [if_neg hb] at *
    have hbe : (rBool r).2.e = 0 := h
    have e1 := rBool_same h0 hbe
    have hb' : (rBool r).1 = false := by simpa using hb
    rw [hb'] at e1
    refine ⟨?_, by simp⟩
    simpa [optB] using e1
theorem tTake_same {k : Int} {r : Rs} (h0 : r.e = 0) (h : (tTake k 7 r).2.e = 0) (hk : ¬ otherKind k) : (tTake k 7 r).1.bytes ++ (tTake k 7 r).2.s = r.s ∧ (tTake k 7 r).1.err = 0 ∧ (tTake k 7 r).1.good ∧ (tTake k 7 r).1.s.length ≤ 7 := by
  rcases kind_cases k with rfl | rfl | rfl | rfl | rfl | rfl | hk'
  · obtain ⟨e1, e2⟩ := rU32_same h0 h
    have h1 : ¬ ((((rU32 r).1 : Nat) : Int) < 0 ∨ 4294967295 < (((rU32 r).1 : Nat) : Int)) := by omega
    refine ⟨?_, ?_, ⟨rfl, ?_, by simp [tTake]⟩, by simp [tTake]⟩
    · simp [tTake, Thing.bytes, h1, ← e1]
    · simp [tTake, Thing.err, h1]
    · simp only [tTake, if_true]; exact Go.WalkArith.wf_i64 ⟨by omega, by omega⟩
  · obtain ⟨e1, e2⟩ := rU64_same h0 h
    have h1 : ¬ (((rU64 r).1 : Nat) : Int) < 0 := by omega
    refine ⟨?_, ?_, ⟨rfl, ?_, by simp [tTake]⟩, by simp [tTake]⟩
    · simp [tTake, Thing.bytes, h1, ← e1]
    · simp [tTake, Thing.err, h1]
    · simp [tTake]; exact Go.WalkArith.wf_i64 ⟨by omega, by omega⟩
  · have e1 := rBool_same h0 h
    refine ⟨?_, rfl, ⟨rfl, rfl, by simp [tTake]⟩, by simp [tTake]⟩
    simp [tTake, Thing.bytes, ← e1]
  · obtain ⟨e1, e2⟩ := rFixed_same (n := 7) h0 h
    refine ⟨?_, rfl, ⟨rfl, rfl, ?_⟩, ?_⟩
    · simp [tTake, Thing.bytes]; exact e1.symm
    · simp [tTake]; unfold maxLen; have : (rFixed 7 r).1.length = 7 := e2; omega
    · simp [tTake]; have : (rFixed 7 r).1.length = 7 := e2; omega
  · obtain ⟨e1, e2⟩ := rOpaque_same h0 h
    refine ⟨?_, rfl, ⟨rfl, rfl, ?_⟩, ?_⟩
    · simp [tTake, Thing.bytes]; exact e1.symm
    · simp [tTake]; unfold maxLen; omega
    · simp [tTake]; omega
  · obtain ⟨e1, e2⟩ := rOpt_same h0 h
    have h1 : ¬ ((rOpt r).1.1 = true ∧ (((rOpt r).1.2 : Nat) : Int) < 0) := by omega
    refine ⟨?_, ?_, ⟨rfl, ?_, by simp [tTake]⟩, by simp [tTake]⟩
    · simp [tTake, Thing.bytes, h1, ← e1]
    · simp [tTake, Thing.err, h1]
    · simp [tTake]; exact Go.WalkArith.wf_i64 ⟨by omega, by omega⟩
  · exact absurd hk' hk
end Go.Proofs.YtfjflkmhhbhceaaGreatDoor


/-
  Layer 1 in plain words: what was refused stays refused; numbers that were read are machine numbers. No condition.
-/
namespace Go.Proofs.YtfjflkmhhbhceaaGreatDoor
open Go.RowKit

-- what is refused stays refused
theorem rNum_stick {k : Nat} {r : Rs} (h : r.e ≠ 0) : rNum k r = (0, r) := by unfold rNum; rw [if_pos h]
theorem rU32_stick {r : Rs} (h : r.e ≠ 0) : rU32 r = (0, r) := rNum_stick h
theorem rU64_stick {r : Rs} (h : r.e ≠ 0) : rU64 r = (0, r) := by unfold rU64; rw [rNum_stick h]; simp
theorem rBool_stick {r : Rs} (h : r.e ≠ 0) : rBool r = (false, r) := by unfold rBool; rw [rU32_stick h]; simp
theorem rOpt_stick {r : Rs} (h : r.e ≠ 0) : rOpt r = ((false, 0), r) := by unfold rOpt; rw [rBool_stick h]; simp
theorem rOpaque_stick {n : Int} {r : Rs} (h : r.e ≠ 0) : rOpaque n r = ([], r) := by unfold rOpaque; rw [rU32_stick h, if_pos h]
theorem rOne_stick {b : Bool} {r : Rs} (h : r.e ≠ 0) : (rOne b r).2 = r := by
  cases b
  · show (rU32 r).2 = r
    rw [rU32_stick h]
  · show (rU64 r).2 = r
    rw [rU64_stick h]
theorem rMany_stick (l : List Bool) {r : Rs} (h : r.e ≠ 0) : (rMany l r).2 = r := by
  induction l with
  | nil => rfl
  | cons b l ih => show (rMany l (rOne b r).2).2 = r; rw [rOne_stick h]; exact ih
theorem rU64_lt (r : Rs) : ((rU64 r).1 : Int) ≤ 9223372036854775807 := by
  unfold rU64
  split
  · exact Int.le_of_lt_add_one (by decide)
  · omega
theorem rOpt_lt (r : Rs) : ((rOpt r).1.2 : Int) ≤ 9223372036854775807 := by
  unfold rOpt
  split
  · split
    · show ((0 : Nat) : Int) ≤ _
      omega
    · exact rU64_lt _
  · show ((0 : Nat) : Int) ≤ _
    omega
theorem rOpt_not {r : Rs} : (rOpt r).1.1 = true ∨ (rOpt r).1.2 = 0 := by
  unfold rOpt
  split
  · split
    · exact .inr rfl
    · exact .inl rfl
  · exact .inr rfl
theorem rDone_zero {r : Rs} (h : rDone r = 0) : r.e = 0 ∧ r.s = [] := by
  unfold rDone at h
  by_cases he : r.e ≠ 0
  · rw [if_pos he] at h; exact absurd h he
  · rw [if_neg he] at h
    refine ⟨by simpa using he, ?_⟩
    apply List.eq_nil_of_length_eq_zero
    apply Classical.byContradiction
    intro hc
    rw [if_pos (by omega)] at h; cases h
theorem rDone_rest {s : List UInt8} (h : s ≠ []) : rDone ⟨s, 0⟩ = 12 := by
  simp only [rDone, ne_eq, not_true_eq_false, if_false]
  rw [if_pos (List.length_pos_iff.2 h)]
theorem rDone_left {r : Rs} : rDone r = 0 ↔ r.e = 0 ∧ ¬ 0 < rLeft r := by
  unfold rDone rLeft
  by_cases he : r.e ≠ 0
  · rw [if_pos he, if_pos he]; simp [he]
  · rw [if_neg he, if_neg he]
    have he' : r.e = 0 := by simpa using he
    by_cases h : 0 < r.s.length
    · rw [if_pos h]; exact ⟨fun h2 => absurd h2 (by decide), fun h2 => absurd h h2.2⟩
    · rw [if_neg h]; exact ⟨fun _ => ⟨he', h⟩, fun _ => rfl⟩
def wid (b : Bool) : Nat := if b then 8 else 4
theorem wid_t : wid true = 8 := if_pos rfl
theorem wid_f : wid false = 4 := if_neg (by simp)
def bnd (b : Bool) : Nat := if b then 9223372036854775808 else 4294967296
theorem bnd_t : bnd true = 9223372036854775808 := if_pos rfl
theorem bnd_f : bnd false = 4294967296 := if_neg (by simp)
theorem rOne_t (r : Rs) : rOne true r = rU64 r := if_pos rfl
theorem rOne_f (r : Rs) : rOne false r = rU32 r := if_neg (by simp)
theorem rOne_back (b : Bool) (n : Nat) (rest : List UInt8) (h : n < bnd b) : rOne b ⟨num n (wid b) ++ rest, 0⟩ = (n, ⟨rest, 0⟩) := by
  cases b
  · rw [wid_f, rOne_f]; rw [bnd_f] at h; exact rU32_back n rest h
  · rw [wid_t, rOne_t]; rw [bnd_t] at h; exact rU64_back n rest h
theorem rOne_same (b : Bool) {r : Rs} (h0 : r.e = 0) (h : (rOne b r).2.e = 0) : r.s = num (rOne b r).1 (wid b) ++ (rOne b r).2.s := by
  cases b
  · rw [rOne_f] at h; rw [wid_f, rOne_f]; exact (rU32_same h0 h).1
  · rw [rOne_t] at h; rw [wid_t, rOne_t]; exact (rU64_same h0 h).1
/-- numbers, one behind the other -/
def manyB : List Bool → List Nat → List UInt8
  | b :: bs, n :: ns => num n (wid b) ++ manyB bs ns
  | _, _ => []
def manyFit : List Bool → List Nat → Prop
  | b :: bs, n :: ns => n < bnd b ∧ manyFit bs ns
  | [], [] => True
  | _, _ => False
theorem manyB_cons (b : Bool) (bs : List Bool) (n : Nat) (ns : List Nat) : manyB (b :: bs) (n :: ns) = num n (wid b) ++ manyB bs ns := rfl
theorem rMany_cons (b : Bool) (bs : List Bool) (r : Rs) : rMany (b :: bs) r = ((rOne b r).1 :: (rMany bs (rOne b r).2).1, (rMany bs (rOne b r).2).2) := rfl
theorem rMany_back (ws : List Bool) (ns : List Nat) (rest : List UInt8) (h : manyFit ws ns) : rMany ws ⟨manyB ws ns ++ rest, 0⟩ = (ns, ⟨rest, 0⟩) := by
  induction ws generalizing ns with
  | nil => cases ns with
    | nil => rfl
    | cons n ns => exact absurd h (by simp [manyFit])
  | cons b bs ih => cases ns with
    | nil => exact absurd h (by simp [manyFit])
    | cons n ns =>
      obtain ⟨h1, h2⟩ := h
      rw [rMany_cons, manyB_cons, List.append_assoc, rOne_back b n _ h1]
      simp only
      rw [ih ns h2]
theorem rMany_same (ws : List Bool) {r : Rs} (h0 : r.e = 0) (h : (rMany ws r).2.e = 0) : r.s = manyB ws (rMany ws r).1 ++ (rMany ws r).2.s := by
  induction ws generalizing r with
  | nil => rfl
  | cons b bs ih =>
    rw [rMany_cons] at h ⊢
    have he : (rOne b r).2.e = 0 := by
      apply Classical.byContradiction
      intro hc
      simp only [rMany_stick bs hc] at h
      exact hc h
    have e1 := ih he h
    have e2 := rOne_same b h0 he
    rw [manyB_cons, List.append_assoc, ← e1]
    exact e2
end Go.Proofs.YtfjflkmhhbhceaaGreatDoor

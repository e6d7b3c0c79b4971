/-
  Layer 1 in plain words: what was read, written once more, is the bytes that were taken. No condition but that there was no error.
-/
import Derived.Test.YtolcecpmiepggaaDoorXdrBackPure
namespace Go.Proofs.YtolcecpmiepggaaDoor
open Go.RowKit

theorem rNum_same {k : Nat} {r : Rs} (h0 : r.e = 0) (h : (rNum k r).2.e = 0) : r.s = num (rNum k r).1 k ++ (rNum k r).2.s ∧ (rNum k r).1 < 256 ^ k := by
  unfold rNum at *
  rw [if_neg (by simpa using h0)] at *
  by_cases hs : r.s.length < k
  · rw [if_pos hs] at h; simp [Rs.fail] at h
  · rw [if_neg hs] at *
    have hl : (r.s.take k).length = k := by rw [List.length_take]; omega
    have h1 := num_beVal (r.s.take k)
    rw [hl] at h1
    have h2 := beVal_lt (r.s.take k)
    rw [hl] at h2
    exact ⟨by simp only; rw [h1, List.take_append_drop], h2⟩
theorem rU32_same {r : Rs} (h0 : r.e = 0) (h : (rU32 r).2.e = 0) : r.s = num (rU32 r).1 4 ++ (rU32 r).2.s ∧ (rU32 r).1 < 4294967296 := rNum_same h0 h
theorem rU64_same {r : Rs} (h0 : r.e = 0) (h : (rU64 r).2.e = 0) : r.s = num (rU64 r).1 8 ++ (rU64 r).2.s ∧ (rU64 r).1 < 9223372036854775808 := by
  unfold rU64 at *
  by_cases hv : 9223372036854775808 ≤ (rNum 8 r).1
  · rw [if_pos hv] at h; simp [Rs.fail] at h
  · rw [if_neg hv] at *
    exact ⟨(rNum_same h0 h).1, by omega⟩
theorem rBool_same {r : Rs} (h0 : r.e = 0) (h : (rBool r).2.e = 0) : r.s = truth (rBool r).1 ++ (rBool r).2.s := by
  unfold rBool at *
  by_cases hv : 1 < (rU32 r).1
  · rw [if_pos hv] at h; simp [Rs.fail] at h
  · rw [if_neg hv] at *
    have h1 := (rU32_same h0 h).1
    simp only
    rw [h1]
    congr 1
    unfold truth
    have : (rU32 r).1 = 0 ∨ (rU32 r).1 = 1 := by omega
    rcases this with h2 | h2 <;> rw [h2] <;> rfl
theorem zeros_eq {l : List UInt8} {n : Nat} (hl : l.length = n) (h : l.all (· == 0) = true) : l = List.replicate n 0 := by
  rw [List.all_eq_true] at h
  exact List.eq_replicate_iff.2 ⟨hl, fun x hx => by simpa using h x hx⟩
theorem rPadded_same {n : Nat} {r : Rs} (h0 : r.e = 0) (h : (rPadded n r).2.e = 0) : r.s = filled (rPadded n r).1 ++ (rPadded n r).2.s ∧ (rPadded n r).1.length = n := by
  unfold rPadded at *
  rw [if_neg (by simpa using h0)] at *
  by_cases h1 : r.s.length < n
  · rw [if_pos h1] at h; simp [Rs.fail] at h
  · rw [if_neg h1] at *
    by_cases h2 : (r.s.drop n).length < padn n
    · rw [if_pos h2] at h; simp [Rs.fail] at h
    · rw [if_neg h2] at *
      by_cases h3 : ((r.s.drop n).take (padn n)).all (· == 0) = true
      · rw [if_pos h3] at *
        have hl : (r.s.take n).length = n := by rw [List.length_take]; omega
        refine ⟨?_, hl⟩
        have hz := zeros_eq (n := padn n) (by rw [List.length_take]; omega) h3
        simp only [filled, hl, ← hz]
        rw [List.append_assoc, List.take_append_drop, List.take_append_drop]
      · rw [if_neg h3] at h; simp [Rs.fail] at h
theorem rFixed_same {n : Nat} {r : Rs} (h0 : r.e = 0) (h : (rFixed n r).2.e = 0) : r.s = filled (rFixed n r).1 ++ (rFixed n r).2.s ∧ (rFixed n r).1.length = n := by
  unfold rFixed at *
  rw [if_neg (by simpa using h0), if_neg (by omega), Int.toNat_natCast] at *
  exact rPadded_same h0 h
theorem rOpaque_same {most : Int} {r : Rs} (h0 : r.e = 0) (h : (rOpaque most r).2.e = 0) : r.s = opq (rOpaque most r).1 ++ (rOpaque most r).2.s ∧ ((rOpaque most r).1.length : Int) ≤ most := by
  unfold rOpaque at *
  by_cases h1 : (rU32 r).2.e ≠ 0
  · rw [if_pos h1] at h; exact absurd h h1
  · rw [if_neg h1] at *
    by_cases h2 : most < ((rU32 r).1 : Int)
    · rw [if_pos h2] at h; simp [Rs.fail] at h
    · rw [if_neg h2] at *
      have h1' : (rU32 r).2.e = 0 := by simpa using h1
      obtain ⟨e1, _⟩ := rU32_same h0 h1'
      obtain ⟨e2, e3⟩ := rPadded_same h1' h
      refine ⟨?_, by omega⟩
      rw [opq, e3, List.append_assoc, ← e2]
      exact e1
theorem rOpt_same {r : Rs} (h0 : r.e = 0) (h : (rOpt r).2.e = 0) : r.s = optB (rOpt r).1.1 (rOpt r).1.2 ++ (rOpt r).2.s ∧ (rOpt r).1.2 < 9223372036854775808 := by
  unfold rOpt at *
  by_cases hb : (rBool r).1 = true
  · rw [if_pos hb] at *
    by_cases he : (rU64 (rBool r).2).2.e ≠ 0
    · rw [if_pos he] at h; exact absurd h he
    · rw [if_neg he] at *
      have he' : (rU64 (rBool r).2).2.e = 0 := by simpa using he
      have hbe : (rBool r).2.e = 0 := Classical.byContradiction fun hc => by
        have : (rU64 (rBool r).2) = (0, (rBool r).2) := by simp [rU64, rNum, hc]
        rw [this] at he'; exact hc he'
      have e1 := rBool_same h0 hbe
      obtain ⟨e2, e3⟩ := rU64_same hbe he'
      refine ⟨?_, e3⟩
      simp only [optB, if_true, Int.toNat_natCast]
      rw [List.append_assoc, ← e2, ← hb]
      exact e1
  · rw [if_neg hb] at *
    have hbe : (rBool r).2.e = 0 := h
    have e1 := rBool_same h0 hbe
    have hb' : (rBool r).1 = false := by simpa using hb
    rw [hb'] at e1
    refine ⟨?_, by simp⟩
    simpa [optB] using e1
theorem tTake_same {k : Int} {r : Rs} (h0 : r.e = 0) (h : (tTake k 7 r).2.e = 0) (hk : ¬ otherKind k) : (tTake k 7 r).1.bytes ++ (tTake k 7 r).2.s = r.s ∧ (tTake k 7 r).1.err = 0 ∧ (tTake k 7 r).1.good ∧ (tTake k 7 r).1.s.length ≤ 7 := by
  rcases kind_cases k with rfl | rfl | rfl | rfl | rfl | rfl | hk'
  · obtain ⟨e1, e2⟩ := rU32_same h0 h
    have h1 : ¬ ((((rU32 r).1 : Nat) : Int) < 0 ∨ 4294967295 < (((rU32 r).1 : Nat) : Int)) := by omega
    refine ⟨?_, ?_, ⟨rfl, ?_, by simp [tTake]⟩, by simp [tTake]⟩
    · simp [tTake, Thing.bytes, h1, ← e1]
    · simp [tTake, Thing.err, h1]
    · simp only [tTake, if_true]; exact Go.WalkArith.wf_i64 ⟨by omega, by omega⟩
  · obtain ⟨e1, e2⟩ := rU64_same h0 h
    have h1 : ¬ (((rU64 r).1 : Nat) : Int) < 0 := by omega
    refine ⟨?_, ?_, ⟨rfl, ?_, by simp [tTake]⟩, by simp [tTake]⟩
    · simp [tTake, Thing.bytes, h1, ← e1]
    · simp [tTake, Thing.err, h1]
    · simp [tTake]; exact Go.WalkArith.wf_i64 ⟨by omega, by omega⟩
  · have e1 := rBool_same h0 h
    refine ⟨?_, rfl, ⟨rfl, rfl, by simp [tTake]⟩, by simp [tTake]⟩
    simp [tTake, Thing.bytes, ← e1]
  · obtain ⟨e1, e2⟩ := rFixed_same (n := 7) h0 h
    refine ⟨?_, rfl, ⟨rfl, rfl, ?_⟩, ?_⟩
    · simp [tTake, Thing.bytes]; exact e1.symm
    · simp [tTake]; unfold maxLen; have : (rFixed 7 r).1.length = 7 := e2; omega
    · simp [tTake]; have : (rFixed 7 r).1.length = 7 := e2; omega
  · obtain ⟨e1, e2⟩ := rOpaque_same h0 h
    refine ⟨?_, rfl, ⟨rfl, rfl, ?_⟩, ?_⟩
    · simp [tTake, Thing.bytes]; exact e1.symm
    · simp [tTake]; unfold maxLen; omega
    · simp [tTake]; omega
  · obtain ⟨e1, e2⟩ := rOpt_same h0 h
    have h1 : ¬ ((rOpt r).1.1 = true ∧ (((rOpt r).1.2 : Nat) : Int) < 0) := by omega
    refine ⟨?_, ?_, ⟨rfl, ?_, by simp [tTake]⟩, by simp [tTake]⟩
    · simp [tTake, Thing.bytes, h1, ← e1]
    · simp [tTake, Thing.err, h1]
    · simp [tTake]; exact Go.WalkArith.wf_i64 ⟨by omega, by omega⟩
  · exact absurd hk' hk
end Go.Proofs.YtolcecpmiepggaaDoor

/-
  Layer 4, plain laws: runes of a text, how it is shown and read. No condition.
-/
import Derived.Test.YtfjflkmhhbhceaaGreatDoorK03
import Derived.Test.YtfjflkmhhbhceaaGreatDoorK04
import Derived.Test.YtfjflkmhhbhceaaGreatDoorProg
import Derived.Deep.AppendLies
import Derived.Lib.AppendStr
import Derived.Maps.AppendAt
namespace Go.Proofs.YtfjflkmhhbhceaaGreatDoor
open Go.RowKit

/-- a text's byte at a place; nought behind its end -/
def at0 (s : List UInt8) (k : Nat) : Nat := ((s[k]?).getD 0).toNat
theorem at0_lt (s : List UInt8) (k : Nat) : at0 s k < 256 := UInt8.toNat_lt _
/-- the rune at a text's beginning, and how many bytes it has -/
def dec (s : List UInt8) : Nat × Nat :=
  if at0 s 0 < 128 then (at0 s 0, 1)
  else if at0 s 0 / 32 = 6 ∧ 1 < s.length ∧ at0 s 1 / 64 = 2 then
    if 128 ≤ at0 s 0 % 32 * 64 + at0 s 1 % 64 then (at0 s 0 % 32 * 64 + at0 s 1 % 64, 2) else (65533, 1)
  else if (at0 s 0 / 16 = 14 ∧ 1 < s.length ∧ at0 s 1 / 64 = 2) ∧ 2 < s.length ∧ at0 s 2 / 64 = 2 then
    if 2048 ≤ at0 s 0 % 16 * 4096 + at0 s 1 % 64 * 64 + at0 s 2 % 64 ∧ Utf8.valid ((at0 s 0 % 16 * 4096 + at0 s 1 % 64 * 64 + at0 s 2 % 64 : Nat) : Int) = true then (at0 s 0 % 16 * 4096 + at0 s 1 % 64 * 64 + at0 s 2 % 64, 3) else (65533, 1)
  else if ((at0 s 0 / 8 = 30 ∧ 1 < s.length ∧ at0 s 1 / 64 = 2) ∧ 2 < s.length ∧ at0 s 2 / 64 = 2) ∧ 3 < s.length ∧ at0 s 3 / 64 = 2 then
    if 65536 ≤ at0 s 0 % 8 * 262144 + at0 s 1 % 64 * 4096 + at0 s 2 % 64 * 64 + at0 s 3 % 64 ∧ Utf8.valid ((at0 s 0 % 8 * 262144 + at0 s 1 % 64 * 4096 + at0 s 2 % 64 * 64 + at0 s 3 % 64 : Nat) : Int) = true then (at0 s 0 % 8 * 262144 + at0 s 1 % 64 * 4096 + at0 s 2 % 64 * 64 + at0 s 3 % 64, 4) else (65533, 1)
  else (65533, 1)
theorem decode_dec (l : List UInt8) (i : Nat) : Utf8.decode (bs l) i = dec (l.drop i) := by
  have hget : ∀ k, ((bs l).get! (i + k)).toNat = at0 (l.drop i) k := fun k => by
    unfold at0
    rw [List.getElem?_drop]
    show (l.toArray[i + k]!).toNat = _
    rw [getElem!_def]
    simp only [List.getElem?_toArray]
    cases l[i + k]? <;> rfl
  have hlt : ∀ k, decide (i + k < (bs l).size) = decide (k < (l.drop i).length) := fun k => by
    rw [bs_size, List.length_drop]
    exact decide_eq_decide.2 (by omega)
  unfold Utf8.decode dec
  simp only [hget, hlt, Bool.and_eq_true, decide_eq_true_eq, beq_iff_eq, Utf8.runeError, ge_iff_le]
theorem dec_pos (s : List UInt8) : 1 ≤ (dec s).2 := by
  unfold dec
  repeat' split
  all_goals simp
theorem dec_le {s : List UInt8} (hs : s ≠ []) : (dec s).2 ≤ s.length := by
  have : 0 < s.length := List.length_pos_iff.2 hs
  unfold dec
  repeat' split
  all_goals simp only
  all_goals omega
theorem dec_lt (s : List UInt8) : (dec s).1 < 1114112 := by
  have h0 := at0_lt s 0
  have h1 := at0_lt s 1
  have h2 := at0_lt s 2
  have h3 := at0_lt s 3
  unfold dec
  repeat' split
  all_goals simp only
  all_goals first
    | omega
    | (rename_i h; have := h.2; simp only [Utf8.valid, Bool.or_eq_true, Bool.and_eq_true, decide_eq_true_eq] at this; omega)

/-- the document's: a continuation; the number that grows; what stands at the end -/
def contB (s : List UInt8) (k : Nat) : Bool := decide (128 ≤ at0 s k ∧ at0 s k ≤ 191)
def vAcc (s : List UInt8) (v : Nat) : Nat → Nat
  | 0 => v
  | m + 1 => 64 * vAcc s v m + at0 s (m + 1) - 128
def rfin (s : List UInt8) (n least v0 : Nat) : Nat × Nat :=
  if s.length < n then (0, 0)
  else if (List.range (n - 1)).all fun j => contB s (j + 1) then
    if vAcc s v0 (n - 1) < least ∨ 1114111 < vAcc s v0 (n - 1) ∨ 55296 ≤ vAcc s v0 (n - 1) ∧ vAcc s v0 (n - 1) ≤ 57343 then (0, 0) else (n, vAcc s v0 (n - 1))
  else (0, 0)
/-- the document's size: how many bytes the rune has, and it -/
def rsz (s : List UInt8) : Nat × Nat :=
  if at0 s 0 < 128 then (1, at0 s 0)
  else if 194 ≤ at0 s 0 ∧ at0 s 0 ≤ 223 then rfin s 2 128 (at0 s 0 - 192)
  else if 224 ≤ at0 s 0 ∧ at0 s 0 ≤ 239 then rfin s 3 2048 (at0 s 0 - 224)
  else if 240 ≤ at0 s 0 ∧ at0 s 0 ≤ 244 then rfin s 4 65536 (at0 s 0 - 240)
  else (0, 0)
theorem valid_iff (n : Nat) : Utf8.valid (n : Int) = true ↔ ¬ (1114111 < n ∨ 55296 ≤ n ∧ n ≤ 57343) := by
  simp only [Utf8.valid, Bool.or_eq_true, Bool.and_eq_true, decide_eq_true_eq]
  omega
theorem cont_iff (s : List UInt8) (k : Nat) : contB s k = true ↔ at0 s k / 64 = 2 := by
  have := at0_lt s k
  simp only [contB, decide_eq_true_eq]
  omega
theorem rsz_dec (s : List UInt8) : (rsz s = (0, 0) ∧ dec s = (65533, 1)) ∨ (0 < (rsz s).1 ∧ dec s = ((rsz s).2, (rsz s).1)) := by
  have h0 := at0_lt s 0
  have h1 := at0_lt s 1
  have h2 := at0_lt s 2
  have h3 := at0_lt s 3
  by_cases c1 : at0 s 0 < 128
  · right; simp [rsz, dec, c1]
  by_cases c2 : 194 ≤ at0 s 0 ∧ at0 s 0 ≤ 223
  · have e : at0 s 0 / 32 = 6 := by omega
    have v : vAcc s (at0 s 0 - 192) 1 = 64 * (at0 s 0 - 192) + at0 s 1 - 128 := rfl
    by_cases k1 : 1 < s.length ∧ at0 s 1 / 64 = 2
    · have hr : rsz s = (2, 64 * (at0 s 0 - 192) + at0 s 1 - 128) := by
        unfold rsz rfin
        rw [if_neg c1, if_pos c2, if_neg (by omega), if_pos (by simp [List.range_succ, cont_iff, k1.2]), v, if_neg (by omega)]
      have hd : dec s = (at0 s 0 % 32 * 64 + at0 s 1 % 64, 2) := by
        unfold dec
        rw [if_neg c1, if_pos ⟨e, k1⟩, if_pos (by omega)]
      right
      rw [hr, hd]
      exact ⟨by simp, Prod.ext (by simp only; omega) rfl⟩
    · have hr : rsz s = (0, 0) := by
        unfold rsz rfin
        rw [if_neg c1, if_pos c2]
        by_cases hl : s.length < 2
        · rw [if_pos hl]
        · rw [if_neg hl, if_neg (by simp [List.range_succ, cont_iff]; omega)]
      have hd : dec s = (65533, 1) := by
        unfold dec
        rw [if_neg c1, if_neg (fun h => k1 h.2), if_neg (by omega), if_neg (by omega)]
      exact .inl ⟨hr, hd⟩
  by_cases c3 : 224 ≤ at0 s 0 ∧ at0 s 0 ≤ 239
  · have e : at0 s 0 / 16 = 14 := by omega
    have v : vAcc s (at0 s 0 - 224) 2 = 64 * (64 * (at0 s 0 - 224) + at0 s 1 - 128) + at0 s 2 - 128 := rfl
    by_cases k1 : (1 < s.length ∧ at0 s 1 / 64 = 2) ∧ 2 < s.length ∧ at0 s 2 / 64 = 2
    · have ev : 64 * (64 * (at0 s 0 - 224) + at0 s 1 - 128) + at0 s 2 - 128 = at0 s 0 % 16 * 4096 + at0 s 1 % 64 * 64 + at0 s 2 % 64 := by omega
      have hr : rsz s = if at0 s 0 % 16 * 4096 + at0 s 1 % 64 * 64 + at0 s 2 % 64 < 2048 ∨ 1114111 < at0 s 0 % 16 * 4096 + at0 s 1 % 64 * 64 + at0 s 2 % 64 ∨ 55296 ≤ at0 s 0 % 16 * 4096 + at0 s 1 % 64 * 64 + at0 s 2 % 64 ∧ at0 s 0 % 16 * 4096 + at0 s 1 % 64 * 64 + at0 s 2 % 64 ≤ 57343 then (0, 0) else (3, at0 s 0 % 16 * 4096 + at0 s 1 % 64 * 64 + at0 s 2 % 64) := by
        unfold rsz rfin
        rw [if_neg c1, if_neg c2, if_pos c3, if_neg (by omega), if_pos (by simp [List.range_succ, cont_iff, k1.1.2, k1.2.2]), v, ev]
      have hd : dec s = if 2048 ≤ at0 s 0 % 16 * 4096 + at0 s 1 % 64 * 64 + at0 s 2 % 64 ∧ Utf8.valid ((at0 s 0 % 16 * 4096 + at0 s 1 % 64 * 64 + at0 s 2 % 64 : Nat) : Int) = true then (at0 s 0 % 16 * 4096 + at0 s 1 % 64 * 64 + at0 s 2 % 64, 3) else (65533, 1) := by
        unfold dec
        rw [if_neg c1, if_neg (by omega), if_pos ⟨⟨e, k1.1⟩, k1.2⟩]
      rw [hr, hd]
      generalize at0 s 0 % 16 * 4096 + at0 s 1 % 64 * 64 + at0 s 2 % 64 = x
      by_cases hx : x < 2048 ∨ 1114111 < x ∨ 55296 ≤ x ∧ x ≤ 57343
      · left
        rw [if_pos hx, if_neg (by rw [valid_iff]; omega)]
        exact ⟨rfl, rfl⟩
      · right
        rw [if_neg hx, if_pos (by rw [valid_iff]; omega)]
        exact ⟨by simp, rfl⟩
    · have hr : rsz s = (0, 0) := by
        unfold rsz rfin
        rw [if_neg c1, if_neg c2, if_pos c3]
        by_cases hl : s.length < 3
        · rw [if_pos hl]
        · rw [if_neg hl, if_neg (by simp [List.range_succ, cont_iff]; omega)]
      have hd : dec s = (65533, 1) := by
        unfold dec
        rw [if_neg c1, if_neg (by omega), if_neg (fun h => k1 ⟨h.1.2, h.2⟩), if_neg (by omega)]
      exact .inl ⟨hr, hd⟩
  by_cases c4 : 240 ≤ at0 s 0 ∧ at0 s 0 ≤ 244
  · have e : at0 s 0 / 8 = 30 := by omega
    have v : vAcc s (at0 s 0 - 240) 3 = 64 * (64 * (64 * (at0 s 0 - 240) + at0 s 1 - 128) + at0 s 2 - 128) + at0 s 3 - 128 := rfl
    by_cases k1 : ((1 < s.length ∧ at0 s 1 / 64 = 2) ∧ 2 < s.length ∧ at0 s 2 / 64 = 2) ∧ 3 < s.length ∧ at0 s 3 / 64 = 2
    · have ev : 64 * (64 * (64 * (at0 s 0 - 240) + at0 s 1 - 128) + at0 s 2 - 128) + at0 s 3 - 128 = at0 s 0 % 8 * 262144 + at0 s 1 % 64 * 4096 + at0 s 2 % 64 * 64 + at0 s 3 % 64 := by omega
      have hr : rsz s = if at0 s 0 % 8 * 262144 + at0 s 1 % 64 * 4096 + at0 s 2 % 64 * 64 + at0 s 3 % 64 < 65536 ∨ 1114111 < at0 s 0 % 8 * 262144 + at0 s 1 % 64 * 4096 + at0 s 2 % 64 * 64 + at0 s 3 % 64 ∨ 55296 ≤ at0 s 0 % 8 * 262144 + at0 s 1 % 64 * 4096 + at0 s 2 % 64 * 64 + at0 s 3 % 64 ∧ at0 s 0 % 8 * 262144 + at0 s 1 % 64 * 4096 + at0 s 2 % 64 * 64 + at0 s 3 % 64 ≤ 57343 then (0, 0) else (4, at0 s 0 % 8 * 262144 + at0 s 1 % 64 * 4096 + at0 s 2 % 64 * 64 + at0 s 3 % 64) := by
        unfold rsz rfin
        rw [if_neg c1, if_neg c2, if_neg c3, if_pos c4, if_neg (by omega), if_pos (by simp [List.range_succ, cont_iff, k1.1.1.2, k1.1.2.2, k1.2.2]), v, ev]
      have hd : dec s = if 65536 ≤ at0 s 0 % 8 * 262144 + at0 s 1 % 64 * 4096 + at0 s 2 % 64 * 64 + at0 s 3 % 64 ∧ Utf8.valid ((at0 s 0 % 8 * 262144 + at0 s 1 % 64 * 4096 + at0 s 2 % 64 * 64 + at0 s 3 % 64 : Nat) : Int) = true then (at0 s 0 % 8 * 262144 + at0 s 1 % 64 * 4096 + at0 s 2 % 64 * 64 + at0 s 3 % 64, 4) else (65533, 1) := by
        unfold dec
        rw [if_neg c1, if_neg (by omega), if_neg (by omega), if_pos ⟨⟨⟨e, k1.1.1⟩, k1.1.2⟩, k1.2⟩]
      rw [hr, hd]
      generalize at0 s 0 % 8 * 262144 + at0 s 1 % 64 * 4096 + at0 s 2 % 64 * 64 + at0 s 3 % 64 = x
      by_cases hx : x < 65536 ∨ 1114111 < x ∨ 55296 ≤ x ∧ x ≤ 57343
      · left
        rw [if_pos hx, if_neg (by rw [valid_iff]; omega)]
        exact ⟨rfl, rfl⟩
      · right
        rw [if_neg hx, if_pos (by rw [valid_iff]; omega)]
        exact ⟨by simp, rfl⟩
    · have hr : rsz s = (0, 0) := by
        unfold rsz rfin
        rw [if_neg c1, if_neg c2, if_neg c3, if_pos c4]
        by_cases hl : s.length < 4
        · rw [if_pos hl]
        · rw [if_neg hl, if_neg (by simp [List.range_succ, cont_iff]; omega)]
      have hd : dec s = (65533, 1) := by
        unfold dec
        rw [if_neg c1, if_neg (by omega), if_neg (by omega), if_neg (fun h => k1 ⟨⟨h.1.1.2, h.1.2⟩, h.2⟩)]
      exact .inl ⟨hr, hd⟩
  · have hr : rsz s = (0, 0) := by
      unfold rsz
      rw [if_neg c1, if_neg c2, if_neg c3, if_neg c4]
    have hd : dec s = (65533, 1) := by
      unfold dec
      rw [if_neg c1]
      by_cases q2 : at0 s 0 / 32 = 6 ∧ 1 < s.length ∧ at0 s 1 / 64 = 2
      · rw [if_pos q2, if_neg (by omega)]
      · rw [if_neg q2, if_neg (by omega)]
        by_cases q4 : ((at0 s 0 / 8 = 30 ∧ 1 < s.length ∧ at0 s 1 / 64 = 2) ∧ 2 < s.length ∧ at0 s 2 / 64 = 2) ∧ 3 < s.length ∧ at0 s 3 / 64 = 2
        · rw [if_pos q4, if_neg (by rw [valid_iff]; omega)]
        · rw [if_neg q4]
    exact .inl ⟨hr, hd⟩
theorem rsz_cont {s : List UInt8} (h : 128 ≤ at0 s 0 ∧ at0 s 0 ≤ 191) : rsz s = (0, 0) := by
  unfold rsz
  rw [if_neg (by omega), if_neg (by omega), if_neg (by omega), if_neg (by omega)]
/-- behind a rune's first byte there are continuations alone -/
theorem dec_conts {s : List UInt8} {k : Nat} (h1 : 1 ≤ k) (hk : k < (dec s).2) : 128 ≤ at0 s k ∧ at0 s k ≤ 191 := by
  have hk0 := at0_lt s k
  have : at0 s k / 64 = 2 := by
    unfold dec at hk
    repeat' split at hk
    all_goals simp only at hk
    all_goals first
      | omega
      | (rename_i q _ ; obtain rfl : k = 1 := by omega
         exact q.2.2)
      | (rename_i q _
         rcases (by omega : k = 1 ∨ k = 2) with rfl | rfl
         · exact q.1.2.2
         · exact q.2.2)
      | (rename_i q _
         rcases (by omega : k = 1 ∨ k = 2 ∨ k = 3) with rfl | rfl | rfl
         · exact q.1.1.2.2
         · exact q.1.2.2
         · exact q.2.2)
  omega
end Go.Proofs.YtfjflkmhhbhceaaGreatDoor

/-
  Layer 3, plain laws: handles' bytes, and their parts. No condition.
-/
namespace Go.Proofs.YtfjflkmhhbhceaaGreatDoor
open Go.RowKit

/-- are there such parts -/
def Parts.mayF (p : Parts) : Bool := decide ((p.kind = 1 ∨ p.kind = 2) ∧ (0 ≤ p.a ∧ p.a ≤ 4294967295) ∧ 0 ≤ p.b)
theorem Parts.mayF_iff (p : Parts) : p.mayF = true ↔ (p.kind = 1 ∨ p.kind = 2) ∧ (0 ≤ p.a ∧ p.a ≤ 4294967295) ∧ 0 ≤ p.b := by unfold Parts.mayF; exact decide_eq_true_iff
/-- their bytes -/
def fhB (p : Parts) : List UInt8 := num (p.kind.toNat * 16777216) 4 ++ num p.a.toNat 4 ++ num p.b.toNat 8
theorem fhB_len (p : Parts) : (fhB p).length = 16 := by simp [fhB, num_len]
def fhMake (p : Parts) : List UInt8 := if p.mayF then fhB p else []
theorem fhMake_len (p : Parts) : (fhMake p).length ≤ 16 := by unfold fhMake; split <;> simp [fhB_len]
def parts0 : Parts := ⟨0, 0, 0⟩
/-- is it a handle -/
def fhGood (s : List UInt8) : Bool := decide (s.length = 16 ∧ (at0 s 0 = 1 ∨ at0 s 0 = 2) ∧ at0 s 1 = 0 ∧ at0 s 2 = 0 ∧ at0 s 3 = 0 ∧ at0 s 8 < 128)
theorem fhGood_iff (s : List UInt8) : fhGood s = true ↔ s.length = 16 ∧ (at0 s 0 = 1 ∨ at0 s 0 = 2) ∧ at0 s 1 = 0 ∧ at0 s 2 = 0 ∧ at0 s 3 = 0 ∧ at0 s 8 < 128 := by unfold fhGood; exact decide_eq_true_iff
/-- the parts of a handle -/
def fhP (s : List UInt8) : Parts := ⟨(at0 s 0 : Int), (beVal ((s.drop 4).take 4) : Int), (beVal (s.drop 8) : Int)⟩
def fhParse (s : List UInt8) : Parts × Int := if fhGood s then (fhP s, 0) else (parts0, 14)

theorem len16 {s : List UInt8} (h : s.length = 16) : ∃ a b c d l m, s = a :: b :: c :: d :: (l ++ m) ∧ l.length = 4 ∧ m.length = 8 := by
  match s, h with
  | a :: b :: c :: d :: r, h =>
    refine ⟨a, b, c, d, r.take 4, r.drop 4, by rw [List.take_append_drop], ?_, ?_⟩
    · simp at h; simp; omega
    · simp at h; simp; omega
theorem beVal4 (a b c d : UInt8) : beVal [a, b, c, d] = a.toNat * 16777216 + b.toNat * 65536 + c.toNat * 256 + d.toNat := by
  simp [beVal]; omega
theorem num4_kind (k : Nat) (_h : k < 256) : num (k * 16777216) 4 = [UInt8.ofNat k, 0, 0, 0] := by
  simp only [num, List.nil_append, List.cons_append]
  rw [show k * 16777216 / 256 / 256 / 256 = k by omega]
  congr 1
  congr 1
  · apply UInt8.toNat_inj.1; simp <;> omega
  · congr 1
    · apply UInt8.toNat_inj.1; simp <;> omega
    · congr 1
      apply UInt8.toNat_inj.1; simp <;> omega
theorem beVal8_lt {m : List UInt8} (h : m.length = 8) : beVal m < 9223372036854775808 ↔ at0 m 0 < 128 := by
  match m, h with
  | b :: l, h =>
    have hl := beVal_lt l
    have : l.length = 7 := by simpa using h
    rw [this] at hl
    simp only [beVal, this]
    show _ ↔ b.toNat < 128
    omega
theorem at0_drop8 {a b c d : UInt8} {l m : List UInt8} (hl : l.length = 4) (k : Nat) : at0 (a :: b :: c :: d :: (l ++ m)) (8 + k) = at0 m k := by
  unfold at0
  have : (a :: b :: c :: d :: (l ++ m))[8 + k]? = m[k]? := by
    rw [show (a :: b :: c :: d :: (l ++ m)) = (a :: b :: c :: d :: l) ++ m by simp, List.getElem?_append_right (by simp; omega)]
    congr 1
    simp
    omega
  rw [this]
/-- a handle's parts may be, and are its bytes -/
theorem good_parts {s : List UInt8} (h : fhGood s = true) : (fhP s).mayF = true ∧ fhB (fhP s) = s ∧ (fhP s).b ≤ 9223372036854775807 := by
  obtain ⟨hl, hk, h1, h2, h3, h8⟩ := (fhGood_iff s).1 h
  obtain ⟨a, b, c, d, l, m, rfl, hl4, hm8⟩ := len16 hl
  have e0 : at0 (a :: b :: c :: d :: (l ++ m)) 0 = a.toNat := rfl
  have e1 : b = 0 := UInt8.toNat_inj.1 h1
  have e2 : c = 0 := UInt8.toNat_inj.1 h2
  have e3 : d = 0 := UInt8.toNat_inj.1 h3
  have e8 := at0_drop8 (a := a) (b := b) (c := c) (d := d) (m := m) hl4 0
  have d4 : ((a :: b :: c :: d :: (l ++ m)).drop 4).take 4 = l := by simp [hl4]
  have d8 : (a :: b :: c :: d :: (l ++ m)).drop 8 = m := by simp [hl4]
  have hlv := beVal_lt l
  rw [hl4] at hlv
  have hmv : beVal m < 9223372036854775808 := (beVal8_lt hm8).2 (by rw [← e8]; exact h8)
  have hP : fhP (a :: b :: c :: d :: (l ++ m)) = ⟨(a.toNat : Int), (beVal l : Int), (beVal m : Int)⟩ := by unfold fhP; rw [d4, d8, e0]
  rw [e0] at hk
  rw [hP]
  refine ⟨(Parts.mayF_iff _).2 ⟨by simp only; omega, by simp only; omega, by simp only; omega⟩, ?_, by simp only; omega⟩
  unfold fhB
  simp only [Int.toNat_natCast]
  rw [num4_kind _ (UInt8.toNat_lt a), UInt8.ofNat_toNat, e1, e2, e3]
  have n1 := num_beVal l
  have n2 := num_beVal m
  rw [hl4] at n1
  rw [hm8] at n2
  rw [n1, n2]
  simp
/-- parts that may be come back from their bytes -/
theorem parts_good {p : Parts} (h : p.mayF = true) (hb : p.b ≤ 9223372036854775807) : fhGood (fhB p) = true ∧ fhP (fhB p) = p := by
  obtain ⟨hk, ⟨ha0, ha1⟩, hb0⟩ := (Parts.mayF_iff p).1 h
  obtain ⟨k, a, b⟩ := p
  simp only at hk ha0 ha1 hb0 hb
  obtain ⟨a, rfl⟩ := Int.eq_ofNat_of_zero_le ha0
  obtain ⟨b, rfl⟩ := Int.eq_ofNat_of_zero_le hb0
  obtain ⟨k, rfl⟩ := Int.eq_ofNat_of_zero_le (show 0 ≤ k by omega)
  have hk256 : k < 256 := by omega
  have hB : fhB ⟨(k : Int), (a : Int), (b : Int)⟩ = UInt8.ofNat k :: 0 :: 0 :: 0 :: (num a 4 ++ num b 8) := by
    unfold fhB
    simp only [Int.toNat_natCast]
    rw [num4_kind _ hk256]
    simp
  have hkn : (UInt8.ofNat k).toNat = k := by rw [UInt8.toNat_ofNat', Nat.mod_eq_of_lt hk256]
  have n4 := num_len a 4
  have n8 := num_len b 8
  have va := beVal_num a 4 (by omega)
  have vb := beVal_num b 8 (by omega)
  generalize num a 4 = l at *
  generalize num b 8 = m at *
  rw [hB]
  have e8 := at0_drop8 (a := UInt8.ofNat k) (b := 0) (c := 0) (d := 0) (m := m) n4 0
  have d4 : ((UInt8.ofNat k :: 0 :: 0 :: 0 :: (l ++ m)).drop 4).take 4 = l := by simp [n4]
  have d8 : (UInt8.ofNat k :: 0 :: 0 :: 0 :: (l ++ m)).drop 8 = m := by simp [n4]
  have e0 : at0 (UInt8.ofNat k :: 0 :: 0 :: 0 :: (l ++ m)) 0 = k := hkn
  refine ⟨(fhGood_iff _).2 ⟨by simp; omega, by rw [e0]; omega, rfl, rfl, rfl, ?_⟩, ?_⟩
  · rw [show (8 : Nat) = 8 + 0 by rfl, e8]
    exact (beVal8_lt n8).1 (by omega)
  · unfold fhP
    rw [d4, d8, e0, va, vb]
theorem parse_make {p : Parts} (h : p.mayF = true) (hb : p.b ≤ 9223372036854775807) : fhParse (fhB p) = (p, 0) := by
  obtain ⟨h1, h2⟩ := parts_good h hb
  unfold fhParse
  rw [if_pos h1, h2]
theorem parse_shape (s : List UInt8) : (fhGood s = true ∧ fhParse s = (fhP s, 0)) ∨ (fhGood s = false ∧ fhParse s = (parts0, 14)) := by
  unfold fhParse
  cases h : fhGood s with
  | true => exact .inl ⟨rfl, rfl⟩
  | false => exact .inr ⟨rfl, rfl⟩
theorem may_ne0 {p : Parts} (h : p.mayF = true) : p ≠ parts0 := fun e => by
  subst e
  exact absurd h (by decide)
/-- as the program reads it -/
theorem good_prog {s : List UInt8} (hs : s.length = 16) : fhGood s = true ↔ beVal (s.drop 8) < 9223372036854775808 ∧ Parts.mayF ⟨((beVal (s.take 4) / 16777216 : Nat) : Int), (beVal ((s.drop 4).take 4) : Int), (beVal (s.drop 8) : Int)⟩ = true ∧ fhB ⟨((beVal (s.take 4) / 16777216 : Nat) : Int), (beVal ((s.drop 4).take 4) : Int), (beVal (s.drop 8) : Int)⟩ = s := by
  obtain ⟨a, b, c, d, l, m, rfl, hl4, hm8⟩ := len16 hs
  have t4 : (a :: b :: c :: d :: (l ++ m)).take 4 = [a, b, c, d] := rfl
  have d4 : ((a :: b :: c :: d :: (l ++ m)).drop 4).take 4 = l := by simp [hl4]
  have d8 : (a :: b :: c :: d :: (l ++ m)).drop 8 = m := by simp [hl4]
  have hA := UInt8.toNat_lt a
  have hB := UInt8.toNat_lt b
  have hC := UInt8.toNat_lt c
  have hD := UInt8.toNat_lt d
  have hk : beVal [a, b, c, d] / 16777216 = a.toNat := by rw [beVal4]; omega
  have e8 := at0_drop8 (a := a) (b := b) (c := c) (d := d) (m := m) hl4 0
  have hlv := beVal_lt l
  rw [hl4] at hlv
  rw [t4, d4, d8, hk, fhGood_iff, Parts.mayF_iff]
  have hF : fhB ⟨(a.toNat : Int), (beVal l : Int), (beVal m : Int)⟩ = a :: 0 :: 0 :: 0 :: (l ++ m) := by
    unfold fhB
    simp only [Int.toNat_natCast]
    rw [num4_kind _ hA, UInt8.ofNat_toNat]
    have n1 := num_beVal l
    have n2 := num_beVal m
    rw [hl4] at n1
    rw [hm8] at n2
    rw [n1, n2]
    simp
  rw [hF]
  constructor
  · rintro ⟨_, k, h1, h2, h3, h8⟩
    have e1 : b = 0 := UInt8.toNat_inj.1 h1
    have e2 : c = 0 := UInt8.toNat_inj.1 h2
    have e3 : d = 0 := UInt8.toNat_inj.1 h3
    have hk2 : a.toNat = 1 ∨ a.toNat = 2 := k
    refine ⟨(beVal8_lt hm8).2 (by rw [← e8]; exact h8), ⟨by simp only; omega, by simp only; omega, by simp only; omega⟩, by rw [e1, e2, e3]⟩
  · rintro ⟨hm, ⟨k, _, _⟩, e⟩
    simp only [List.cons.injEq, true_and, and_true] at e
    obtain ⟨rfl, rfl, rfl⟩ := e
    have hk2 : a.toNat = 1 ∨ a.toNat = 2 := by simp only at k; omega
    refine ⟨hs, hk2, rfl, rfl, rfl, ?_⟩
    rw [show (8 : Nat) = 8 + 0 by rfl, e8]
    exact (beVal8_lt hm8).1 hm
end Go.Proofs.YtfjflkmhhbhceaaGreatDoor


/-
  Layer 21, walks: the reference's sums over nodes. Conditions: at most 70 nodes, of at most 2000 bytes each.
-/
namespace Go.Proofs.YtfjflkmhhbhceaaGreatDoor
open Go.RowKit

theorem nodeCell {w : World} {A : Option Addr} {ns : List Nd} (hA : At w 15 A (ns.map Nd.vals)) {k : Nat} (hk : k < ns.length) :
    ∃ b off, A = some ⟨b, off, none⟩ ∧ b < w.heap.size ∧ ∀ j u, ns[k].vals[j]? = some u → w.cell? ⟨b, off + k * 15 + j, none⟩ = some u := by
  obtain ⟨b, off, rfl, hb, hc⟩ := hA.getD (k := k) (by simpa using hk)
  exact ⟨b, off, rfl, hb, fun j u hu => hc j u (by simpa using hu)⟩

end Go.Proofs.YtfjflkmhhbhceaaGreatDoor


/-
  Layer 21, walks: the program's sums and searches over nodes, by closures. Conditions: at most 70 nodes, of at most 2000 bytes each.
-/
namespace Go.Proofs.YtfjflkmhhbhceaaGreatDoor
open Go.RowKit

/-- what a closure over one node does, in every later world -/
structure Tells (w : World) (f : Nat) (cap : Array Value) (p : Nd → Bool) : Prop where
  run : ∀ args W, (callFunc f args).run Tryz.prog W = .ok (.enter f args) W
  calls : ∀ (W : World) (n : Nd), Below w.heap.size w W → Calls Tryz.prog f (#[.agg n.vals.toArray] ++ cap) W fun e W' => e = .returned (.bool (p n)) ∧ Below W.heap.size W W'

def cnt (p : Nd → Bool) (ns : List Nd) : Nat := used (ns.filter p)
theorem cnt_hit {p : Nd → Bool} {ns : List Nd} {k : Nat} (hk : k < ns.length) (h : p ns[k] = true) : cnt p (ns.take (k + 1)) = cnt p (ns.take k) + ns[k].data.size := by
  unfold cnt; rw [take_succ _ _ hk, List.filter_append]; simp only [List.filter_cons, h, if_true, List.filter_nil]; exact used_snoc _ _
theorem cnt_miss {p : Nd → Bool} {ns : List Nd} {k : Nat} (hk : k < ns.length) (h : p ns[k] = false) : cnt p (ns.take (k + 1)) = cnt p (ns.take k) := by
  unfold cnt; rw [take_succ _ _ hk, List.filter_append]; simp [h]

theorem cnt_all (ns : List Nd) : cnt (fun _ => true) ns = used ns := by unfold cnt; rw [List.filter_eq_self.2 (by simp)]
end Go.Proofs.YtfjflkmhhbhceaaGreatDoor


/-
  Memory words for objects that are written: which blocks a call may have changed; a block that is known whole; a row that grows. No condition.
-/
namespace Go.Proofs.YtfjflkmhhbhceaaGreatDoor
open Go.RowKit

/-- all blocks that were there are as they were, but those of F -/
structure Touch (F : Nat → Prop) (w w' : World) : Prop where
  os : w'.os = w.os
  tape : w'.tape = w.tape
  output : w'.output = w.output
  size : w.heap.size ≤ w'.heap.size
  block : ∀ k, k < w.heap.size → ¬ F k → w'.heap[k]? = w.heap[k]?

theorem Touch.refl (F : Nat → Prop) (w : World) : Touch F w w := ⟨rfl, rfl, rfl, Nat.le_refl _, fun _ _ _ => rfl⟩
theorem Touch.of_below {w w' : World} (h : Below w.heap.size w w') (F : Nat → Prop) : Touch F w w' := ⟨h.os, h.tape, h.output, h.size, fun k hk _ => h.block k hk⟩
theorem Touch.of_grown {w w' : World} {row : Option Nat} (h : w.grownBy w' row) {F : Nat → Prop} (hF : ∀ k, row = some k → F k) : Touch F w w' :=
  ⟨h.os, h.tape, h.output, h.size, fun k hk hn => h.block k hk (fun e => hn (hF k e.symm))⟩
theorem Touch.mono {F G : Nat → Prop} {w w' : World} (h : Touch F w w') (hFG : ∀ k, k < w.heap.size → F k → G k) : Touch G w w' :=
  ⟨h.os, h.tape, h.output, h.size, fun k hk hn => h.block k hk (fun hf => hn (hFG k hk hf))⟩
/-- one behind the other: the second may change what is new, too -/
theorem Touch.trans {F G : Nat → Prop} {a b c : World} (h : Touch F a b) (k : Touch G b c) (hG : ∀ i, i < a.heap.size → G i → F i) : Touch F a c :=
  ⟨k.os.trans h.os, k.tape.trans h.tape, k.output.trans h.output, Nat.le_trans h.size k.size, fun i hi hn =>
    (k.block i (Nat.lt_of_lt_of_le hi h.size) (fun hg => hn (hG i hi hg))).trans (h.block i hi hn)⟩
theorem Touch.then_ {F : Nat → Prop} {a b c : World} (h : Touch F a b) (k : Touch F b c) : Touch F a c := h.trans k fun _ _ hg => hg
theorem Touch.alloc {F : Nat → Prop} {a b : World} (h : Touch F a b) (o : Obj) : Touch F a (b.alloc o) :=
  h.trans (Touch.of_below ((Below.refl _ _).alloc (Nat.le_refl _) o) F) fun _ _ hg => hg
theorem Touch.drew {F : Nat → Prop} {a b : World} (h : Touch F a b) : Touch F a b.drew := ⟨h.os, h.tape, h.output, h.size, h.block⟩
theorem Touch.drewN {F : Nat → Prop} {a b : World} (h : Touch F a b) (n : Nat) : Touch F a (b.drewN n) := ⟨h.os, h.tape, h.output, h.size, h.block⟩
theorem Touch.setCell {F : Nat → Prop} {a b : World} (h : Touch F a b) {p : Addr} (hp : F p.block ∨ a.heap.size ≤ p.block) (u : Value) : Touch F a (b.setCell p u) :=
  ⟨h.os, h.tape, h.output, by simpa [World.setCell] using h.size, fun i hi hn => (Below.heap_setCell b p u i (by
    rintro rfl
    rcases hp with hp | hp
    · exact hn hp
    · omega)).trans (h.block i hi hn)⟩
theorem Touch.below {F : Nat → Prop} {B : Nat} {w w' : World} (h : Touch F w w') (hF : ∀ k, k < w.heap.size → F k → B ≤ k) (hB : B ≤ w.heap.size) : Below B w w' :=
  ⟨h.os, h.tape, h.output, h.size, fun k hk => h.block k (by omega) (fun hf => by have := hF k (by omega) hf; omega)⟩
theorem Touch.cell {F : Nat → Prop} {w w' : World} (h : Touch F w w') {p : Addr} (hp : p.block < w.heap.size) (hn : ¬ F p.block) : w'.cell? p = w.cell? p := World.cell?_of_block (h.block p.block hp hn)
theorem Touch.row {F : Nat → Prop} {w w' : World} (h : Touch F w w') {b : Nat} (hb : b < w.heap.size) (hn : ¬ F b) (o n : Nat) : rowOf w' b o n = rowOf w b o n := by
  simp only [rowOf, h.block b hb hn]

/-- block g is just these cells of element type t, none frozen -/
def Blk (w : World) (g : Nat) (t : TypeId) (cs : List Value) : Prop := w.heap[g]? = some (.cells cs.toArray t (0, 0))
section
variable {w w' : World} {g : Nat} {t : TypeId} {cs : List Value}
theorem Blk.lt (h : Blk w g t cs) : g < w.heap.size := by
  rcases Nat.lt_or_ge g w.heap.size with hlt | hge
  · exact hlt
  · unfold Blk at h; rw [Array.getElem?_eq_none hge] at h; cases h
theorem Blk.cell (h : Blk w g t cs) (i : Nat) : w.cell? ⟨g, i, none⟩ = cs[i]? := by rw [cell_of_row w g i _ t (0, 0) h]; simp
theorem Blk.frozen (h : Blk w g t cs) (i : Nat) : w.frozen? ⟨g, i, none⟩ = false := by
  unfold Blk at h
  simp [World.frozen?, h]
theorem Blk.new (w : World) (t : TypeId) (cs : List Value) : Blk (w.alloc (.cells cs.toArray t)) w.heap.size t cs := heap_alloc_new w _
theorem Blk.drew (h : Blk w g t cs) : Blk w.drew g t cs := h
theorem Blk.drewN (h : Blk w g t cs) (n : Nat) : Blk (w.drewN n) g t cs := h
theorem Blk.alloc (h : Blk w g t cs) (o : Obj) : Blk (w.alloc o) g t cs := (Below.heap_alloc w o g h.lt).trans h
theorem Blk.set_ (h : Blk w g t cs) (i : Nat) (u : Value) : Blk (w.setCell ⟨g, i, none⟩ u) g t (cs.set i u) := by
  unfold Blk at h ⊢
  simp [World.setCell, Array.getElem?_modify, h]
theorem Blk.far (h : Blk w g t cs) {p : Addr} (hp : g ≠ p.block) (u : Value) : Blk (w.setCell p u) g t cs := (Below.heap_setCell w p u g hp).trans h
theorem Blk.touch {F : Nat → Prop} (h : Blk w g t cs) (hb : Touch F w w') (hn : ¬ F g) : Blk w' g t cs := (hb.block g h.lt hn).trans h
theorem Blk.below {B : Nat} (h : Blk w g t cs) (hb : Below B w w') (hg : g < B) : Blk w' g t cs := (hb.block g hg).trans h
theorem Blk.stays (h : Blk w g t cs) (hb : Below w.heap.size w w') : Blk w' g t cs := h.below hb h.lt
theorem Blk.grown {row : Option Nat} (h : Blk w g t cs) (hb : w.grownBy w' row) (hg : row ≠ some g) : Blk w' g t cs := (hb.block g h.lt (fun e => hg e.symm)).trans h
theorem Blk.ne_ {g' : Nat} {t' : TypeId} {cs' : List Value} (h : Blk w g t cs) (h' : Blk w g' t' cs') (hne : t ≠ t') : g ≠ g' := by
  rintro rfl
  unfold Blk at h h'
  rw [h] at h'
  injection h' with h'
  injection h' with _ ht
  exact hne ht
theorem Blk.inj {cs' : List Value} (h : Blk w g t cs) (h' : Blk w g t cs') : cs = cs' := by
  unfold Blk at h h'
  rw [h] at h'
  injection h' with h'
  injection h' with hc
  simpa using hc
theorem Blk.own_ne {base : Nat} {e : TypeId} {size n : Nat} {v : Value} {xs : List Value} (h : w.ownsRow base e size v n xs) (hg : Blk w g t cs) (hne : e ≠ t) : v.ownBlock ≠ some g := by
  rcases h.2 with ⟨rfl, _⟩ | ⟨g', cap, cur, rfl, _, hh, _⟩
  · simp [Value.ownBlock]
  · intro he
    have : g' = g := by simpa [Value.ownBlock] using he
    subst this
    unfold Blk at hg
    rw [hh] at hg
    injection hg with hg
    injection hg with _ ht
    exact hne ht
theorem Blk.row (h : Blk w g t cs) (o n : Nat) (hn : o + n ≤ cs.length) : rowOf w g o n = some ((cs.drop o).take n).toArray := by
  unfold Blk at h
  unfold rowOf
  simp only [h]
  rw [if_pos (by simpa using hn)]
  simp
end
theorem At.touch {w w' : World} {sz : Nat} {A : Option Addr} {rows : List (List Value)} {F : Nat → Prop} (h : At w sz A rows) (hb : Touch F w w') (hn : ∀ b off, A = some ⟨b, off, none⟩ → ¬ F b) : At w' sz A rows := by
  intro i r hr
  obtain ⟨b, off, hA, hlt, hc⟩ := h i r hr
  exact ⟨b, off, hA, Nat.lt_of_lt_of_le hlt hb.size, fun j u hu => (hb.cell (p := ⟨b, _, none⟩) hlt (hn b off hA)).trans (hc j u hu)⟩
theorem ownsRow_touch {w w' : World} {base : Nat} {e : TypeId} {size n : Nat} {v : Value} {xs : List Value} {F : Nat → Prop} (h : w.ownsRow base e size v n xs) (hb : Touch F w w') (hn : ∀ k, v.ownBlock = some k → ¬ F k) : w'.ownsRow base e size v n xs := by
  obtain ⟨h1, h2⟩ := h
  refine ⟨h1, ?_⟩
  rcases h2 with h2 | ⟨g, cap, cur, hv, hg, hh, r⟩
  · exact Or.inl h2
  · have hlt : g < w.heap.size := by
      rcases Nat.lt_or_ge g w.heap.size with h | h
      · exact h
      · rw [Array.getElem?_eq_none h] at hh; cases hh
    exact Or.inr ⟨g, cap, cur, hv, hg, by rw [hb.block g hlt (hn g (by rw [hv]; rfl))]; exact hh, r⟩

end Go.Proofs.YtfjflkmhhbhceaaGreatDoor


/-
  Layer 5 in plain words: what attributes, and what is to be set, may be; their bytes; what becomes of them. No condition.
-/
namespace Go.Proofs.YtfjflkmhhbhceaaGreatDoor

def okN (n most : Int) : Bool := decide (0 ≤ n) && decide (n ≤ most)
def Opt.ok (o : Opt) (most : Int) : Bool := if o.is then okN o.n most else o.n == 0
def Sett.ok (s : Sett) : Bool := s.mode.ok 4095 && (s.uid.ok 4294967295 && (s.gid.ok 4294967295 && (s.size.ok 9223372036854775807 && s.time.ok 9223372036854775807)))
def form (b : Bool) : Int := if b then 0 else 14
def Opt.bytes (o : Opt) : List UInt8 := optB o.is o.n
def Sett.bytes (s : Sett) : List UInt8 := s.mode.bytes ++ s.uid.bytes ++ s.gid.bytes ++ s.size.bytes ++ s.time.bytes
def Sett.empty (s : Sett) : Bool := !s.mode.is && (!s.uid.is && (!s.gid.is && (!s.size.is && !s.time.is)))
def Opt.over (o : Opt) (n : Int) : Int := if o.is then o.n else n
def Attr.applied (a : Attr) (s : Sett) (now : Int) : Attr :=
  { a with mode := s.mode.over a.mode, uid := s.uid.over a.uid, gid := s.gid.over a.gid, change := if s.empty then a.change else now, time := if s.time.is then s.time.n else if s.size.is then now else a.time }
def big : Int := 9223372036854775807
def Attr.ok (a : Attr) : Bool :=
  okN a.type 7 && decide (1 ≤ a.type) && okN a.mode 4095 && okN a.nlink 4294967295 && okN a.uid 4294967295 && okN a.gid 4294967295 && okN a.id 4294967295 && decide (0 ≤ a.size) && decide (0 ≤ a.gen) && decide (0 ≤ a.change) && decide (0 ≤ a.time)
theorem Opt.ok_pos {o : Opt} {m : Int} (h : o.ok m = true) : o.is = true → 0 ≤ o.n := fun hi => by
  unfold Opt.ok okN at h
  rw [if_pos hi] at h
  simp at h
  exact h.1
theorem Sett.ok_pos {s : Sett} (h : s.ok = true) : (s.mode.is = true → 0 ≤ s.mode.n) ∧ (s.uid.is = true → 0 ≤ s.uid.n) ∧ (s.gid.is = true → 0 ≤ s.gid.n) ∧ (s.size.is = true → 0 ≤ s.size.n) ∧ (s.time.is = true → 0 ≤ s.time.n) := by
  unfold Sett.ok at h
  simp only [Bool.and_eq_true] at h
  exact ⟨Opt.ok_pos h.1, Opt.ok_pos h.2.1, Opt.ok_pos h.2.2.1, Opt.ok_pos h.2.2.2.1, Opt.ok_pos h.2.2.2.2⟩
/-- the options, in order -/
def Sett.opt (s : Sett) : Nat → Opt
  | 0 => s.mode
  | 1 => s.uid
  | 2 => s.gid
  | 3 => s.size
  | _ => s.time
def Sett.upto (s : Sett) : Nat → List UInt8
  | 0 => []
  | k + 1 => s.upto k ++ (s.opt k).bytes
theorem Sett.upto_five (s : Sett) : s.upto 5 = s.bytes := by simp [Sett.upto, Sett.opt, Sett.bytes]
theorem Opt.bytes_len (o : Opt) : o.bytes.length ≤ 12 := by
  unfold Opt.bytes optB truth
  cases o.is <;> simp [num_len]
theorem Sett.upto_len (s : Sett) (k : Nat) : (s.upto k).length ≤ 12 * k := by
  induction k with
  | zero => simp [Sett.upto]
  | succ k ih => have := (s.opt k).bytes_len; simp only [Sett.upto, List.length_append]; omega
theorem Sett.empty_not {s : Sett} {k : Nat} (hk : k < 5) (h : (s.opt k).is = true) : s.empty = false := by
  match k, hk with
  | 0, _ | 1, _ | 2, _ | 3, _ | 4, _ => simp only [Sett.opt] at h; simp [Sett.empty, h]
theorem Sett.empty_end {s : Sett} (h : ∀ j, j < 5 → (s.opt j).is = false) : s.empty = true := by
  have h0 := h 0 (by omega)
  have h1 := h 1 (by omega)
  have h2 := h 2 (by omega)
  have h3 := h 3 (by omega)
  have h4 := h 4 (by omega)
  simp only [Sett.opt] at h0 h1 h2 h3 h4
  simp [Sett.empty, h0, h1, h2, h3, h4]
theorem Sett.opt_pos {s : Sett} (h : s.ok = true) {k : Nat} (hk : k < 5) : (s.opt k).is = true → 0 ≤ (s.opt k).n := by
  obtain ⟨h0, h1, h2, h3, h4⟩ := Sett.ok_pos h
  match k, hk with
  | 0, _ => exact h0
  | 1, _ => exact h1
  | 2, _ => exact h2
  | 3, _ => exact h3
  | 4, _ => exact h4
theorem Sett.opt_good {s : Sett} (h : s.good) {k : Nat} (hk : k < 5) : (s.opt k).good := by
  obtain ⟨h0, h1, h2, h3, h4⟩ := h
  match k, hk with
  | 0, _ => exact h0
  | 1, _ => exact h1
  | 2, _ => exact h2
  | 3, _ => exact h3
  | 4, _ => exact h4
end Go.Proofs.YtfjflkmhhbhceaaGreatDoor


/-
  Layer 9 in plain words: what messages may be, and their bytes. No condition.
-/
namespace Go.Proofs.YtfjflkmhhbhceaaGreatDoor

def num32 (n least : Int) : Bool := decide (least ≤ n) && decide (n ≤ 4294967295)
def Cred.ok (c : Cred) : Bool := decide (1 ≤ c.client) && (decide (c.client ≤ 4) && (num32 c.seq 1 && (num32 c.uid 0 && num32 c.gid 0)))
def thereP (p : Int) : Bool := decide (0 ≤ p) && decide (p ≤ 21)
def cred0 : Cred := ⟨0, 0, 0, 0⟩
def Message.may (m : Message) : Bool :=
  num32 m.xid 0 && ((m.body.length % 4 == 0) &&
    (if m.answer then (m.proc == 0) && (decide (m.cred = cred0) && (decide (0 ≤ m.accept) && (decide (m.accept ≤ 4) && ((m.accept == 0) || (m.body.isEmpty && !m.again)))))
     else thereP m.proc && (m.cred.ok && ((m.accept == 0) && !m.again))))
def Message.nums (m : Message) : List Int :=
  if m.answer then [m.xid, 1, 0, if m.again then 1 else 0, 0, m.accept]
  else [m.xid, 0, 2, 100003, 3, m.proc, 1, 16, m.cred.client, m.cred.seq, m.cred.uid, m.cred.gid, 0, 0]
def nums4 (l : List Int) : List UInt8 := l.flatMap fun n => num n.toNat 4
def Message.bytes (m : Message) : List UInt8 := nums4 m.nums ++ filled m.body
/-- why a message may not be -/
def Message.bad (m : Message) : Bool := !m.may || (decide (2048 < m.body.length) || decide (2048 < m.bytes.length))
end Go.Proofs.YtfjflkmhhbhceaaGreatDoor


/-
  Layer 9 in plain words: what bytes are a message. No condition.
-/
namespace Go.Proofs.YtfjflkmhhbhceaaGreatDoor

/-- a call, behind its Xid and its kind: n bytes, the words f 0, f 1, .., what lies behind the twelfth; none: it is given up -/
def calledG (x : Int) (n : Nat) (f : Nat → Nat) (rest : List UInt8) : Option Message :=
  if n < 4 then none else if f 0 ≠ 2 then none else if n < 8 then none else if f 1 ≠ 100003 then some ⟨x, false, false, 0, cred0, 1, []⟩
  else if n < 12 then none else if f 2 ≠ 3 then some ⟨x, false, false, 0, cred0, 2, []⟩
  else if n < 48 then none
  else if thereP (f 3) = false then some ⟨x, false, false, 0, cred0, 3, []⟩
  else if f 4 ≠ 1 ∨ f 5 ≠ 16 ∨ f 10 ≠ 0 ∨ f 11 ≠ 0 ∨ Cred.ok ⟨f 6, f 7, f 8, f 9⟩ = false ∨ n % 4 ≠ 0 then some ⟨x, false, false, 0, cred0, 4, []⟩
  else some ⟨x, false, false, f 3, ⟨f 6, f 7, f 8, f 9⟩, 0, rest⟩
/-- an answer, behind its Xid and its kind -/
def answeredG (x : Int) (n : Nat) (f : Nat → Nat) (rest : List UInt8) : Option Message :=
  if n < 16 then none else if f 0 ≠ 0 ∨ 1 < f 1 ∨ f 2 ≠ 0 ∨ n % 4 ≠ 0 then none
  else if Message.may ⟨x, true, f 1 == 1, 0, cred0, f 3, rest⟩ then some ⟨x, true, f 1 == 1, 0, cred0, f 3, rest⟩ else none
end Go.Proofs.YtfjflkmhhbhceaaGreatDoor

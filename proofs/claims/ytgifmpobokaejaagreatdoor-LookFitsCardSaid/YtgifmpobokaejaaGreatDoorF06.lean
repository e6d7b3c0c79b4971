/-
  Layer 4, plain laws: runes of a text, how it is shown and read. No condition.
-/
import Derived.Test.YtgifmpobokaejaaGreatDoorF02
import Derived.Test.YtgifmpobokaejaaGreatDoorF03
import Derived.Test.YtgifmpobokaejaaGreatDoorF04
import Derived.Test.YtgifmpobokaejaaGreatDoorProg
import Derived.Laws.RangeString
namespace Go.Proofs.YtgifmpobokaejaaGreatDoor
open Go.RowKit

/-- a text's byte at a place; nought behind its end -/
def at0 (s : List UInt8) (k : Nat) : Nat := ((s[k]?).getD 0).toNat
theorem at0_lt (s : List UInt8) (k : Nat) : at0 s k < 256 := UInt8.toNat_lt _
/-- the rune at a text's beginning, and how many bytes it has -/
def dec (s : List UInt8) : Nat × Nat :=
  if at0 s 0 < 128 then (at0 s 0, 1)
  else if at0 s 0 / 32 = 6 ∧ 1 < s.length ∧ at0 s 1 / 64 = 2 then
    if 128 ≤ at0 s 0 % 32 * 64 + at0 s 1 % 64 then (at0 s 0 % 32 * 64 + at0 s 1 % 64, 2) else (65533, 1)
  else if (at0 s 0 / 16 = 14 ∧ 1 < s.length ∧ at0 s 1 / 64 = 2) ∧ 2 < s.length ∧ at0 s 2 / 64 = 2 then
    if 2048 ≤ at0 s 0 % 16 * 4096 + at0 s 1 % 64 * 64 + at0 s 2 % 64 ∧ Utf8.valid ((at0 s 0 % 16 * 4096 + at0 s 1 % 64 * 64 + at0 s 2 % 64 : Nat) : Int) = true then (at0 s 0 % 16 * 4096 + at0 s 1 % 64 * 64 + at0 s 2 % 64, 3) else (65533, 1)
  else if ((at0 s 0 / 8 = 30 ∧ 1 < s.length ∧ at0 s 1 / 64 = 2) ∧ 2 < s.length ∧ at0 s 2 / 64 = 2) ∧ 3 < s.length ∧ at0 s 3 / 64 = 2 then
    if 65536 ≤ at0 s 0 % 8 * 262144 + at0 s 1 % 64 * 4096 + at0 s 2 % 64 * 64 + at0 s 3 % 64 ∧ Utf8.valid ((at0 s 0 % 8 * 262144 + at0 s 1 % 64 * 4096 + at0 s 2 % 64 * 64 + at0 s 3 % 64 : Nat) : Int) = true then (at0 s 0 % 8 * 262144 + at0 s 1 % 64 * 4096 + at0 s 2 % 64 * 64 + at0 s 3 % 64, 4) else (65533, 1)
  else (65533, 1)
theorem decode_dec (l : List UInt8) (i : Nat) : Utf8.decode (bs l) i = dec (l.drop i) := by
  have hget : ∀ k, ((bs l).get! (i + k)).toNat = at0 (l.drop i) k := fun k => by
    unfold at0
    rw [List.getElem?_drop]
    show (l.toArray[i + k]!).toNat = _
    rw [getElem!_def]
    simp only [List.getElem?_toArray]
    cases l[i + k]? <;> rfl
  have hlt : ∀ k, decide (i + k < (bs l).size) = decide (k < (l.drop i).length) := fun k => by
    rw [bs_size, List.length_drop]
    exact decide_eq_decide.2 (by omega)
  unfold Utf8.decode dec
  simp only [hget, hlt, Bool.and_eq_true, decide_eq_true_eq, beq_iff_eq, Utf8.runeError, ge_iff_le]
theorem dec_pos (s : List UInt8) : 1 ≤ (dec s).2 := by
  unfold dec
  repeat' split
  all_goals simp
theorem dec_le {s : List UInt8} (hs : s ≠ []) : (dec s).2 ≤ s.length := by
  have : 0 < s.length := List.length_pos_iff.2 hs
  unfold dec
  repeat' split
  all_goals simp only
  all_goals omega
theorem dec_lt (s : List UInt8) : (dec s).1 < 1114112 := by
  have h0 := at0_lt s 0
  have h1 := at0_lt s 1
  have h2 := at0_lt s 2
  have h3 := at0_lt s 3
  unfold dec
  repeat' split
  all_goals simp only
  all_goals first
    | omega
    | (rename_i h; have := h.2; simp only [Utf8.valid, Bool.or_eq_true, Bool.and_eq_true, decide_eq_true_eq] at this; omega)

/-- the document's: a continuation; the number that grows; what stands at the end -/
def contB (s : List UInt8) (k : Nat) : Bool := decide (128 ≤ at0 s k ∧ at0 s k ≤ 191)
def vAcc (s : List UInt8) (v : Nat) : Nat → Nat
  | 0 => v
  | m + 1 => 64 * vAcc s v m + at0 s (m + 1) - 128
def rfin (s : List UInt8) (n least v0 : Nat) : Nat × Nat :=
  if s.length < n then (0, 0)
  else if (List.range (n - 1)).all fun j => contB s (j + 1) then
    if vAcc s v0 (n - 1) < least ∨ 1114111 < vAcc s v0 (n - 1) ∨ 55296 ≤ vAcc s v0 (n - 1) ∧ vAcc s v0 (n - 1) ≤ 57343 then (0, 0) else (n, vAcc s v0 (n - 1))
  else (0, 0)
/-- the document's size: how many bytes the rune has, and it -/
def rsz (s : List UInt8) : Nat × Nat :=
  if at0 s 0 < 128 then (1, at0 s 0)
  else if 194 ≤ at0 s 0 ∧ at0 s 0 ≤ 223 then rfin s 2 128 (at0 s 0 - 192)
  else if 224 ≤ at0 s 0 ∧ at0 s 0 ≤ 239 then rfin s 3 2048 (at0 s 0 - 224)
  else if 240 ≤ at0 s 0 ∧ at0 s 0 ≤ 244 then rfin s 4 65536 (at0 s 0 - 240)
  else (0, 0)
theorem valid_iff (n : Nat) : Utf8.valid (n : Int) = true ↔ ¬ (1114111 < n ∨ 55296 ≤ n ∧ n ≤ 57343) := by
  simp only [Utf8.valid, Bool.or_eq_true, Bool.and_eq_true, decide_eq_true_eq]
  omega
theorem cont_iff (s : List UInt8) (k : Nat) : contB s k = true ↔ at0 s k / 64 = 2 := by
  have := at0_lt s k
  simp only [contB, decide_eq_true_eq]
  omega
theorem rsz_dec (s : List UInt8) : (rsz s = (0, 0) ∧ dec s = (65533, 1)) ∨ (0 < (rsz s).1 ∧ dec s = ((rsz s).2, (rsz s).1)) := by
  have h0 := at0_lt s 0
  have h1 := at0_lt s 1
  have h2 := at0_lt s 2
  have h3 := at0_lt s 3
  by_cases c1 : at0 s 0 < 128
  · right; simp [rsz, dec, c1]
  by_cases c2 : 194 ≤ at0 s 0 ∧ at0 s 0 ≤ 223
  · have e : at0 s 0 / 32 = 6 := by omega
    have v : vAcc s (at0 s 0 - 192) 1 = 64 * (at0 s 0 - 192) + at0 s 1 - 128 := rfl
    by_cases k1 : 1 < s.length ∧ at0 s 1 / 64 = 2
    · have hr : rsz s = (2, 64 * (at0 s 0 - 192) + at0 s 1 - 128) := by
        unfold rsz rfin
        rw [if_neg c1, if_pos c2, if_neg (by omega), if_pos (by simp [List.range_succ, cont_iff, k1.2]), v, if_neg (by omega)]
      have hd : dec s = (at0 s 0 % 32 * 64 + at0 s 1 % 64, 2) := by
        unfold dec
        rw [if_neg c1, if_pos ⟨e, k1⟩, if_pos (by omega)]
      right
      rw [hr, hd]
      exact ⟨by simp, Prod.ext (by simp only; omega) rfl⟩
    · have hr : rsz s = (0, 0) := by
        unfold rsz rfin
        rw [if_neg c1, if_pos c2]
        by_cases hl : s.length < 2
        · rw [if_pos hl]
        · rw [if_neg hl, if_neg (by simp [List.range_succ, cont_iff]; omega)]
      have hd : dec s = (65533, 1) := by
        unfold dec
        rw [if_neg c1, if_neg (fun h => k1 h.2), if_neg (by omega), if_neg (by omega)]
      exact .inl ⟨hr, hd⟩
  by_cases c3 : 224 ≤ at0 s 0 ∧ at0 s 0 ≤ 239
  · have e : at0 s 0 / 16 = 14 := by omega
    have v : vAcc s (at0 s 0 - 224) 2 = 64 * (64 * (at0 s 0 - 224) + at0 s 1 - 128) + at0 s 2 - 128 := rfl
    by_cases k1 : (1 < s.length ∧ at0 s 1 / 64 = 2) ∧ 2 < s.length ∧ at0 s 2 / 64 = 2
    · have ev : 64 * (64 * (at0 s 0 - 224) + at0 s 1 - 128) + at0 s 2 - 128 = at0 s 0 % 16 * 4096 + at0 s 1 % 64 * 64 + at0 s 2 % 64 := by omega
      have hr : rsz s = if at0 s 0 % 16 * 4096 + at0 s 1 % 64 * 64 + at0 s 2 % 64 < 2048 ∨ 1114111 < at0 s 0 % 16 * 4096 + at0 s 1 % 64 * 64 + at0 s 2 % 64 ∨ 55296 ≤ at0 s 0 % 16 * 4096 + at0 s 1 % 64 * 64 + at0 s 2 % 64 ∧ at0 s 0 % 16 * 4096 + at0 s 1 % 64 * 64 + at0 s 2 % 64 ≤ 57343 then (0, 0) else (3, at0 s 0 % 16 * 4096 + at0 s 1 % 64 * 64 + at0 s 2 % 64) := by
        unfold rsz rfin
        rw [if_neg c1, if_neg c2, if_pos c3, if_neg (by omega), if_pos (by simp [List.range_succ, cont_iff, k1.1.2, k1.2.2]), v, ev]
      have hd : dec s = if 2048 ≤ at0 s 0 % 16 * 4096 + at0 s 1 % 64 * 64 + at0 s 2 % 64 ∧ Utf8.valid ((at0 s 0 % 16 * 4096 + at0 s 1 % 64 * 64 + at0 s 2 % 64 : Nat) : Int) = true then (at0 s 0 % 16 * 4096 + at0 s 1 % 64 * 64 + at0 s 2 % 64, 3) else (65533, 1) := by
        unfold dec
        rw [if_neg c1, if_neg (by omega), if_pos ⟨⟨e, k1.1⟩, k1.2⟩]
      rw [hr, hd]
      generalize at0 s 0 % 16 * 4096 + at0 s 1 % 64 * 64 + at0 s 2 % 64 = x
      by_cases hx : x < 2048 ∨ 1114111 < x ∨ 55296 ≤ x ∧ x ≤ 57343
      · left
        rw [if_pos hx, if_neg (by rw [valid_iff]; omega)]
        exact ⟨rfl, rfl⟩
      · right
        rw [if_neg hx, if_pos (by rw [valid_iff]; omega)]
        exact ⟨by simp, rfl⟩
    · have hr : rsz s = (0, 0) := by
        unfold rsz rfin
        rw [if_neg c1, if_neg c2, if_pos c3]
        by_cases hl : s.length < 3
        · rw [if_pos hl]
        · rw [if_neg hl, if_neg (by simp [List.range_succ, cont_iff]; omega)]
      have hd : dec s = (65533, 1) := by
        unfold dec
        rw [if_neg c1, if_neg (by omega), if_neg (fun h => k1 ⟨h.1.2, h.2⟩), if_neg (by omega)]
      exact .inl ⟨hr, hd⟩
  by_cases c4 : 240 ≤ at0 s 0 ∧ at0 s 0 ≤ 244
  · have e : at0 s 0 / 8 = 30 := by omega
    have v : vAcc s (at0 s 0 - 240) 3 = 64 * (64 * (64 * (at0 s 0 - 240) + at0 s 1 - 128) + at0 s 2 - 128) + at0 s 3 - 128 := rfl
    by_cases k1 : ((1 < s.length ∧ at0 s 1 / 64 = 2) ∧ 2 < s.length ∧ at0 s 2 / 64 = 2) ∧ 3 < s.length ∧ at0 s 3 / 64 = 2
    · have ev : 64 * (64 * (64 * (at0 s 0 - 240) + at0 s 1 - 128) + at0 s 2 - 128) + at0 s 3 - 128 = at0 s 0 % 8 * 262144 + at0 s 1 % 64 * 4096 + at0 s 2 % 64 * 64 + at0 s 3 % 64 := by omega
      have hr : rsz s = if at0 s 0 % 8 * 262144 + at0 s 1 % 64 * 4096 + at0 s 2 % 64 * 64 + at0 s 3 % 64 < 65536 ∨ 1114111 < at0 s 0 % 8 * 262144 + at0 s 1 % 64 * 4096 + at0 s 2 % 64 * 64 + at0 s 3 % 64 ∨ 55296 ≤ at0 s 0 % 8 * 262144 + at0 s 1 % 64 * 4096 + at0 s 2 % 64 * 64 + at0 s 3 % 64 ∧ at0 s 0 % 8 * 262144 + at0 s 1 % 64 * 4096 + at0 s 2 % 64 * 64 + at0 s 3 % 64 ≤ 57343 then (0, 0) else (4, at0 s 0 % 8 * 262144 + at0 s 1 % 64 * 4096 + at0 s 2 % 64 * 64 + at0 s 3 % 64) := by
        unfold rsz rfin
        rw [if_neg c1, if_neg c2, if_neg c3, if_pos c4, if_neg (by omega), if_pos (by simp [List.range_succ, cont_iff, k1.1.1.2, k1.1.2.2, k1.2.2]), v, ev]
      have hd : dec s = if 65536 ≤ at0 s 0 % 8 * 262144 + at0 s 1 % 64 * 4096 + at0 s 2 % 64 * 64 + at0 s 3 % 64 ∧ Utf8.valid ((at0 s 0 % 8 * 262144 + at0 s 1 % 64 * 4096 + at0 s 2 % 64 * 64 + at0 s 3 % 64 : Nat) : Int) = true then (at0 s 0 % 8 * 262144 + at0 s 1 % 64 * 4096 + at0 s 2 % 64 * 64 + at0 s 3 % 64, 4) else (65533, 1) := by
        unfold dec
        rw [if_neg c1, if_neg (by omega), if_neg (by omega), if_pos ⟨⟨⟨e, k1.1.1⟩, k1.1.2⟩, k1.2⟩]
      rw [hr, hd]
      generalize at0 s 0 % 8 * 262144 + at0 s 1 % 64 * 4096 + at0 s 2 % 64 * 64 + at0 s 3 % 64 = x
      by_cases hx : x < 65536 ∨ 1114111 < x ∨ 55296 ≤ x ∧ x ≤ 57343
      · left
        rw [if_pos hx, if_neg (by rw [valid_iff]; omega)]
        exact ⟨rfl, rfl⟩
      · right
        rw [if_neg hx, if_pos (by rw [valid_iff]; omega)]
        exact ⟨by simp, rfl⟩
    · have hr : rsz s = (0, 0) := by
        unfold rsz rfin
        rw [if_neg c1, if_neg c2, if_neg c3, if_pos c4]
        by_cases hl : s.length < 4
        · rw [if_pos hl]
        · rw [if_neg hl, if_neg (by simp [List.range_succ, cont_iff]; omega)]
      have hd : dec s = (65533, 1) := by
        unfold dec
        rw [if_neg c1, if_neg (by omega), if_neg (by omega), if_neg (fun h => k1 ⟨⟨h.1.1.2, h.1.2⟩, h.2⟩)]
      exact .inl ⟨hr, hd⟩
  · have hr : rsz s = (0, 0) := by
      unfold rsz
      rw [if_neg c1, if_neg c2, if_neg c3, if_neg c4]
    have hd : dec s = (65533, 1) := by
      unfold dec
      rw [if_neg c1]
      by_cases q2 : at0 s 0 / 32 = 6 ∧ 1 < s.length ∧ at0 s 1 / 64 = 2
      · rw [if_pos q2, if_neg (by omega)]
      · rw [if_neg q2, if_neg (by omega)]
        by_cases q4 : ((at0 s 0 / 8 = 30 ∧ 1 < s.length ∧ at0 s 1 / 64 = 2) ∧ 2 < s.length ∧ at0 s 2 / 64 = 2) ∧ 3 < s.length ∧ at0 s 3 / 64 = 2
        · rw [if_pos q4, if_neg (by rw [valid_iff]; omega)]
        · rw [if_neg q4]
    exact .inl ⟨hr, hd⟩
theorem rsz_cont {s : List UInt8} (h : 128 ≤ at0 s 0 ∧ at0 s 0 ≤ 191) : rsz s = (0, 0) := by
  unfold rsz
  rw [if_neg (by omega), if_neg (by omega), if_neg (by omega), if_neg (by omega)]
/-- behind a rune's first byte there are continuations alone -/
theorem dec_conts {s : List UInt8} {k : Nat} (h1 : 1 ≤ k) (hk : k < (dec s).2) : 128 ≤ at0 s k ∧ at0 s k ≤ 191 := by
  have hk0 := at0_lt s k
  have : at0 s k / 64 = 2 := by
    unfold dec at hk
    repeat' split at hk
    all_goals simp only at hk
    all_goals first
      | omega
      | (rename_i q _ ; obtain rfl : k = 1 := by omega
         exact q.2.2)
      | (rename_i q _
         rcases (by omega : k = 1 ∨ k = 2) with rfl | rfl
         · exact q.1.2.2
         · exact q.2.2)
      | (rename_i q _
         rcases (by omega : k = 1 ∨ k = 2 ∨ k = 3) with rfl | rfl | rfl
         · exact q.1.1.2.2
         · exact q.1.2.2
         · exact q.2.2)
  omega
end Go.Proofs.YtgifmpobokaejaaGreatDoor

/-
  Layer 3, plain laws: handles' bytes, and their parts. No condition.
-/
namespace Go.Proofs.YtgifmpobokaejaaGreatDoor
open Go.RowKit

/-- are there such parts -/
def Parts.mayF (p : Parts) : Bool := decide ((p.kind = 1 ∨ p.kind = 2) ∧ (0 ≤ p.a ∧ p.a ≤ 4294967295) ∧ 0 ≤ p.b)
theorem Parts.mayF_iff (p : Parts) : p.mayF = true ↔ (p.kind = 1 ∨ p.kind = 2) ∧ (0 ≤ p.a ∧ p.a ≤ 4294967295) ∧ 0 ≤ p.b := by unfold Parts.mayF; exact decide_eq_true_iff
/-- their bytes -/
def fhB (p : Parts) : List UInt8 := num (p.kind.toNat * 16777216) 4 ++ num p.a.toNat 4 ++ num p.b.toNat 8
theorem fhB_len (p : Parts) : (fhB p).length = 16 := by simp [fhB, num_len]
def fhMake (p : Parts) : List UInt8 := if p.mayF then fhB p else []
theorem fhMake_len (p : Parts) : (fhMake p).length ≤ 16 := by unfold fhMake; split <;> simp [fhB_len]
def parts0 : Parts := ⟨0, 0, 0⟩
/-- is it a handle -/
def fhGood (s : List UInt8) : Bool := decide (s.length = 16 ∧ (at0 s 0 = 1 ∨ at0 s 0 = 2) ∧ at0 s 1 = 0 ∧ at0 s 2 = 0 ∧ at0 s 3 = 0 ∧ at0 s 8 < 128)
theorem fhGood_iff (s : List UInt8) : fhGood s = true ↔ s.length = 16 ∧ (at0 s 0 = 1 ∨ at0 s 0 = 2) ∧ at0 s 1 = 0 ∧ at0 s 2 = 0 ∧ at0 s 3 = 0 ∧ at0 s 8 < 128 := by unfold fhGood; exact decide_eq_true_iff
/-- the parts of a handle -/
def fhP (s : List UInt8) : Parts := ⟨(at0 s 0 : Int), (beVal ((s.drop 4).take 4) : Int), (beVal (s.drop 8) : Int)⟩
def fhParse (s : List UInt8) : Parts × Int := if fhGood s then (fhP s, 0) else (parts0, 14)

theorem len16 {s : List UInt8} (h : s.length = 16) : ∃ a b c d l m, s = a :: b :: c :: d :: (l ++ m) ∧ l.length = 4 ∧ m.length = 8 := by
  match s, h with
  | a :: b :: c :: d :: r, h =>
    refine ⟨a, b, c, d, r.take 4, r.drop 4, by rw [List.take_append_drop], ?_, ?_⟩
    · simp at h; simp; omega
    · simp at h; simp; omega
theorem beVal4 (a b c d : UInt8) : beVal [a, b, c, d] = a.toNat * 16777216 + b.toNat * 65536 + c.toNat * 256 + d.toNat := by
  simp [beVal]; omega
theorem num4_kind (k : Nat) (_h : k < 256) : num (k * 16777216) 4 = [UInt8.ofNat k, 0, 0, 0] := by
  simp only [num, List.nil_append, List.cons_append]
  rw [show k * 16777216 / 256 / 256 / 256 = k by omega]
  congr 1
  congr 1
  · apply UInt8.toNat_inj.1; simp <;> omega
  · congr 1
    · apply UInt8.toNat_inj.1; simp <;> omega
    · congr 1
      apply UInt8.toNat_inj.1; simp <;> omega
theorem beVal8_lt {m : List UInt8} (h : m.length = 8) : beVal m < 9223372036854775808 ↔ at0 m 0 < 128 := by
  match m, h with
  | b :: l, h =>
    have hl := beVal_lt l
    have : l.length = 7 := by simpa using h
    rw [this] at hl
    simp only [beVal, this]
    show _ ↔ b.toNat < 128
    omega
theorem at0_drop8 {a b c d : UInt8} {l m : List UInt8} (hl : l.length = 4) (k : Nat) : at0 (a :: b :: c :: d :: (l ++ m)) (8 + k) = at0 m k := by
  unfold at0
  have : (a :: b :: c :: d :: (l ++ m))[8 + k]? = m[k]? := by
    rw [show (a :: b :: c :: d :: (l ++ m)) = (a :: b :: c :: d :: l) ++ m by simp, List.getElem?_append_right (by simp; omega)]
    congr 1
    simp
    omega
  rw [this]
/-- a handle's parts may be, and are its bytes -/
theorem good_parts {s : List UInt8} (h : fhGood s = true) : (fhP s).mayF = true ∧ fhB (fhP s) = s ∧ (fhP s).b ≤ 9223372036854775807 := by
  obtain ⟨hl, hk, h1, h2, h3, h8⟩ := (fhGood_iff s).1 h
  obtain ⟨a, b, c, d, l, m, rfl, hl4, hm8⟩ := len16 hl
  have e0 : at0 (a :: b :: c :: d :: (l ++ m)) 0 = a.toNat := rfl
  have e1 : b = 0 := UInt8.toNat_inj.1 h1
  have e2 : c = 0 := UInt8.toNat_inj.1 h2
  have e3 : d = 0 := UInt8.toNat_inj.1 h3
  have e8 := at0_drop8 (a := a) (b := b) (c := c) (d := d) (m := m) hl4 0
  have d4 : ((a :: b :: c :: d :: (l ++ m)).drop 4).take 4 = l := by simp [hl4]
  have d8 : (a :: b :: c :: d :: (l ++ m)).drop 8 = m := by simp [hl4]
  have hlv := beVal_lt l
  rw [hl4] at hlv
  have hmv : beVal m < 9223372036854775808 := (beVal8_lt hm8).2 (by rw [← e8]; exact h8)
  have hP : fhP (a :: b :: c :: d :: (l ++ m)) = ⟨(a.toNat : Int), (beVal l : Int), (beVal m : Int)⟩ := by unfold fhP; rw [d4, d8, e0]
  rw [e0] at hk
  rw [hP]
  refine ⟨(Parts.mayF_iff _).2 ⟨by simp only; omega, by simp only; omega, by simp only; omega⟩, ?_, by simp only; omega⟩
  unfold fhB
  simp only [Int.toNat_natCast]
  rw [num4_kind _ (UInt8.toNat_lt a), UInt8.ofNat_toNat, e1, e2, e3]
  have n1 := num_beVal l
  have n2 := num_beVal m
  rw [hl4] at n1
  rw [hm8] at n2
  rw [n1, n2]
  simp
/-- parts that may be come back from their bytes -/
theorem parts_good {p : Parts} (h : p.mayF = true) (hb : p.b ≤ 9223372036854775807) : fhGood (fhB p) = true ∧ fhP (fhB p) = p := by
  obtain ⟨hk, ⟨ha0, ha1⟩, hb0⟩ := (Parts.mayF_iff p).1 h
  obtain ⟨k, a, b⟩ := p
  simp only at hk ha0 ha1 hb0 hb
  obtain ⟨a, rfl⟩ := Int.eq_ofNat_of_zero_le ha0
  obtain ⟨b, rfl⟩ := Int.eq_ofNat_of_zero_le hb0
  obtain ⟨k, rfl⟩ := Int.eq_ofNat_of_zero_le (show 0 ≤ k by omega)
  have hk256 : k < 256 := by omega
  have hB : fhB ⟨(k : Int), (a : Int), (b : Int)⟩ = UInt8.ofNat k :: 0 :: 0 :: 0 :: (num a 4 ++ num b 8) := by
    unfold fhB
    simp only [Int.toNat_natCast]
    rw [num4_kind _ hk256]
    simp
  have hkn : (UInt8.ofNat k).toNat = k := by rw [UInt8.toNat_ofNat', Nat.mod_eq_of_lt hk256]
  have n4 := num_len a 4
  have n8 := num_len b 8
  have va := beVal_num a 4 (by omega)
  have vb := beVal_num b 8 (by omega)
  generalize num a 4 = l at *
  generalize num b 8 = m at *
  rw [hB]
  have e8 := at0_drop8 (a := UInt8.ofNat k) (b := 0) (c := 0) (d := 0) (m := m) n4 0
  have d4 : ((UInt8.ofNat k :: 0 :: 0 :: 0 :: (l ++ m)).drop 4).take 4 = l := by simp [n4]
  have d8 : (UInt8.ofNat k :: 0 :: 0 :: 0 :: (l ++ m)).drop 8 = m := by simp [n4]
  have e0 : at0 (UInt8.ofNat k :: 0 :: 0 :: 0 :: (l ++ m)) 0 = k := hkn
  refine ⟨(fhGood_iff _).2 ⟨by simp; omega, by rw [e0]; omega, rfl, rfl, rfl, ?_⟩, ?_⟩
  · rw [show (8 : Nat) = 8 + 0 by rfl, e8]
    exact (beVal8_lt n8).1 (by omega)
  · unfold fhP
    rw [d4, d8, e0, va, vb]
theorem parse_make {p : Parts} (h : p.mayF = true) (hb : p.b ≤ 9223372036854775807) : fhParse (fhB p) = (p, 0) := by
  obtain ⟨h1, h2⟩ := parts_good h hb
  unfold fhParse
  rw [if_pos h1, h2]
theorem parse_shape (s : List UInt8) : (fhGood s = true ∧ fhParse s = (fhP s, 0)) ∨ (fhGood s = false ∧ fhParse s = (parts0, 14)) := by
  unfold fhParse
  cases h : fhGood s with
  | true => exact .inl ⟨rfl, rfl⟩
  | false => exact .inr ⟨rfl, rfl⟩
theorem may_ne0 {p : Parts} (h : p.mayF = true) : p ≠ parts0 := fun e => by
  subst e
  exact absurd h (by decide)
/-- as the program reads it -/
theorem good_prog {s : List UInt8} (hs : s.length = 16) : fhGood s = true ↔ beVal (s.drop 8) < 9223372036854775808 ∧ Parts.mayF ⟨((beVal (s.take 4) / 16777216 : Nat) : Int), (beVal ((s.drop 4).take 4) : Int), (beVal (s.drop 8) : Int)⟩ = true ∧ fhB ⟨((beVal (s.take 4) / 16777216 : Nat) : Int), (beVal ((s.drop 4).take 4) : Int), (beVal (s.drop 8) : Int)⟩ = s := by
  obtain ⟨a, b, c, d, l, m, rfl, hl4, hm8⟩ := len16 hs
  have t4 : (a :: b :: c :: d :: (l ++ m)).take 4 = [a, b, c, d] := rfl
  have d4 : ((a :: b :: c :: d :: (l ++ m)).drop 4).take 4 = l := by simp [hl4]
  have d8 : (a :: b :: c :: d :: (l ++ m)).drop 8 = m := by simp [hl4]
  have hA := UInt8.toNat_lt a
  have hB := UInt8.toNat_lt b
  have hC := UInt8.toNat_lt c
  have hD := UInt8.toNat_lt d
  have hk : beVal [a, b, c, d] / 16777216 = a.toNat := by rw [beVal4]; omega
  have e8 := at0_drop8 (a := a) (b := b) (c := c) (d := d) (m := m) hl4 0
  have hlv := beVal_lt l
  rw [hl4] at hlv
  rw [t4, d4, d8, hk, fhGood_iff, Parts.mayF_iff]
  have hF : fhB ⟨(a.toNat : Int), (beVal l : Int), (beVal m : Int)⟩ = a :: 0 :: 0 :: 0 :: (l ++ m) := by
    unfold fhB
    simp only [Int.toNat_natCast]
    rw [num4_kind _ hA, UInt8.ofNat_toNat]
    have n1 := num_beVal l
    have n2 := num_beVal m
    rw [hl4] at n1
    rw [hm8] at n2
    rw [n1, n2]
    simp
  rw [hF]
  constructor
  · rintro ⟨_, k, h1, h2, h3, h8⟩
    have e1 : b = 0 := UInt8.toNat_inj.1 h1
    have e2 : c = 0 := UInt8.toNat_inj.1 h2
    have e3 : d = 0 := UInt8.toNat_inj.1 h3
    have hk2 : a.toNat = 1 ∨ a.toNat = 2 := k
    refine ⟨(beVal8_lt hm8).2 (by rw [← e8]; exact h8), ⟨by simp only; omega, by simp only; omega, by simp only; omega⟩, by rw [e1, e2, e3]⟩
  · rintro ⟨hm, ⟨k, _, _⟩, e⟩
    simp only [List.cons.injEq, true_and, and_true] at e
    obtain ⟨rfl, rfl, rfl⟩ := e
    have hk2 : a.toNat = 1 ∨ a.toNat = 2 := by simp only at k; omega
    refine ⟨hs, hk2, rfl, rfl, rfl, ?_⟩
    rw [show (8 : Nat) = 8 + 0 by rfl, e8]
    exact (beVal8_lt hm8).1 hm
end Go.Proofs.YtgifmpobokaejaaGreatDoor


/-
  Layer 21 in plain words: how many bytes nodes use, which number is free, what room there is. No condition.
-/
namespace Go.Proofs.YtgifmpobokaejaaGreatDoor
open Go.RowKit

def used (ns : List Nd) : Nat := (ns.map fun n => n.data.size).sum
def owned (ns : List Nd) (uid : Int) : Nat := used (ns.filter fun n => n.attr.uid == uid)
def small (ns : List Nd) : Prop := ns.length ≤ 70 ∧ ∀ n ∈ ns, n.data.size ≤ 2000

theorem used_snoc (ns : List Nd) (n : Nd) : used (ns ++ [n]) = used ns + n.data.size := by simp [used]
theorem used_le (ns : List Nd) (h : ∀ n ∈ ns, n.data.size ≤ 2000) : used ns ≤ 2000 * ns.length := by
  induction ns with
  | nil => simp [used]
  | cons n ns ih =>
    have h1 := h n (by simp)
    have h2 := ih fun m hm => h m (by simp [hm])
    simp only [used, List.map_cons, List.sum_cons, List.length_cons] at *
    omega
theorem used_filter_le (ns : List Nd) (p : Nd → Bool) : used (ns.filter p) ≤ used ns := by
  induction ns with
  | nil => simp [used]
  | cons n ns ih =>
    simp only [used, List.filter_cons, List.map_cons, List.sum_cons] at *
    split
    · simp only [List.map_cons, List.sum_cons]; omega
    · omega
theorem take_succ (l : List Nd) (k : Nat) (hk : k < l.length) : l.take (k + 1) = l.take k ++ [l[k]] := List.take_succ_eq_append_getElem hk

theorem owned_succ (ns : List Nd) (uid : Int) (k : Nat) (hk : k < ns.length) : owned (ns.take (k + 1)) uid = if ns[k].attr.uid == uid then owned (ns.take k) uid + ns[k].data.size else owned (ns.take k) uid := by
  unfold owned
  rw [take_succ _ _ hk, List.filter_append]
  by_cases h : (ns[k].attr.uid == uid) = true
  · rw [if_pos h]; simp only [List.filter_cons, h, if_true, List.filter_nil]; exact used_snoc _ _
  · rw [if_neg h]; simp only [List.filter_cons, h, List.filter_nil]; simp
theorem owned_hit {ns : List Nd} {uid : Int} {k : Nat} (hk : k < ns.length) (h : (ns[k].attr.uid == uid) = true) : owned (ns.take (k + 1)) uid = owned (ns.take k) uid + ns[k].data.size := by
  rw [owned_succ _ _ _ hk, if_pos h]
theorem owned_miss {ns : List Nd} {uid : Int} {k : Nat} (hk : k < ns.length) (h : (ns[k].attr.uid == uid) = false) : owned (ns.take (k + 1)) uid = owned (ns.take k) uid := by
  rw [owned_succ _ _ _ hk, if_neg (by simp [h])]

def bulky (n : Nd) : Bool := decide (2000 < n.data.size) || decide (70 < n.en)
def large (ns : List Nd) : Bool := (ns.take 70).any bulky || decide (70 < ns.length)
theorem large_yes {ns : List Nd} {k : Nat} (hk : k < ns.length) (h7 : k < 70) (h : bulky ns[k] = true) : large ns = true := by
  have h1 : ns[k] ∈ ns.take 70 := by
    have : (ns.take 70)[k]? = some ns[k] := by rw [List.getElem?_take, if_pos h7]; exact List.getElem?_eq_getElem hk
    exact List.mem_of_getElem? this
  unfold large; rw [List.any_eq_true.2 ⟨_, h1, h⟩]; rfl
theorem bulky_step {ns : List Nd} {k : Nat} (hk : k < ns.length) (hn : (ns.take k).any bulky = false) (h : bulky ns[k] = false) : (ns.take (k + 1)).any bulky = false := by
  rw [take_succ _ _ hk, List.any_append, hn]; simp [h]
theorem large_end {ns : List Nd} {k : Nat} (hk : k ≤ ns.length) (hk7 : k ≤ 70) (hn : (ns.take k).any bulky = false) (he : ¬ (k < ns.length ∧ k < 70)) : large ns = decide (70 < (ns.length : Int)) := by
  unfold large
  have : (ns.take 70).any bulky = false := by
    rcases Nat.lt_or_ge k 70 with h | h
    · rw [List.take_of_length_le (by omega)]
      rw [List.take_of_length_le (by omega)] at hn
      exact hn
    · obtain rfl : k = 70 := by omega
      exact hn
  rw [this, Bool.false_or]
  exact decide_eq_decide.2 (by omega)
theorem small_of {ns : List Nd} (h : large ns = false) : small ns := by
  unfold large at h
  simp only [Bool.or_eq_false_iff, decide_eq_false_iff_not] at h
  have hl : ns.length ≤ 70 := by omega
  refine ⟨hl, fun n hn => ?_⟩
  rw [List.take_of_length_le hl] at h
  have := List.any_eq_false.1 h.1 n hn
  simp only [bulky, Bool.or_eq_true, decide_eq_true_eq] at this
  omega

/-- the first place where p holds, or -1 -/
def findI {α : Type} (p : α → Bool) (l : List α) : Int := match l.findIdx? p with | some i => (i : Int) | none => -1
theorem findI_hit {α : Type} {p : α → Bool} {l : List α} {k : Nat} (hk : k < l.length) (hn : (l.take k).any p = false) (h : p l[k] = true) : findI p l = k := by
  unfold findI
  have : l.findIdx? p = some k := by
    rw [List.findIdx?_eq_some_iff_getElem]
    refine ⟨hk, h, fun j hj => ?_⟩
    have hm : l[j] ∈ l.take k := by
      have : (l.take k)[j]? = some l[j] := by rw [List.getElem?_take, if_pos hj]; exact List.getElem?_eq_getElem (by omega)
      exact List.mem_of_getElem? this
    have := List.any_eq_false.1 hn _ hm
    simpa using this
  rw [this]
theorem findI_none {α : Type} {p : α → Bool} {l : List α} (hn : l.any p = false) : findI p l = -1 := by
  unfold findI
  have : l.findIdx? p = none := by
    rw [List.findIdx?_eq_none_iff]
    intro x hx
    simpa using List.any_eq_false.1 hn x hx
  rw [this]
theorem findI_any {α : Type} (p : α → Bool) (l : List α) : decide (0 ≤ findI p l) = l.any p := by
  unfold findI
  cases h : l.findIdx? p with
  | none =>
    rw [List.findIdx?_eq_none_iff] at h
    symm
    rw [List.any_eq_false.2 (fun x hx => by simp [h x hx])]
    decide
  | some i =>
    obtain ⟨hi, hp, _⟩ := List.findIdx?_eq_some_iff_getElem.1 h
    symm
    rw [List.any_eq_true.2 ⟨_, List.getElem_mem hi, hp⟩]
    simp
theorem any_step {α : Type} {p : α → Bool} {l : List α} {k : Nat} (hk : k < l.length) (hn : (l.take k).any p = false) (h : p l[k] = false) : (l.take (k + 1)).any p = false := by
  rw [List.take_succ_eq_append_getElem hk, List.any_append, hn]; simp [h]
theorem any_end {α : Type} {p : α → Bool} {l : List α} {k : Nat} (hk : l.length ≤ k) (hn : (l.take k).any p = false) : l.any p = false := by
  rwa [List.take_of_length_le hk] at hn

/-- is a number taken? -/
def taken (ns : List Nd) (id : Int) : Bool := ns.any fun n => n.attr.id == id
theorem pigeon (m : Nat) : ∀ L : List Int, (∀ j : Nat, 1 ≤ j → j ≤ m → (j : Int) ∈ L) → m ≤ L.length := by
  induction m with
  | zero => intros; omega
  | succ m ih =>
    intro L h
    have h1 : ((m + 1 : Nat) : Int) ∈ L := h (m + 1) (by omega) (by omega)
    have := ih (L.erase ((m + 1 : Nat) : Int)) fun j h2 h3 => (List.mem_erase_of_ne (by omega)).2 (h j h2 (by omega))
    rw [List.length_erase_of_mem h1] at this
    have : 0 < L.length := List.length_pos_of_mem h1
    omega
theorem taken_le {ns : List Nd} {m : Nat} (h : ∀ j : Nat, 1 ≤ j → j ≤ m → taken ns j = true) : m ≤ ns.length := by
  have := pigeon m (ns.map fun n => n.attr.id) fun j h1 h2 => by
    obtain ⟨n, hn, he⟩ := List.any_eq_true.1 (h j h1 h2)
    exact List.mem_map.2 ⟨n, hn, by simpa using he⟩
  simpa using this
/-- the least number from 1 on that is free: 'id' is that -/
def Free (ns : List Nd) (id : Nat) : Prop := 1 ≤ id ∧ taken ns id = false ∧ ∀ j : Nat, 1 ≤ j → j < id → taken ns j = true
theorem Free.unique {ns : List Nd} {a b : Nat} (ha : Free ns a) (hb : Free ns b) : a = b := by
  rcases Nat.lt_trichotomy a b with h | h | h
  · have := hb.2.2 a ha.1 h; rw [ha.2.1] at this; cases this
  · exact h
  · have := ha.2.2 b hb.1 h; rw [hb.2.1] at this; cases this

/-- limits that may be -/
def Lim.ok (l : Lim) : Bool := decide (0 ≤ l.space) && decide (l.space ≤ 1073741824) && decide (0 ≤ l.quota) && decide (l.quota ≤ 1073741824) && decide (1 ≤ l.nodes) && decide (l.nodes ≤ 64)
theorem Lim.bounds {l : Lim} (h : l.ok = true) : 0 ≤ l.space ∧ l.space ≤ 1073741824 ∧ 0 ≤ l.quota ∧ l.quota ≤ 1073741824 ∧ 1 ≤ l.nodes ∧ l.nodes ≤ 64 := by
  simp only [Lim.ok, Bool.and_eq_true, decide_eq_true_eq] at h; omega
def free (t : Tr) : Int := max 0 (t.lim.space - used t.ns)
def left (t : Tr) (uid : Int) : Int := if uid == 0 then free t else min (free t) (max 0 (t.lim.quota - owned t.ns uid))
def room (t : Tr) (uid more : Int) : Int := if more < 1 then 0 else if free t < more then 28 else if left t uid < more then 69 else 0
def rroom (t : Tr) (uid more : Int) : Int :=
  if more < 1 then 0 else if t.lim.space - used t.ns < more then 28 else if uid ≠ 0 ∧ t.lim.quota - owned t.ns uid < more then 69 else 0
theorem room_same (t : Tr) (uid more : Int) : room t uid more = rroom t uid more := by
  unfold room rroom left free
  by_cases h1 : more < 1
  · rw [if_pos h1, if_pos h1]
  · rw [if_neg h1, if_neg h1]
    by_cases h2 : t.lim.space - used t.ns < more
    · rw [if_pos h2, if_pos (by omega)]
    · rw [if_neg h2, if_neg (by omega)]
      by_cases h3 : uid = 0
      · subst h3; simp; omega
      · simp only [beq_iff_eq, h3, if_false, ne_eq, not_false_eq_true, true_and]
        by_cases h4 : t.lim.quota - owned t.ns uid < more
        · rw [if_pos h4, if_pos (by omega)]
        · rw [if_neg h4, if_neg (by omega)]
theorem room_less {t : Tr} {uid more less : Int} (h : room t uid more = 0) (hl : less ≤ more) : room t uid less = 0 := by
  unfold room at *
  split at h
  · rw [if_pos (by omega)]
  · split at h
    · cases h
    · split at h
      · cases h
      · split
        · rfl
        · rw [if_neg (by omega), if_neg (by omega)]

end Go.Proofs.YtgifmpobokaejaaGreatDoor


/-
  Layer 21, walks: the reference's sums over nodes. Conditions: at most 70 nodes, of at most 2000 bytes each.
-/
namespace Go.Proofs.YtgifmpobokaejaaGreatDoor
open Go.RowKit

theorem nodeCell {w : World} {A : Option Addr} {ns : List Nd} (hA : At w 15 A (ns.map Nd.vals)) {k : Nat} (hk : k < ns.length) :
    ∃ b off, A = some ⟨b, off, none⟩ ∧ b < w.heap.size ∧ ∀ j u, ns[k].vals[j]? = some u → w.cell? ⟨b, off + k * 15 + j, none⟩ = some u := by
  obtain ⟨b, off, rfl, hb, hc⟩ := hA.getD (k := k) (by simpa using hk)
  exact ⟨b, off, rfl, hb, fun j u hu => hc j u (by simpa using hu)⟩

set_option maxRecDepth 20000 in
set_option maxHeartbeats 400000 in
theorem refUsed_any (A : Option Addr) (c : Nat) (ns : List Nd) (w : World) (hs : small ns) (hA : At w 15 A (ns.map Nd.vals)) :
    Calls Tryz.prog 116 #[.slice A ns.length c] w fun e w' => e = .returned (.int .i64 (used ns)) ∧ Below w.heap.size w w' := by
  have hl := hs.1
  go_enter Tryz.func116, Tryz.ntmps116
  go_wp2
  go_loop [3, 4] (fun n i => ∃ k : Nat, k ≤ ns.length ∧ i = .int .i64 k ∧ n = .int .i64 (used (ns.take k))) (fun _ i => ns.length - (intOf i).toNat)
  case atStart => exact ⟨0, Nat.zero_le _, rfl, rfl⟩
  case round =>
    obtain ⟨k, hk, rfl, rfl⟩ := hrel
    by_cases hlt : k < ns.length
    · obtain ⟨b, off, rfl, hb, hc⟩ := nodeCell hA hlt
      have hc10 := hc 10 (.string ns[k].data) rfl
      have hd : ns[k].data.size ≤ 2000 := hs.2 _ (List.getElem_mem hlt)
      have hu : used (ns.take k) ≤ 2000 * 70 := Nat.le_trans (used_le _ fun n hn => hs.2 n (List.mem_of_mem_take hn)) (Nat.mul_le_mul (Nat.le_refl _) (by simp; omega))
      have HS : Hid (used (ns.take (k + 1)) = used (ns.take k) + ns[k].data.size) := by rw [take_succ _ _ hlt]; exact used_snoc _ _
      clear hc hA hs
      go_wp2
      go_round
      case rel => exact ⟨k + 1, by omega, by go_num, by rw [HS.out]; go_num⟩
      case measure => simp [intOf]; omega
    · go_wp2
      go_ret
      exact ⟨ret_int (by rw [List.take_of_length_le (by omega)]), Below.refl _ _⟩

set_option maxRecDepth 20000 in
set_option maxHeartbeats 400000 in
theorem refOwned_any (A : Option Addr) (c : Nat) (ns : List Nd) (uid : Int) (w : World) (hs : small ns) (hA : At w 15 A (ns.map Nd.vals)) :
    Calls Tryz.prog 117 #[.slice A ns.length c, .int .i64 uid] w fun e w' => e = .returned (.int .i64 (owned ns uid)) ∧ Below w.heap.size w w' := by
  have hl := hs.1
  go_enter Tryz.func117, Tryz.ntmps117
  go_wp2
  go_loop [5, 6] (fun n i => ∃ k : Nat, k ≤ ns.length ∧ i = .int .i64 k ∧ n = .int .i64 (owned (ns.take k) uid)) (fun _ i => ns.length - (intOf i).toNat)
  case atStart => exact ⟨0, Nat.zero_le _, rfl, rfl⟩
  case round =>
    obtain ⟨k, hk, rfl, rfl⟩ := hrel
    by_cases hlt : k < ns.length
    · obtain ⟨b, off, rfl, hb, hc⟩ := nodeCell hA hlt
      have hc10 := hc 10 (.string ns[k].data) rfl
      have hc3 := hc 3 (.int .i64 ns[k].attr.uid) rfl
      have hd : ns[k].data.size ≤ 2000 := hs.2 _ (List.getElem_mem hlt)
      have hu : owned (ns.take k) uid ≤ 2000 * 70 := Nat.le_trans (used_filter_le _ _) (Nat.le_trans (used_le _ fun n hn => hs.2 n (List.mem_of_mem_take hn)) (Nat.mul_le_mul (Nat.le_refl _) (by simp; omega)))
      clear hc hA hs
      by_cases h : (ns[k].attr.uid == uid) = true
      · have HS2 := Lib.hid (owned_hit hlt h)
        go_wp2
        go_round
        case rel => exact ⟨k + 1, by omega, by go_num, by rw [HS2.out]; go_num⟩
        case measure => simp [intOf]; omega
      · rw [Bool.not_eq_true] at h
        have HS2 := Lib.hid (owned_miss hlt h)
        go_wp2
        go_round
        case rel => exact ⟨k + 1, by omega, by go_num, by rw [HS2.out]⟩
        case measure => simp [intOf]; omega
    · go_wp2
      go_ret
      exact ⟨ret_int (by rw [List.take_of_length_le (by omega)]), Below.refl _ _⟩

set_option maxRecDepth 20000 in
set_option maxHeartbeats 400000 in
theorem large_any (A : Option Addr) (c : Nat) (ns : List Nd) (w : World) (_hl : ns.length ≤ 9223372036854775807) (hd : ∀ n ∈ ns, n.data.size ≤ 9223372036854775807 ∧ n.en ≤ 9223372036854775807) (hA : At w 15 A (ns.map Nd.vals)) :
    Calls Tryz.prog 26 #[.slice A ns.length c] w fun e w' => e = .returned (.bool (large ns)) ∧ w = w' := by
  go_enter Tryz.func26, Tryz.ntmps26
  go_wp2
  go_loop [3] (fun i => ∃ k : Nat, k ≤ ns.length ∧ k ≤ 70 ∧ i = .int .i64 k ∧ (ns.take k).any bulky = false) (fun i => ns.length - (intOf i).toNat)
  case atStart => exact ⟨0, Nat.zero_le _, by omega, rfl, rfl⟩
  case round =>
    obtain ⟨k, hk, hk7, rfl, hn⟩ := hrel
    by_cases hlt : k < ns.length ∧ k < 70
    · obtain ⟨hlt, hlt7⟩ := hlt
      obtain ⟨b, off, rfl, hb, hc⟩ := nodeCell hA hlt
      have hc10 := hc 10 (.string ns[k].data) rfl
      have hc14 := hc 14 (.slice ns[k].ea ns[k].en ns[k].ec) rfl
      have hdk := (hd _ (List.getElem_mem hlt)).1
      have hek := (hd _ (List.getElem_mem hlt)).2
      by_cases hb : bulky ns[k] = true
      · have HL := Lib.hid (large_yes hlt hlt7 hb)
        simp only [bulky, Bool.or_eq_true, decide_eq_true_eq] at hb
        clear hc hA hd hn
        by_cases h1 : 2000 < ns[k].data.size
        all_goals
          go_wp2
          go_ret
          exact ⟨ret_bool HL.out.symm, rfl⟩
      · rw [Bool.not_eq_true] at hb
        have HS := Lib.hid (bulky_step hlt hn hb)
        simp only [bulky, Bool.or_eq_false_iff, decide_eq_false_iff_not] at hb
        obtain ⟨h1, h2⟩ := hb
        clear hc hA hd hn
        go_wp2
        go_round
        case rel => exact ⟨k + 1, by omega, by omega, by go_num, HS.out⟩
        case measure => simp [intOf]; omega
    · have HE := Lib.hid (large_end hk hk7 hn hlt)
      clear hn hA hd
      by_cases h1 : k < ns.length
      all_goals
        go_wp2
        go_ret
        exact ⟨ret_bool HE.out.symm, rfl⟩
end Go.Proofs.YtgifmpobokaejaaGreatDoor


/-
  A text that is ranged over, its iterator anywhere in memory: plain letters alone (below 128). No other condition.
-/
namespace Go.Proofs.YtgifmpobokaejaaGreatDoor
open Go.RowKit

/-- block b is the iterator of a text, at a place -/
def Itr (w : World) (b : Nat) (l : List UInt8) (pos : Nat) : Prop := w.heap[b]? = some (.stringIter (bs l) pos)
/-- an iterator is set to a place -/
def _root_.Go.World.setIter (w : World) (b : Nat) (l : List UInt8) (pos : Nat) : World := { w with heap := w.heap.setIfInBounds b (.stringIter (bs l) pos) }
section
variable {w w' : World} {b : Nat} {l : List UInt8} {pos : Nat}
theorem Itr.lt (h : Itr w b l pos) : b < w.heap.size := by
  rcases Nat.lt_or_ge b w.heap.size with hlt | hge
  · exact hlt
  · unfold Itr at h; rw [Array.getElem?_eq_none hge] at h; cases h
theorem Itr.new (w : World) (l : List UInt8) : Itr (w.iter (bs l) 0) w.heap.size l 0 := World.iter_heap w (bs l) 0
theorem Itr.below {B : Nat} (h : Itr w b l pos) (hb : Below B w w') (hg : b < B) : Itr w' b l pos := (hb.block b hg).trans h
theorem Itr.stays (h : Itr w b l pos) (hb : Below w.heap.size w w') : Itr w' b l pos := h.below hb h.lt
theorem Itr.touch {F : Nat → Prop} (h : Itr w b l pos) (hb : Touch F w w') (hn : ¬ F b) : Itr w' b l pos := (hb.block b h.lt hn).trans h
theorem Itr.set_ (h : Itr w b l pos) (p : Nat) : Itr (w.setIter b l p) b l p := by
  have hl := h.lt
  unfold Itr World.setIter
  simp [hl]
theorem heap_setIter (w : World) (b : Nat) (l : List UInt8) (p k : Nat) (h : k ≠ b) : (w.setIter b l p).heap[k]? = w.heap[k]? := by
  unfold World.setIter
  simp [Ne.symm h]
theorem Below.setIter {B : Nat} {a : World} (h : Below B a w) (hb : B ≤ b) (l : List UInt8) (p : Nat) : Below B a (w.setIter b l p) :=
  ⟨h.os, h.tape, h.output, by have := h.size; simpa [World.setIter] using this, fun k hk => (heap_setIter w b l p k (by omega)).trans (h.block k hk)⟩
theorem Blk.farIter {g : Nat} {T : TypeId} {cs : List Value} (h : Blk w g T cs) (hg : g ≠ b) (l : List UInt8) (p : Nat) : Blk (w.setIter b l p) g T cs := (heap_setIter w b l p g hg).trans h
theorem Touch.setIter {F : Nat → Prop} {a : World} (h : Touch F a w) (hb : F b ∨ a.heap.size ≤ b) (l : List UInt8) (p : Nat) : Touch F a (w.setIter b l p) :=
  ⟨h.os, h.tape, h.output, by have := h.size; simpa [World.setIter] using this, fun k hk hn => (heap_setIter w b l p k (fun e => by subst e; rcases hb with hb | hb; exact hn hb; omega)).trans (h.block k hk hn)⟩
variable {P : Program}
theorem run_next_itr (h : Itr w b l pos) (hp : pos < l.length) (ha : l[pos].toNat < 128) (ty : TypeId) :
    (Instr.next (.pointer (some ⟨b, 0, none⟩)) true ty).run P w = .ok (.tuple #[.bool true, .int .i64 pos, .int .i32 l[pos].toNat]) (w.setIter b l (pos + 1)) := by
  have hd := decode_ascii (bs l) pos hp ha
  have hs : pos < (bs l).size := hp
  unfold Itr at h
  simp only [Instr.next, getObj, setObj, Sem.run_bind, Sem.run, h, Result.andThen, hs, if_true, hd]
  simp [goInt, World.setIter, bs_get]
theorem run_next_itr_end (h : Itr w b l pos) (hp : ¬ pos < l.length) (ty : TypeId) :
    (Instr.next (.pointer (some ⟨b, 0, none⟩)) true ty).run P w = .ok (.tuple #[.bool false]) w := by
  have hs : ¬ pos < (bs l).size := hp
  unfold Itr at h
  simp [Instr.next, getObj, Sem.run, h, hs]
end
end Go.Proofs.YtgifmpobokaejaaGreatDoor


/-
  Operations under other names: a region that draws its order (go_region_held3) then runs them in their place, not first. No condition.
-/
namespace Go.Proofs.YtgifmpobokaejaaGreatDoor
def laterLd (T : TypeId) (x : Operand) : Op := Op.load T x
theorem laterLd_eq (T : TypeId) (x : Operand) : Op.load T x = laterLd T x := rfl
def laterCv (S T : TypeId) (x : Operand) : Op := Op.convert S T x
theorem laterCv_eq (S T : TypeId) (x : Operand) : Op.convert S T x = laterCv S T x := rfl
end Go.Proofs.YtgifmpobokaejaaGreatDoor

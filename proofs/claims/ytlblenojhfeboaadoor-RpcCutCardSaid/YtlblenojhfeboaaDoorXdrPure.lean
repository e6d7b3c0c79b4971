/-
  Layer 1 in plain words: numbers and texts in fields of four bytes, written and read. No condition.
-/
import Derived.Test.YtlblenojhfeboaaDoorMem
namespace Go.Proofs.YtlblenojhfeboaaDoor
open Go.RowKit

/-- a text of these bytes -/
abbrev bs (l : List UInt8) : ByteArray := ⟨l.toArray⟩
theorem bs_list (s : ByteArray) : bs s.data.toList = s := by cases s; simp [bs]
theorem bs_size (l : List UInt8) : (bs l).size = l.length := rfl
theorem bs_inj {a b : List UInt8} (h : bs a = bs b) : a = b := by
  have : (bs a).data.toList = (bs b).data.toList := by rw [h]
  simpa using this
theorem bs_append (a b : List UInt8) : bs a ++ bs b = bs (a ++ b) := ByteArray.mk_append_mk a b
theorem bs_get (s : List UInt8) (i : Nat) (h : i < (bs s).size) : (bs s)[i]'h = s[i]'h := rfl
theorem bs_take (s : List UInt8) (n : Nat) : (bs s).extract 0 n = bs (s.take n) := by
  apply ByteArray.ext
  simp [List.extract]
theorem bs_drop (s : List UInt8) (n : Nat) : (bs s).extract n s.length = bs (s.drop n) := by
  apply ByteArray.ext
  simp [List.extract]
  rw [List.take_of_length_le (by simp)]
theorem ofNat_mod (q : Nat) : UInt8.ofNat (q % 256) = UInt8.ofNat q := by apply UInt8.toNat_inj.1; simp
def u8 (b : UInt8) : Value := .int .u8 b.toNat
theorem u8_one (l : List UInt8) : ∀ u ∈ l.map u8, u.oneCell' = true := by
  intro u hu; obtain ⟨b, _, rfl⟩ := List.mem_map.1 hu; rfl
theorem u8_wrap (n : Nat) : IntKind.u8.wrap (n : Int) = ((UInt8.ofNat n).toNat : Int) := by
  rw [IntKind.wrap_u8]; simp
theorem shr_byte (n m : Nat) (hm : 1 ≤ m) (hm8 : m ≤ 8) : Op.shift .shr .i64 (n : Int) .i64 (IntKind.i64.wrap (8 * ((m : Int) - 1))) = pure (.int .i64 ((n / 256 ^ (m - 1) : Nat) : Int)) := by
  rw [IntWalk.i64_in _ (by omega), shift_shr .i64 .i64 _ _ (by omega) (by show 8 * ((m : Int) - 1) ≤ 64; omega)]
  have e : (8 * ((m : Int) - 1)).toNat = 8 * (m - 1) := by omega
  have e2 : ((2 : Int) ^ (8 * (m - 1))) = ((256 ^ (m - 1) : Nat) : Int) := by
    rw [show (256 : Nat) = 2 ^ 8 by rfl, ← Nat.pow_mul, Int.natCast_pow]; rfl
  rw [e, e2]
  rfl

/-- a number's bytes, the highest first -/
def num (n : Nat) : Nat → List UInt8
  | 0 => []
  | k + 1 => num (n / 256) k ++ [UInt8.ofNat n]
theorem num_len (n k : Nat) : (num n k).length = k := by
  induction k generalizing n with
  | zero => rfl
  | succ k ih => simp [num, ih]
/-- the same, from the highest down -/
theorem num_cons (n k : Nat) : num n (k + 1) = UInt8.ofNat (n / 256 ^ k) :: num n k := by
  induction k generalizing n with
  | zero => simp [num]
  | succ k ih =>
    rw [num, ih (n / 256)]
    simp only [List.cons_append]
    rw [Nat.div_div_eq_div_mul, ← Nat.pow_succ']
    rfl
def padn (n : Nat) : Nat := (4 - n % 4) % 4
theorem padn_lt (n : Nat) : padn n < 4 := Nat.mod_lt _ (by omega)
def filled (l : List UInt8) : List UInt8 := l ++ List.replicate (padn l.length) 0
theorem filled_len (l : List UInt8) : (filled l).length = l.length + padn l.length := by simp [filled]
def opq (l : List UInt8) : List UInt8 := num l.length 4 ++ filled l
def truth (b : Bool) : List UInt8 := num (if b then 1 else 0) 4
def optB (b : Bool) (n : Int) : List UInt8 := truth b ++ (if b then num n.toNat 8 else [])

/-- a number out of its bytes -/
def beVal : List UInt8 → Nat
  | [] => 0
  | b :: l => b.toNat * 256 ^ l.length + beVal l
theorem beVal_snoc (l : List UInt8) (b : UInt8) : beVal (l ++ [b]) = beVal l * 256 + b.toNat := by
  induction l with
  | nil => simp [beVal]
  | cons c l ih =>
    simp only [List.cons_append, beVal, ih, List.length_append, List.length_cons, List.length_nil, Nat.zero_add, Nat.pow_succ, Nat.add_mul]
    rw [Nat.mul_assoc]; omega
theorem beVal_lt (l : List UInt8) : beVal l < 256 ^ l.length := by
  induction l with
  | nil => simp [beVal]
  | cons b l ih =>
    simp only [beVal, List.length_cons, Nat.pow_succ]
    have : b.toNat ≤ 255 := by have := b.toNat_lt; omega
    have h2 := Nat.mul_le_mul_right (256 ^ l.length) this
    omega
theorem beVal_num (n k : Nat) (h : n < 256 ^ k) : beVal (num n k) = n := by
  induction k generalizing n with
  | zero => simp [num, beVal] at *; omega
  | succ k ih =>
    rw [num, beVal_snoc, ih (n / 256) (by rw [Nat.pow_succ] at h; omega)]
    simp; omega
theorem num_beVal (l : List UInt8) : num (beVal l) l.length = l := by
  have key : ∀ k (l : List UInt8), l.length = k → num (beVal l) k = l := by
    intro k
    induction k with
    | zero => intro l h; rw [List.eq_nil_of_length_eq_zero h]; rfl
    | succ k ih =>
      intro l h
      rw [← List.dropLast_concat_getLast (l := l) (by intro e; rw [e] at h; cases h)]
      generalize hb : l.getLast _ = b
      have hl : l.dropLast.length = k := by simp [h]
      have hb' : b.toNat < 256 := b.toNat_lt
      rw [beVal_snoc, num, show (beVal l.dropLast * 256 + b.toNat) / 256 = beVal l.dropLast by omega, ih _ hl]
      congr 2
      apply UInt8.toNat_inj.1
      simp
  exact key _ l rfl

/-- a reader: what is left, and the first error -/
structure Rs where
  s : List UInt8
  e : Int
  deriving DecidableEq
def Rs.fail (e : Int) : Rs := ⟨[], e⟩
def rNum (k : Nat) (r : Rs) : Nat × Rs :=
  if r.e ≠ 0 then (0, r) else if r.s.length < k then (0, Rs.fail 10) else (beVal (r.s.take k), ⟨r.s.drop k, 0⟩)
def rU32 (r : Rs) : Nat × Rs := rNum 4 r
def rU64 (r : Rs) : Nat × Rs := if 9223372036854775808 ≤ (rNum 8 r).1 then (0, Rs.fail 3) else rNum 8 r
def rBool (r : Rs) : Bool × Rs := if 1 < (rU32 r).1 then (false, Rs.fail 13) else ((rU32 r).1 == 1, (rU32 r).2)
def rOpt (r : Rs) : (Bool × Nat) × Rs :=
  if (rBool r).1 then (if (rU64 (rBool r).2).2.e ≠ 0 then ((false, 0), (rU64 (rBool r).2).2) else ((true, (rU64 (rBool r).2).1), (rU64 (rBool r).2).2)) else ((false, 0), (rBool r).2)
/-- a text of n bytes, and what fills it up -/
def rPadded (n : Nat) (r : Rs) : List UInt8 × Rs :=
  if r.e ≠ 0 then ([], r)
  else if r.s.length < n then ([], Rs.fail 10)
  else if (r.s.drop n).length < padn n then ([], Rs.fail 10)
  else if ((r.s.drop n).take (padn n)).all (· == 0) then (r.s.take n, ⟨(r.s.drop n).drop (padn n), 0⟩)
  else ([], Rs.fail 11)
def rFixed (n : Int) (r : Rs) : List UInt8 × Rs := if r.e ≠ 0 then ([], r) else if n < 0 then ([], Rs.fail 2) else rPadded n.toNat r
def rOpaque (most : Int) (r : Rs) : List UInt8 × Rs :=
  if (rU32 r).2.e ≠ 0 then ([], (rU32 r).2) else if most < ((rU32 r).1 : Int) then ([], Rs.fail 4) else rPadded (rU32 r).1 (rU32 r).2
def rLeft (r : Rs) : Nat := if r.e ≠ 0 then 0 else r.s.length
def rDone (r : Rs) : Int := if r.e ≠ 0 then r.e else if 0 < r.s.length then 12 else 0

end Go.Proofs.YtlblenojhfeboaaDoor

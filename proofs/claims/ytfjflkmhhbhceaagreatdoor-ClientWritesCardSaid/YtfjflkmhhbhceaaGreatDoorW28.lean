/-
  Layer 3, plain laws: numbers' digits and handles' texts. No condition.
-/
import Derived.Test.YtfjflkmhhbhceaaGreatDoorW06
import Derived.Lib.ItoaNum
import Derived.Lib.IndexMore
import Derived.Lib.AtoiAllCases
namespace Go.Proofs.YtfjflkmhhbhceaaGreatDoor
open Go.RowKit

/-- the value of digits -/
def decVal (l : List UInt8) : Nat := l.foldl (fun n c => 10 * n + (c.toNat - 48)) 0
theorem decVal_snoc (l : List UInt8) (c : UInt8) : decVal (l ++ [c]) = 10 * decVal l + (c.toNat - 48) := by simp [decVal]
theorem dig_toNat {k : Nat} (h : k < 10) : (UInt8.ofNat (48 + k)).toNat = 48 + k := by rw [UInt8.toNat_ofNat', Nat.mod_eq_of_lt (by omega)]
theorem decDigits_snoc {n : Nat} (h : ¬ n < 10) : Lib.decDigits n = Lib.decDigits (n / 10) ++ [UInt8.ofNat (48 + n % 10)] := by rw [Lib.decDigits.eq_def n, dif_neg h]
theorem decVal_dec (n : Nat) : decVal (Lib.decDigits n) = n := by
  induction n using Nat.strongRecOn with
  | ind n ih =>
    by_cases h : n < 10
    · rw [Lib.decDigits_one h]
      simp only [decVal, List.foldl_cons, List.foldl_nil, dig_toNat h]
      omega
    · rw [decDigits_snoc h, decVal_snoc, ih (n / 10) (by omega), dig_toNat (by omega)]
      omega
/-- a machine number whose value is the digits', where they are a number's -/
def NumP (l : List UInt8) (v : Int) : Prop := (-1 ≤ v ∧ v ≤ 9223372036854775807) ∧ ∀ m : Nat, m ≤ 9223372036854775807 → l = Lib.decDigits m → v = (m : Int)
theorem NumP.ok {l : List UInt8} {n : Nat} (h : decVal l = n) (hn : n ≤ 9223372036854775807) : NumP l (n : Int) := ⟨by omega, fun m hm e => by rw [← h, e, decVal_dec]⟩
end Go.Proofs.YtfjflkmhhbhceaaGreatDoor

/-
  Layer 22 in plain words: the number in a handle's text. No condition.
-/
namespace Go.Proofs.YtfjflkmhhbhceaaGreatDoor
open Go.RowKit

end Go.Proofs.YtfjflkmhhbhceaaGreatDoor

/-
  Layer 3, plain laws: handles' bytes, and their parts. No condition.
-/
import Derived.Test.YtlblenojhfeboaaDoorApiWire
import Derived.Test.YtlblenojhfeboaaDoorNamePure
namespace Go.Proofs.YtlblenojhfeboaaDoor
open Go.RowKit

/-- are there such parts -/
def Parts.mayF (p : Parts) : Bool := decide ((p.kind = 1 ∨ p.kind = 2) ∧ (0 ≤ p.a ∧ p.a ≤ 4294967295) ∧ 0 ≤ p.b)
theorem Parts.mayF_iff (p : Parts) : p.mayF = true ↔ (p.kind = 1 ∨ p.kind = 2) ∧ (0 ≤ p.a ∧ p.a ≤ 4294967295) ∧ 0 ≤ p.b := by unfold Parts.mayF; exact decide_eq_true_iff
/-- their bytes -/
def fhB (p : Parts) : List UInt8 := num (p.kind.toNat * 16777216) 4 ++ num p.a.toNat 4 ++ num p.b.toNat 8
theorem fhB_len (p : Parts) : (fhB p).length = 16 := by simp [fhB, num_len]
def fhMake (p : Parts) : List UInt8 := if p.mayF then fhB p else []
theorem fhMake_len (p : Parts) : (fhMake p).length ≤ 16 := by unfold fhMake; split <;> simp [fhB_len]
def parts0 : Parts := ⟨0, 0, 0⟩
/-- is it a handle -/
def fhGood (s : List UInt8) : Bool := decide (s.length = 16 ∧ (at0 s 0 = 1 ∨ at0 s 0 = 2) ∧ at0 s 1 = 0 ∧ at0 s 2 = 0 ∧ at0 s 3 = 0 ∧ at0 s 8 < 128)
theorem fhGood_iff (s : List UInt8) : fhGood s = true ↔ s.length = 16 ∧ (at0 s 0 = 1 ∨ at0 s 0 = 2) ∧ at0 s 1 = 0 ∧ at0 s 2 = 0 ∧ at0 s 3 = 0 ∧ at0 s 8 < 128 := by unfold fhGood; exact decide_eq_true_iff
/-- the parts of a handle -/
def fhP (s : List UInt8) : Parts := ⟨(at0 s 0 : Int), (beVal ((s.drop 4).take 4) : Int), (beVal (s.drop 8) : Int)⟩
def fhParse (s : List UInt8) : Parts × Int := if fhGood s then (fhP s, 0) else (parts0, 14)

theorem len16 {s : List UInt8} (h : s.length = 16) : ∃ a b c d l m, s = a :: b :: c :: d :: (l ++ m) ∧ l.length = 4 ∧ m.length = 8 := by
  match s, h with
  | a :: b :: c :: d :: r, h =>
    refine ⟨a, b, c, d, r.take 4, r.drop 4, by rw [List.take_append_drop], ?_, ?_⟩
    · simp at h; simp; omega
    · simp at h; simp; omega
theorem beVal4 (a b c d : UInt8) : beVal [a, b, c, d] = a.toNat * 16777216 + b.toNat * 65536 + c.toNat * 256 + d.toNat := by
  simp [beVal]; omega
theorem num4_kind (k : Nat) (h : k < 256) : num (k * 16777216) 4 = [UInt8.ofNat k, 0, 0, 0] := by
  simp only [num, List.nil_append, List.cons_append]
  rw [show k * 16777216 / 256 / 256 / 256 = k by omega]
  congr 1
  congr 1
  · apply UInt8.toNat_inj.1; simp <;> omega
  · congr 1
    · apply UInt8.toNat_inj.1; simp <;> omega
    · congr 1
      apply UInt8.toNat_inj.1; simp <;> omega
theorem beVal8_lt {m : List UInt8} (h : m.length = 8) : beVal m < 9223372036854775808 ↔ at0 m 0 < 128 := by
  match m, h with
  | b :: l, h =>
    have hl := beVal_lt l
    have : l.length = 7 := by simpa using h
    rw [this] at hl
    simp only [beVal, this]
    show _ ↔ b.toNat < 128
    omega
theorem at0_drop8 {a b c d : UInt8} {l m : List UInt8} (hl : l.length = 4) (k : Nat) : at0 (a :: b :: c :: d :: (l ++ m)) (8 + k) = at0 m k := by
  unfold at0
  have : (a :: b :: c :: d :: (l ++ m))[8 + k]? = m[k]? := by
    rw [show (a :: b :: c :: d :: (l ++ m)) = (a :: b :: c :: d :: l) ++ m by simp, List.getElem?_append_right (by simp; omega)]
    congr 1
    simp
    omega
  rw [this]
/-- a handle's parts may be, and are its bytes -/
theorem good_parts {s : List UInt8} (h : fhGood s = true) : (fhP s).mayF = true ∧ fhB (fhP s) = s ∧ (fhP s).b ≤ 9223372036854775807 := by
  obtain ⟨hl, hk, h1, h2, h3, h8⟩ := (fhGood_iff s).1 h
  obtain ⟨a, b, c, d, l, m, rfl, hl4, hm8⟩ := len16 hl
  have e0 : at0 (a :: b :: c :: d :: (l ++ m)) 0 = a.toNat := rfl
  have e1 : b = 0 := UInt8.toNat_inj.1 h1
  have e2 : c = 0 := UInt8.toNat_inj.1 h2
  have e3 : d = 0 := UInt8.toNat_inj.1 h3
  have e8 := at0_drop8 (a := a) (b := b) (c := c) (d := d) (m := m) hl4 0
  have d4 : ((a :: b :: c :: d :: (l ++ m)).drop 4).take 4 = l := by simp [List.take_append, hl4]
  have d8 : (a :: b :: c :: d :: (l ++ m)).drop 8 = m := by simp [List.drop_append, hl4]
  have hlv := beVal_lt l
  rw [hl4] at hlv
  have hmv : beVal m < 9223372036854775808 := (beVal8_lt hm8).2 (by rw [← e8]; exact h8)
  have hP : fhP (a :: b :: c :: d :: (l ++ m)) = ⟨(a.toNat : Int), (beVal l : Int), (beVal m : Int)⟩ := by unfold fhP; rw [d4, d8, e0]
  rw [e0] at hk
  rw [hP]
  refine ⟨(Parts.mayF_iff _).2 ⟨by simp only; omega, by simp only; omega, by simp only; omega⟩, ?_, by simp only; omega⟩
  unfold fhB
  simp only [Int.toNat_natCast]
  rw [num4_kind _ (UInt8.toNat_lt a), UInt8.ofNat_toNat, e1, e2, e3]
  have n1 := num_beVal l
  have n2 := num_beVal m
  rw [hl4] at n1
  rw [hm8] at n2
  rw [n1, n2]
  simp
/-- parts that may be come back from their bytes -/
theorem parts_good {p : Parts} (h : p.mayF = true) (hb : p.b ≤ 9223372036854775807) : fhGood (fhB p) = true ∧ fhP (fhB p) = p := by
  obtain ⟨hk, ⟨ha0, ha1⟩, hb0⟩ := (Parts.mayF_iff p).1 h
  obtain ⟨k, a, b⟩ := p
  simp only at hk ha0 ha1 hb0 hb
  obtain ⟨a, rfl⟩ := Int.eq_ofNat_of_zero_le ha0
  obtain ⟨b, rfl⟩ := Int.eq_ofNat_of_zero_le hb0
  obtain ⟨k, rfl⟩ := Int.eq_ofNat_of_zero_le (show 0 ≤ k by omega)
  have hk256 : k < 256 := by omega
  have hB : fhB ⟨(k : Int), (a : Int), (b : Int)⟩ = UInt8.ofNat k :: 0 :: 0 :: 0 :: (num a 4 ++ num b 8) := by
    unfold fhB
    simp only [Int.toNat_natCast]
    rw [num4_kind _ hk256]
    simp
  have hkn : (UInt8.ofNat k).toNat = k := by rw [UInt8.toNat_ofNat', Nat.mod_eq_of_lt hk256]
  have n4 := num_len a 4
  have n8 := num_len b 8
  have va := beVal_num a 4 (by omega)
  have vb := beVal_num b 8 (by omega)
  generalize num a 4 = l at *
  generalize num b 8 = m at *
  rw [hB]
  have e8 := at0_drop8 (a := UInt8.ofNat k) (b := 0) (c := 0) (d := 0) (m := m) n4 0
  have d4 : ((UInt8.ofNat k :: 0 :: 0 :: 0 :: (l ++ m)).drop 4).take 4 = l := by simp [List.take_append, n4]
  have d8 : (UInt8.ofNat k :: 0 :: 0 :: 0 :: (l ++ m)).drop 8 = m := by simp [List.drop_append, n4]
  have e0 : at0 (UInt8.ofNat k :: 0 :: 0 :: 0 :: (l ++ m)) 0 = k := hkn
  refine ⟨(fhGood_iff _).2 ⟨by simp; omega, by rw [e0]; omega, rfl, rfl, rfl, ?_⟩, ?_⟩
  · rw [show (8 : Nat) = 8 + 0 by rfl, e8]
    exact (beVal8_lt n8).1 (by omega)
  · unfold fhP
    rw [d4, d8, e0, va, vb]
theorem parse_make {p : Parts} (h : p.mayF = true) (hb : p.b ≤ 9223372036854775807) : fhParse (fhB p) = (p, 0) := by
  obtain ⟨h1, h2⟩ := parts_good h hb
  unfold fhParse
  rw [if_pos h1, h2]
theorem parse_shape (s : List UInt8) : (fhGood s = true ∧ fhParse s = (fhP s, 0)) ∨ (fhGood s = false ∧ fhParse s = (parts0, 14)) := by
  unfold fhParse
  cases h : fhGood s with
  | true => exact .inl ⟨rfl, rfl⟩
  | false => exact .inr ⟨rfl, rfl⟩
theorem may_ne0 {p : Parts} (h : p.mayF = true) : p ≠ parts0 := fun e => by
  subst e
  exact absurd h (by decide)
/-- as the program reads it -/
theorem good_prog {s : List UInt8} (hs : s.length = 16) : fhGood s = true ↔ beVal (s.drop 8) < 9223372036854775808 ∧ Parts.mayF ⟨((beVal (s.take 4) / 16777216 : Nat) : Int), (beVal ((s.drop 4).take 4) : Int), (beVal (s.drop 8) : Int)⟩ = true ∧ fhB ⟨((beVal (s.take 4) / 16777216 : Nat) : Int), (beVal ((s.drop 4).take 4) : Int), (beVal (s.drop 8) : Int)⟩ = s := by
  obtain ⟨a, b, c, d, l, m, rfl, hl4, hm8⟩ := len16 hs
  have t4 : (a :: b :: c :: d :: (l ++ m)).take 4 = [a, b, c, d] := rfl
  have d4 : ((a :: b :: c :: d :: (l ++ m)).drop 4).take 4 = l := by simp [List.take_append, hl4]
  have d8 : (a :: b :: c :: d :: (l ++ m)).drop 8 = m := by simp [List.drop_append, hl4]
  have hA := UInt8.toNat_lt a
  have hB := UInt8.toNat_lt b
  have hC := UInt8.toNat_lt c
  have hD := UInt8.toNat_lt d
  have hk : beVal [a, b, c, d] / 16777216 = a.toNat := by rw [beVal4]; omega
  have e8 := at0_drop8 (a := a) (b := b) (c := c) (d := d) (m := m) hl4 0
  have hlv := beVal_lt l
  rw [hl4] at hlv
  rw [t4, d4, d8, hk, fhGood_iff, Parts.mayF_iff]
  have hF : fhB ⟨(a.toNat : Int), (beVal l : Int), (beVal m : Int)⟩ = a :: 0 :: 0 :: 0 :: (l ++ m) := by
    unfold fhB
    simp only [Int.toNat_natCast]
    rw [num4_kind _ hA, UInt8.ofNat_toNat]
    have n1 := num_beVal l
    have n2 := num_beVal m
    rw [hl4] at n1
    rw [hm8] at n2
    rw [n1, n2]
    simp
  rw [hF]
  constructor
  · rintro ⟨_, k, h1, h2, h3, h8⟩
    have e1 : b = 0 := UInt8.toNat_inj.1 h1
    have e2 : c = 0 := UInt8.toNat_inj.1 h2
    have e3 : d = 0 := UInt8.toNat_inj.1 h3
    have hk2 : a.toNat = 1 ∨ a.toNat = 2 := k
    refine ⟨(beVal8_lt hm8).2 (by rw [← e8]; exact h8), ⟨by simp only; omega, by simp only; omega, by simp only; omega⟩, by rw [e1, e2, e3]⟩
  · rintro ⟨hm, ⟨k, _, _⟩, e⟩
    simp only [List.cons.injEq, true_and, and_true] at e
    obtain ⟨rfl, rfl, rfl⟩ := e
    have hk2 : a.toNat = 1 ∨ a.toNat = 2 := by simp only at k; omega
    refine ⟨hs, hk2, rfl, rfl, rfl, ?_⟩
    rw [show (8 : Nat) = 8 + 0 by rfl, e8]
    exact (beVal8_lt hm8).1 hm
end Go.Proofs.YtlblenojhfeboaaDoor

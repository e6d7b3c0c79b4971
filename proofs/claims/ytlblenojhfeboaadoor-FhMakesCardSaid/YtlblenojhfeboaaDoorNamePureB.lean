/-
  Layer 4, plain laws: how a text is shown, by the program and by the document, and read. No condition.
-/
import Derived.Test.YtlblenojhfeboaaDoorNamePure
namespace Go.Proofs.YtlblenojhfeboaaDoor
open Go.RowKit

/-- is a rune shown as it is -/
def plainR (v : Nat) : Bool := decide ((97 ≤ v ∧ v ≤ 122 ∨ 65 ≤ v ∧ v ≤ 90 ∨ 48 ≤ v ∧ v ≤ 57) ∨ (v = 45 ∨ v = 95 ∨ v = 46) ∨ 161 ≤ v ∧ v ≠ 65533)
def digL : List UInt8 := [48, 49, 50, 51, 52, 53, 54, 55, 56, 57, 97, 98, 99, 100, 101, 102]
def dig (n : Nat) : UInt8 := digL.getD n 0
/-- a byte, shown -/
def hexL (b : UInt8) : List UInt8 := [37, dig (b.toNat / 16), dig (b.toNat % 16)]
/-- the first rune of a text, shown -/
def piece (s : List UInt8) : List UInt8 := if plainR (dec s).1 then s.take (dec s).2 else (s.take (dec s).2).flatMap hexL
def showF : Nat → List UInt8 → List UInt8
  | 0, _ => []
  | f + 1, s => if s = [] then [] else piece s ++ showF f (s.drop (dec s).2)
theorem showF_stable : ∀ (f g : Nat) (s : List UInt8), s.length ≤ f → s.length ≤ g → showF f s = showF g s
  | 0, 0, s, _, _ => rfl
  | 0, g + 1, s, hf, _ => by
    have : s = [] := List.eq_nil_of_length_eq_zero (by omega)
    subst this; rfl
  | f + 1, 0, s, _, hg => by
    have : s = [] := List.eq_nil_of_length_eq_zero (by omega)
    subst this; rfl
  | f + 1, g + 1, s, hf, hg => by
    have hp := dec_pos s
    unfold showF
    by_cases hs : s = []
    · rw [if_pos hs, if_pos hs]
    · have : 0 < s.length := List.length_pos_iff.2 hs
      rw [if_neg hs, if_neg hs, showF_stable f g _ (by simp; omega) (by simp; omega)]
/-- a text that is not empty, shown by the program -/
def showL (s : List UInt8) : List UInt8 := showF s.length s
theorem showL_nil : showL [] = [] := rfl
theorem showL_step {s : List UInt8} (hs : s ≠ []) : showL s = piece s ++ showL (s.drop (dec s).2) := by
  have hp := dec_pos s
  have : 0 < s.length := List.length_pos_iff.2 hs
  unfold showL
  obtain ⟨f, hf⟩ : ∃ f, s.length = f + 1 := ⟨s.length - 1, by omega⟩
  rw [hf, showF, if_neg hs, showF_stable f (s.drop (dec s).2).length _ (by simp; omega) (Nat.le_refl _)]
theorem piece_len (s : List UInt8) : (piece s).length ≤ 3 * (dec s).2 := by
  have h : ∀ l : List UInt8, (l.flatMap hexL).length = 3 * l.length := fun l => by
    induction l with
    | nil => rfl
    | cons a l ih => rw [List.flatMap_cons, List.length_append, ih]; simp [hexL]; omega
  unfold piece
  split
  · simp; omega
  · rw [h]; simp; omega
theorem showF_len : ∀ (f : Nat) (s : List UInt8), s.length ≤ f → (showF f s).length ≤ 3 * s.length
  | 0, s, h => by simp [showF]
  | f + 1, s, h => by
    unfold showF
    by_cases hs : s = []
    · rw [if_pos hs]; simp
    · rw [if_neg hs, List.length_append]
      have h1 := piece_len s
      have h2 := dec_le hs
      have h3 := dec_pos s
      have h4 := showF_len f (s.drop (dec s).2) (by simp; omega)
      rw [List.length_drop] at h4
      omega
theorem showL_len (s : List UInt8) : (showL s).length ≤ 3 * s.length := showF_len _ _ (Nat.le_refl _)

/-- the same, by the document: a rune that is plain, or one byte -/
def stepR (s : List UInt8) : List UInt8 × Nat := if 0 < (rsz s).1 ∧ plainR (rsz s).2 = true then (s.take (rsz s).1, (rsz s).1) else ((s.take 1).flatMap hexL, 1)
theorem stepR_pos (s : List UInt8) : 1 ≤ (stepR s).2 := by
  unfold stepR
  split
  · simp only; omega
  · simp
theorem stepR_le {s : List UInt8} (hs : s ≠ []) : (stepR s).2 ≤ s.length := by
  have : 0 < s.length := List.length_pos_iff.2 hs
  unfold stepR
  split
  · rename_i h
    have h2 := dec_le hs
    rcases rsz_dec s with ⟨h1, _⟩ | ⟨_, h1⟩
    · rw [h1] at h; omega
    · rw [h1] at h2; exact h2
  · simp only; omega
def showRF : Nat → List UInt8 → List UInt8
  | 0, _ => []
  | f + 1, s => if s = [] then [] else (stepR s).1 ++ showRF f (s.drop (stepR s).2)
theorem showRF_stable : ∀ (f g : Nat) (s : List UInt8), s.length ≤ f → s.length ≤ g → showRF f s = showRF g s
  | 0, 0, s, _, _ => rfl
  | 0, g + 1, s, hf, _ => by
    have : s = [] := List.eq_nil_of_length_eq_zero (by omega)
    subst this; rfl
  | f + 1, 0, s, _, hg => by
    have : s = [] := List.eq_nil_of_length_eq_zero (by omega)
    subst this; rfl
  | f + 1, g + 1, s, hf, hg => by
    have hp := stepR_pos s
    unfold showRF
    by_cases hs : s = []
    · rw [if_pos hs, if_pos hs]
    · have : 0 < s.length := List.length_pos_iff.2 hs
      rw [if_neg hs, if_neg hs, showRF_stable f g _ (by simp; omega) (by simp; omega)]
def showR (s : List UInt8) : List UInt8 := showRF s.length s
theorem showR_step {s : List UInt8} (hs : s ≠ []) : showR s = (stepR s).1 ++ showR (s.drop (stepR s).2) := by
  have hp := stepR_pos s
  have : 0 < s.length := List.length_pos_iff.2 hs
  unfold showR
  obtain ⟨f, hf⟩ : ∃ f, s.length = f + 1 := ⟨s.length - 1, by omega⟩
  rw [hf, showRF, if_neg hs, showRF_stable f (s.drop (stepR s).2).length _ (by simp; omega) (Nat.le_refl _)]
theorem showR_hexes : ∀ (n : Nat) (s : List UInt8), n ≤ s.length → (∀ k, k < n → 128 ≤ at0 s k ∧ at0 s k ≤ 191) → showR s = (s.take n).flatMap hexL ++ showR (s.drop n)
  | 0, s, _, _ => by simp
  | n + 1, [], h, _ => by simp at h
  | n + 1, c :: s, h, hc => by
    have h0 := rsz_cont (hc 0 (by omega))
    have e : stepR (c :: s) = (hexL c, 1) := by unfold stepR; rw [h0]; simp
    rw [showR_step (by simp), e]
    have ih := showR_hexes n s (by simpa using h) (fun k hk => hc (k + 1) (by omega))
    simp only [List.drop_succ_cons, List.drop_zero, List.take_succ_cons, List.flatMap_cons, List.append_assoc]
    rw [ih]
theorem show_same : ∀ (n : Nat) (s : List UInt8), s.length ≤ n → showL s = showR s
  | 0, s, h => by
    have : s = [] := List.eq_nil_of_length_eq_zero (by omega)
    subst this; rfl
  | n + 1, s, h => by
    by_cases hs : s = []
    · subst hs; rfl
    have hpos : 0 < s.length := List.length_pos_iff.2 hs
    have hw := dec_pos s
    have hle := dec_le hs
    have ih := show_same n (s.drop (dec s).2) (by simp; omega)
    rw [showL_step hs, ih]
    by_cases hp : plainR (dec s).1 = true
    · -- a plain rune is no error: the document sees it too
      have hstep : stepR s = (s.take (dec s).2, (dec s).2) := by
        rcases rsz_dec s with ⟨_, h1⟩ | ⟨h0, h1⟩
        · rw [h1] at hp; exact absurd hp (by decide)
        · unfold stepR
          rw [h1] at hp ⊢
          rw [if_pos ⟨h0, hp⟩]
      rw [showR_step hs, hstep]
      unfold piece
      rw [if_pos hp]
    · have hstep : stepR s = ((s.take 1).flatMap hexL, 1) := by
        unfold stepR
        rw [if_neg]
        rintro ⟨h0, h1⟩
        rcases rsz_dec s with ⟨h2, _⟩ | ⟨_, h2⟩
        · rw [h2] at h0; exact absurd h0 (by decide)
        · rw [h2] at hp; exact hp h1
      rw [showR_step hs, hstep]
      unfold piece
      rw [if_neg hp]
      have hx := showR_hexes ((dec s).2 - 1) (s.drop 1) (by simp; omega) (fun k hk => by
        have := dec_conts (s := s) (k := 1 + k) (by omega) (by omega)
        simpa [at0, List.getElem?_drop, Nat.add_comm] using this)
      rw [hx, List.drop_drop, show 1 + ((dec s).2 - 1) = (dec s).2 by omega, ← List.append_assoc, ← List.flatMap_append]
      congr 2
      rw [← List.take_add, show 1 + ((dec s).2 - 1) = (dec s).2 by omega]
/-- any text, shown -/
def showN (s : List UInt8) : List UInt8 := if s = [] then [37] else showL s

/-- a digit's value; below nought: it is none -/
def valD (c : UInt8) : Int := if digL.findIdx (· == c) < digL.length then (digL.findIdx (· == c) : Nat) else -1
/-- the text that is shown so -/
def unhex : List UInt8 → Option (List UInt8)
  | [] => some []
  | c :: r => if c ≠ 37 then (unhex r).map (c :: ·) else
    match r with
    | a :: b :: r' => if valD a < 0 ∨ valD b < 0 then none else (unhex r').map (UInt8.ofNat ((valD a).toNat * 16 + (valD b).toNat) :: ·)
    | _ => none
theorem unhex_skip {c : UInt8} (h : c ≠ 37) (r : List UInt8) : unhex (c :: r) = (unhex r).map (c :: ·) := by
  conv => lhs; unfold unhex
  exact if_pos h
theorem unhex_hex (a b : UInt8) (r : List UInt8) : unhex (37 :: a :: b :: r) = if valD a < 0 ∨ valD b < 0 then none else (unhex r).map (UInt8.ofNat ((valD a).toNat * 16 + (valD b).toNat) :: ·) := by
  rw [unhex, if_neg (by decide)]
theorem unhex_free : ∀ (p r : List UInt8), (∀ c ∈ p, c ≠ 37) → unhex (p ++ r) = (unhex r).map (p ++ ·)
  | [], r, _ => by simp
  | c :: p, r, h => by
    rw [List.cons_append, unhex_skip (h c (by simp)), unhex_free p r (fun x hx => h x (by simp [hx])), Option.map_map]
    rfl
theorem valD_dig : ∀ n : Nat, n < 16 → valD (dig n) = n := by decide
theorem unhex_hexL (b : UInt8) (r : List UInt8) : unhex (hexL b ++ r) = (unhex r).map (b :: ·) := by
  have hb : b.toNat < 256 := UInt8.toNat_lt _
  have h1 := valD_dig (b.toNat / 16) (by omega)
  have h2 := valD_dig (b.toNat % 16) (by omega)
  show unhex (37 :: dig (b.toNat / 16) :: dig (b.toNat % 16) :: r) = _
  rw [unhex_hex, h1, h2, if_neg (by omega)]
  have e : UInt8.ofNat ((((b.toNat / 16 : Nat) : Int)).toNat * 16 + (((b.toNat % 16 : Nat) : Int)).toNat) = b := by
    rw [Int.toNat_natCast, Int.toNat_natCast, show b.toNat / 16 * 16 + b.toNat % 16 = b.toNat by omega]
    exact UInt8.ofNat_toNat
  rw [e]
theorem unhex_hexes : ∀ (p r : List UInt8), unhex (p.flatMap hexL ++ r) = (unhex r).map (p ++ ·)
  | [], r => by simp
  | b :: p, r => by
    rw [List.flatMap_cons, List.append_assoc, unhex_hexL, unhex_hexes p r, Option.map_map]
    rfl
theorem piece_plain {s : List UInt8} (h : plainR (dec s).1 = true) : ∀ c ∈ s.take (dec s).2, c ≠ 37 := by
  intro c hc e
  subst e
  obtain ⟨k, hk, he⟩ := List.mem_take_iff_getElem.1 hc
  have hat : at0 s k = 37 := by unfold at0; rw [List.getElem?_eq_getElem (by omega), he]; rfl
  rcases Nat.eq_zero_or_pos k with rfl | h0
  · have hd : dec s = (37, 1) := by unfold dec; rw [hat]; rfl
    rw [hd] at h
    exact absurd h (by decide)
  · have := dec_conts h0 (by omega : k < (dec s).2)
    omega
theorem unhex_show : ∀ (n : Nat) (s : List UInt8), s.length ≤ n → unhex (showL s) = some s
  | 0, s, h => by
    have : s = [] := List.eq_nil_of_length_eq_zero (by omega)
    subst this; rfl
  | n + 1, s, h => by
    by_cases hs : s = []
    · subst hs; rfl
    have hpos : 0 < s.length := List.length_pos_iff.2 hs
    have hw := dec_pos s
    have ih := unhex_show n (s.drop (dec s).2) (by simp; omega)
    rw [showL_step hs]
    unfold piece
    split
    · rename_i hp
      rw [unhex_free _ _ (piece_plain hp), ih]
      simp
    · rw [unhex_hexes, ih]
      simp
theorem showL_ne {s : List UInt8} : showL s ≠ [37] := by
  intro h
  have := unhex_show s.length s (Nat.le_refl _)
  rw [h, show unhex [37] = none by decide +kernel] at this
  cases this
theorem showN_ne {s : List UInt8} (h : s ≠ []) : showN s = showL s := if_neg h
end Go.Proofs.YtlblenojhfeboaaDoor

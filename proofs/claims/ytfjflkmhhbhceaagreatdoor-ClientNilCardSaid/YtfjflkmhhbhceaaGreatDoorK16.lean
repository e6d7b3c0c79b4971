/-
  Layer 3, plain laws: numbers' digits and handles' texts. No condition.
-/
import Derived.Test.YtfjflkmhhbhceaaGreatDoorK05
import Derived.Lib.ItoaNum
import Derived.Lib.IndexMore
import Derived.Lib.AtoiAllCases
namespace Go.Proofs.YtfjflkmhhbhceaaGreatDoor
open Go.RowKit

/-- the value of digits -/
def decVal (l : List UInt8) : Nat := l.foldl (fun n c => 10 * n + (c.toNat - 48)) 0
theorem decVal_snoc (l : List UInt8) (c : UInt8) : decVal (l ++ [c]) = 10 * decVal l + (c.toNat - 48) := by simp [decVal]
def isDig (c : UInt8) : Prop := 48 ≤ c.toNat ∧ c.toNat ≤ 57
theorem dig_toNat {k : Nat} (h : k < 10) : (UInt8.ofNat (48 + k)).toNat = 48 + k := by rw [UInt8.toNat_ofNat', Nat.mod_eq_of_lt (by omega)]
theorem decDigits_snoc {n : Nat} (h : ¬ n < 10) : Lib.decDigits n = Lib.decDigits (n / 10) ++ [UInt8.ofNat (48 + n % 10)] := by rw [Lib.decDigits.eq_def n, dif_neg h]
theorem decVal_dec (n : Nat) : decVal (Lib.decDigits n) = n := by
  induction n using Nat.strongRecOn with
  | ind n ih =>
    by_cases h : n < 10
    · rw [Lib.decDigits_one h]
      simp only [decVal, List.foldl_cons, List.foldl_nil, dig_toNat h]
      omega
    · rw [decDigits_snoc h, decVal_snoc, ih (n / 10) (by omega), dig_toNat (by omega)]
      omega
theorem dec_dig (n : Nat) : ∀ c ∈ Lib.decDigits n, isDig c := by
  induction n using Nat.strongRecOn with
  | ind n ih =>
    intro c hc
    by_cases h : n < 10
    · rw [Lib.decDigits_one h, List.mem_singleton] at hc
      subst hc
      unfold isDig
      rw [dig_toNat h]
      omega
    · rw [decDigits_snoc h, List.mem_append, List.mem_singleton] at hc
      rcases hc with hc | rfl
      · exact ih (n / 10) (by omega) c hc
      · unfold isDig
        rw [dig_toNat (by omega)]
        omega
theorem dec_inj {m n : Nat} (h : Lib.decDigits m = Lib.decDigits n) : m = n := by rw [← decVal_dec m, h, decVal_dec]
theorem dec_ne (n : Nat) : Lib.decDigits n ≠ [] := fun h => by
  have := Lib.nDigits_pos n
  rw [← Lib.decDigits_length, h] at this
  simp at this
theorem dec_len19 {n : Nat} (h : n ≤ 9223372036854775807) : (Lib.decDigits n).length ≤ 19 := by
  rw [Lib.decDigits_length]
  by_cases h0 : n < 10
  · rw [Lib.nDigits_small h0]; omega
  · rcases Nat.lt_or_ge 19 (Lib.nDigits n) with hlt | hge
    · exfalso
      have : ∀ k n : Nat, Lib.nDigits n = k + 1 → 1 ≤ k → 10 ^ k ≤ n := by
        intro k
        induction k with
        | zero => intro n _ h; omega
        | succ k ih =>
          intro n hn _
          by_cases hs : n < 10
          · rw [Lib.nDigits_small hs] at hn; omega
          · rw [Lib.nDigits_big hs] at hn
            rcases Nat.eq_zero_or_pos k with rfl | hk
            · simp; omega
            · have := ih (n / 10) (by omega) hk
              rw [Nat.pow_succ]
              omega
      obtain ⟨k, hk⟩ : ∃ k, Lib.nDigits n = k + 1 := ⟨Lib.nDigits n - 1, by omega⟩
      have h1 := this k n hk (by omega)
      have h2 : 10 ^ 19 ≤ 10 ^ k := Nat.pow_le_pow_right (by omega) (by omega)
      have h3 : (10 : Nat) ^ 19 = 10000000000000000000 := by decide
      omega
    · exact hge
theorem decVal_le (l r : List UInt8) : decVal l ≤ decVal (l ++ r) := by
  have aux : ∀ (r : List UInt8) (n : Nat), n ≤ r.foldl (fun n c => 10 * n + (c.toNat - 48)) n := by
    intro r
    induction r with
    | nil => intro n; exact Nat.le_refl _
    | cons c r ih => intro n; exact Nat.le_trans (show n ≤ 10 * n + (c.toNat - 48) by omega) (ih _)
  unfold decVal
  rw [List.foldl_append]
  exact aux r _
theorem split_dot {l1 l2 r1 r2 : List UInt8} (h1 : ∀ c ∈ l1, c ≠ 46) (h2 : ∀ c ∈ l2, c ≠ 46) (h : l1 ++ 46 :: r1 = l2 ++ 46 :: r2) : l1 = l2 ∧ r1 = r2 := by
  induction l1 generalizing l2 with
  | nil =>
    cases l2 with
    | nil => simp at h; exact ⟨rfl, h⟩
    | cons b l2 => simp at h; exact absurd h.1.symm (h2 b (by simp))
  | cons a l1 ih =>
    cases l2 with
    | nil => simp at h; exact absurd h.1 (h1 a (by simp))
    | cons b l2 =>
      simp at h
      obtain ⟨rfl, h⟩ := h
      obtain ⟨rfl, rfl⟩ := ih (fun c hc => h1 c (by simp [hc])) (fun c hc => h2 c (by simp [hc])) h
      exact ⟨rfl, rfl⟩
theorem dig_dot {c : UInt8} (h : isDig c) : c ≠ 46 := fun e => by subst e; exact absurd h.1 (by decide)
/-- the text of parts -/
def fhTx (p : Parts) : List UInt8 := [if p.kind = 1 then 111 else 112] ++ Lib.decDigits p.a.toNat ++ [46] ++ Lib.decDigits p.b.toNat
theorem fhTx_inj {p q : Parts} (hp : p.mayF = true) (hq : q.mayF = true) (h : fhTx p = fhTx q) : p = q := by
  obtain ⟨hk, ⟨ha, _⟩, hb⟩ := (Parts.mayF_iff p).1 hp
  obtain ⟨hk', ⟨ha', _⟩, hb'⟩ := (Parts.mayF_iff q).1 hq
  unfold fhTx at h
  simp only [List.append_assoc, List.cons_append, List.nil_append] at h
  obtain ⟨h0, h1⟩ := List.cons.inj h
  obtain ⟨h2, h3⟩ := split_dot (fun c hc => dig_dot (dec_dig _ c hc)) (fun c hc => dig_dot (dec_dig _ c hc)) h1
  have e1 := dec_inj h2
  have e2 := dec_inj h3
  obtain ⟨k, a, b⟩ := p
  obtain ⟨k', a', b'⟩ := q
  simp only at *
  have hkk : k = k' := by
    rcases hk with rfl | rfl <;> rcases hk' with rfl | rfl <;> first | rfl | (exfalso; simp at h0)
  rw [Parts.mk.injEq]
  exact ⟨hkk, by omega, by omega⟩
/-- the text's parts, as 'Cut' at a dot finds them -/
theorem cut_dot {l r : List UInt8} (h : ∀ c ∈ l, c ≠ 46) : Lib.cut (l ++ 46 :: r) [46] = (l, r, true) := by
  have hi : Lib.index (l ++ 46 :: r) [46] = l.length := by
    induction l with
    | nil => simp [Lib.index]
    | cons c l ih =>
      have ih := ih (fun c hc => h c (by simp [hc]))
      have hc : (46 == c) = false := by
        have := h c (by simp)
        rw [beq_eq_false_iff_ne]
        exact fun e => this e.symm
      rw [List.cons_append, Lib.index, ih]
      simp only [List.isPrefixOf, hc, Bool.false_and, Bool.false_eq_true, if_false, List.length_cons]
      have hne : ((l.length : Int) == -1) = false := by
        rw [beq_eq_false_iff_ne]
        omega
      rw [hne]
      simp
  unfold Lib.cut
  rw [hi, if_pos (by omega)]
  simp
/-- a machine number whose value is the digits', where they are a number's -/
def NumP (l : List UInt8) (v : Int) : Prop := (-1 ≤ v ∧ v ≤ 9223372036854775807) ∧ ∀ m : Nat, m ≤ 9223372036854775807 → l = Lib.decDigits m → v = (m : Int)
theorem NumP.bad_len {l : List UInt8} (h : l.length = 0 ∨ 19 < l.length) : NumP l (-1) := ⟨by omega, fun m hm e => by
  have h1 := dec_len19 hm
  have h2 := dec_ne m
  rw [← e] at h1 h2
  exfalso
  rcases h with h | h
  · exact h2 (List.length_eq_zero_iff.1 h)
  · omega⟩
theorem NumP.bad_dig {l : List UInt8} {k : Nat} (hk : k < l.length) (h : ¬ isDig l[k]) : NumP l (-1) := ⟨by omega, fun m hm e => by
  subst e
  exact absurd (dec_dig m _ (List.getElem_mem hk)) h⟩
theorem take_snoc {l : List UInt8} {k : Nat} (hk : k < l.length) : l.take (k + 1) = l.take k ++ [l[k]] := by
  rw [List.take_add_one, List.getElem?_eq_getElem hk]; rfl
theorem NumP.bad_big {l : List UInt8} {k : Nat} (_hk : k < l.length) (h : 9223372036854775807 < decVal (l.take (k + 1))) : NumP l (-1) := ⟨by omega, fun m hm e => by
  have := decVal_le (l.take (k + 1)) (l.drop (k + 1))
  rw [List.take_append_drop, e, decVal_dec] at this
  rw [e] at h
  omega⟩
theorem NumP.ok {l : List UInt8} {n : Nat} (h : decVal l = n) (hn : n ≤ 9223372036854775807) : NumP l (n : Int) := ⟨by omega, fun m hm e => by rw [← h, e, decVal_dec]⟩
end Go.Proofs.YtfjflkmhhbhceaaGreatDoor

/-
  Layer 22 in plain words: the number in a handle's text. No condition.
-/
namespace Go.Proofs.YtfjflkmhhbhceaaGreatDoor
open Go.RowKit

/-- the number of a handle's text; 0: it is none -/
def genOf (s : List UInt8) : Int := if Lib.decDigits (decVal s) = s ∧ decVal s ≤ 9223372036854775807 then (decVal s : Int) else 0
theorem genOf_dec {n : Nat} (h : n ≤ 9223372036854775807) : genOf (Lib.decDigits n) = n := by
  unfold genOf
  rw [decVal_dec, if_pos ⟨rfl, h⟩]
theorem genOf_no {s : List UInt8} (h : ∀ m : Nat, m ≤ 9223372036854775807 → 0 < m → s ≠ Lib.decDigits m) : genOf s = 0 := by
  unfold genOf
  split
  · next hs =>
    rcases Nat.eq_zero_or_pos (decVal s) with h0 | h0
    · rw [h0]; rfl
    · exact absurd hs.1.symm (h _ hs.2 h0)
  · rfl
theorem genOf_nonneg (s : List UInt8) : 0 ≤ genOf s := by
  unfold genOf
  split
  · omega
  · omega
theorem genOf_le (s : List UInt8) : genOf s ≤ 9223372036854775807 := by
  unfold genOf
  split
  · next hs => omega
  · omega
theorem genOf_is {s : List UInt8} (h : genOf s ≠ 0) : s = Lib.decDigits (genOf s).toNat := by
  unfold genOf at h ⊢
  split at h
  · next hs => rw [if_pos hs, Int.toNat_natCast]; exact hs.1.symm
  · exact absurd rfl h

-- what strconv.Atoi says of it
def foldD (acc : Nat) (l : List UInt8) : Nat := l.foldl (fun n c => n * 10 + (c.toNat - 48)) acc
theorem foldD_ge : ∀ (l : List UInt8) (acc : Nat), acc ≤ foldD acc l
  | [], _ => Nat.le_refl _
  | c :: l, acc => by
    have := foldD_ge l (acc * 10 + (c.toNat - 48))
    show acc ≤ foldD (acc * 10 + (c.toNat - 48)) l
    omega
theorem foldD_dec (l : List UInt8) : foldD 0 l = decVal l := by
  unfold foldD decVal
  congr 1
  funext n c
  omega
theorem parse_digs : ∀ (l : List UInt8) (acc : Nat), (∀ c ∈ l, isDig c) → foldD acc l ≤ 9223372036854775807 → Lib.parseUint10 acc l = .ok (foldD acc l)
  | [], acc, _, _ => rfl
  | c :: l, acc, hd, hm => by
    have h1 := hd c (by simp)
    have h2 : foldD (acc * 10 + (c.toNat - 48)) l ≤ 9223372036854775807 := hm
    have h3 := foldD_ge l (acc * 10 + (c.toNat - 48))
    have h4 := parse_digs l (acc * 10 + (c.toNat - 48)) (fun d hd' => hd d (by simp [hd'])) h2
    unfold Lib.parseUint10
    rw [if_pos (show 48 ≤ c.toNat ∧ c.toNat ≤ 57 from h1), if_neg (by omega), if_neg (by omega), h4]
    rfl
theorem atoi_dec {n : Nat} (h : n ≤ 9223372036854775807) : Lib.atoiAll (Lib.decDigits n) = .ok (n : Int) := by
  have hd := dec_dig n
  have hv := decVal_dec n
  have hne := dec_ne n
  generalize Lib.decDigits n = l at *
  have hp : Lib.parseMag l = .ok n := by
    unfold Lib.parseMag
    rw [if_neg hne, parse_digs l 0 hd (by rw [foldD_dec, hv]; exact h), foldD_dec, hv]
  match l, hne with
  | c :: r, _ =>
    obtain ⟨h1, h2⟩ := hd c (by simp)
    rw [Lib.atoiAll_plain c r (by omega) (by omega), hp]
    simp only [Lib.signless]
    first
      | rfl
      | (rw [if_neg (by omega)])
/-- no numeral of a machine number: Atoi fails, or gives what spells another text -/
theorem genOf_atoi {s : List UInt8} {v : Int} (h : Lib.atoiAll s = .ok v) : genOf s = if 1 ≤ v ∧ Lib.decDigits v.toNat = s then v else 0 := by
  by_cases h1 : 1 ≤ v ∧ Lib.decDigits v.toNat = s
  · rw [if_pos h1, ← h1.2]
    have hb := Lib.atoiAll_bounds h
    rw [genOf_dec (by omega)]
    omega
  · rw [if_neg h1]
    refine genOf_no fun m hm h0 e => h1 ?_
    rw [e, atoi_dec hm] at h
    injection h with h
    subst h
    exact ⟨by omega, by rw [Int.toNat_natCast]; exact e.symm⟩
theorem genOf_bad {s : List UInt8} (h : ∀ v, Lib.atoiAll s ≠ .ok v) : genOf s = 0 :=
  genOf_no fun m hm _ e => h m (by rw [e]; exact atoi_dec hm)
end Go.Proofs.YtfjflkmhhbhceaaGreatDoor

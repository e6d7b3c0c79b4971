/-
  Layer 3, plain laws: numbers' digits and handles' texts. No condition.
-/
import Derived.Test.YtlblenojhfeboaaDoorFhPure
import Derived.Lib.ItoaNum
import Derived.Lib.IndexMore
namespace Go.Proofs.YtlblenojhfeboaaDoor
open Go.RowKit

/-- the value of digits -/
def decVal (l : List UInt8) : Nat := l.foldl (fun n c => 10 * n + (c.toNat - 48)) 0
theorem decVal_snoc (l : List UInt8) (c : UInt8) : decVal (l ++ [c]) = 10 * decVal l + (c.toNat - 48) := by simp [decVal]
def isDig (c : UInt8) : Prop := 48 ≤ c.toNat ∧ c.toNat ≤ 57
theorem dig_toNat {k : Nat} (h : k < 10) : (UInt8.ofNat (48 + k)).toNat = 48 + k := by rw [UInt8.toNat_ofNat', Nat.mod_eq_of_lt (by omega)]
theorem decDigits_snoc {n : Nat} (h : ¬ n < 10) : Lib.decDigits n = Lib.decDigits (n / 10) ++ [UInt8.ofNat (48 + n % 10)] := by rw [Lib.decDigits.eq_def n, dif_neg h]
theorem decVal_dec (n : Nat) : decVal (Lib.decDigits n) = n := by
  induction n using Nat.strongRecOn with
  | ind n ih =>
    by_cases h : n < 10
    · rw [Lib.decDigits_one h]
      simp only [decVal, List.foldl_cons, List.foldl_nil, dig_toNat h]
      omega
    · rw [decDigits_snoc h, decVal_snoc, ih (n / 10) (by omega), dig_toNat (by omega)]
      omega
theorem dec_dig (n : Nat) : ∀ c ∈ Lib.decDigits n, isDig c := by
  induction n using Nat.strongRecOn with
  | ind n ih =>
    intro c hc
    by_cases h : n < 10
    · rw [Lib.decDigits_one h, List.mem_singleton] at hc
      subst hc
      unfold isDig
      rw [dig_toNat h]
      omega
    · rw [decDigits_snoc h, List.mem_append, List.mem_singleton] at hc
      rcases hc with hc | rfl
      · exact ih (n / 10) (by omega) c hc
      · unfold isDig
        rw [dig_toNat (by omega)]
        omega
theorem dec_inj {m n : Nat} (h : Lib.decDigits m = Lib.decDigits n) : m = n := by rw [← decVal_dec m, h, decVal_dec]
theorem dec_ne (n : Nat) : Lib.decDigits n ≠ [] := fun h => by
  have := Lib.nDigits_pos n
  rw [← Lib.decDigits_length, h] at this
  simp at this
theorem dec_len19 {n : Nat} (h : n ≤ 9223372036854775807) : (Lib.decDigits n).length ≤ 19 := by
  rw [Lib.decDigits_length]
  by_cases h0 : n < 10
  · rw [Lib.nDigits_small h0]; omega
  · rcases Nat.lt_or_ge 19 (Lib.nDigits n) with hlt | hge
    · exfalso
      have : ∀ k n : Nat, Lib.nDigits n = k + 1 → 1 ≤ k → 10 ^ k ≤ n := by
        intro k
        induction k with
        | zero => intro n _ h; omega
        | succ k ih =>
          intro n hn _
          by_cases hs : n < 10
          · rw [Lib.nDigits_small hs] at hn; omega
          · rw [Lib.nDigits_big hs] at hn
            rcases Nat.eq_zero_or_pos k with rfl | hk
            · simp; omega
            · have := ih (n / 10) (by omega) hk
              rw [Nat.pow_succ]
              omega
      obtain ⟨k, hk⟩ : ∃ k, Lib.nDigits n = k + 1 := ⟨Lib.nDigits n - 1, by omega⟩
      have h1 := this k n hk (by omega)
      have h2 : 10 ^ 19 ≤ 10 ^ k := Nat.pow_le_pow_right (by omega) (by omega)
      have h3 : (10 : Nat) ^ 19 = 10000000000000000000 := by decide
      omega
    · exact hge
theorem decVal_le (l r : List UInt8) : decVal l ≤ decVal (l ++ r) := by
  have aux : ∀ (r : List UInt8) (n : Nat), n ≤ r.foldl (fun n c => 10 * n + (c.toNat - 48)) n := by
    intro r
    induction r with
    | nil => intro n; exact Nat.le_refl _
    | cons c r ih => intro n; exact Nat.le_trans (show n ≤ 10 * n + (c.toNat - 48) by omega) (ih _)
  unfold decVal
  rw [List.foldl_append]
  exact aux r _
theorem split_dot {l1 l2 r1 r2 : List UInt8} (h1 : ∀ c ∈ l1, c ≠ 46) (h2 : ∀ c ∈ l2, c ≠ 46) (h : l1 ++ 46 :: r1 = l2 ++ 46 :: r2) : l1 = l2 ∧ r1 = r2 := by
  induction l1 generalizing l2 with
  | nil =>
    cases l2 with
    | nil => simp at h; exact ⟨rfl, h⟩
    | cons b l2 => simp at h; exact absurd h.1.symm (h2 b (by simp))
  | cons a l1 ih =>
    cases l2 with
    | nil => simp at h; exact absurd h.1 (h1 a (by simp))
    | cons b l2 =>
      simp at h
      obtain ⟨rfl, h⟩ := h
      obtain ⟨rfl, rfl⟩ := ih (fun c hc => h1 c (by simp [hc])) (fun c hc => h2 c (by simp [hc])) h
      exact ⟨rfl, rfl⟩
theorem dig_dot {c : UInt8} (h : isDig c) : c ≠ 46 := fun e => by subst e; exact absurd h.1 (by decide)
/-- the text of parts -/
def fhTx (p : Parts) : List UInt8 := [if p.kind = 1 then 111 else 112] ++ Lib.decDigits p.a.toNat ++ [46] ++ Lib.decDigits p.b.toNat
theorem fhTx_inj {p q : Parts} (hp : p.mayF = true) (hq : q.mayF = true) (h : fhTx p = fhTx q) : p = q := by
  obtain ⟨hk, ⟨ha, _⟩, hb⟩ := (Parts.mayF_iff p).1 hp
  obtain ⟨hk', ⟨ha', _⟩, hb'⟩ := (Parts.mayF_iff q).1 hq
  unfold fhTx at h
  simp only [List.append_assoc, List.cons_append, List.nil_append] at h
  obtain ⟨h0, h1⟩ := List.cons.inj h
  obtain ⟨h2, h3⟩ := split_dot (fun c hc => dig_dot (dec_dig _ c hc)) (fun c hc => dig_dot (dec_dig _ c hc)) h1
  have e1 := dec_inj h2
  have e2 := dec_inj h3
  obtain ⟨k, a, b⟩ := p
  obtain ⟨k', a', b'⟩ := q
  simp only at *
  have hkk : k = k' := by
    rcases hk with rfl | rfl <;> rcases hk' with rfl | rfl <;> first | rfl | (exfalso; simp at h0)
  rw [Parts.mk.injEq]
  exact ⟨hkk, by omega, by omega⟩
/-- the text's parts, as 'Cut' at a dot finds them -/
theorem cut_dot {l r : List UInt8} (h : ∀ c ∈ l, c ≠ 46) : Lib.cut (l ++ 46 :: r) [46] = (l, r, true) := by
  have hi : Lib.index (l ++ 46 :: r) [46] = l.length := by
    induction l with
    | nil => simp [Lib.index]
    | cons c l ih =>
      have ih := ih (fun c hc => h c (by simp [hc]))
      have hc : (46 == c) = false := by
        have := h c (by simp)
        rw [beq_eq_false_iff_ne]
        exact fun e => this e.symm
      rw [List.cons_append, Lib.index, ih]
      simp only [List.isPrefixOf, hc, Bool.false_and, Bool.false_eq_true, if_false, List.length_cons]
      have hne : ((l.length : Int) == -1) = false := by
        rw [beq_eq_false_iff_ne]
        omega
      rw [hne]
      simp
  unfold Lib.cut
  rw [hi, if_pos (by omega)]
  simp
/-- a machine number whose value is the digits', where they are a number's -/
def NumP (l : List UInt8) (v : Int) : Prop := (-1 ≤ v ∧ v ≤ 9223372036854775807) ∧ ∀ m : Nat, m ≤ 9223372036854775807 → l = Lib.decDigits m → v = (m : Int)
theorem NumP.bad_len {l : List UInt8} (h : l.length = 0 ∨ 19 < l.length) : NumP l (-1) := ⟨by omega, fun m hm e => by
  have h1 := dec_len19 hm
  have h2 := dec_ne m
  rw [← e] at h1 h2
  exfalso
  rcases h with h | h
  · exact h2 (List.length_eq_zero_iff.1 h)
  · omega⟩
theorem NumP.bad_dig {l : List UInt8} {k : Nat} (hk : k < l.length) (h : ¬ isDig l[k]) : NumP l (-1) := ⟨by omega, fun m hm e => by
  subst e
  exact absurd (dec_dig m _ (List.getElem_mem hk)) h⟩
theorem take_snoc {l : List UInt8} {k : Nat} (hk : k < l.length) : l.take (k + 1) = l.take k ++ [l[k]] := by
  rw [List.take_add_one, List.getElem?_eq_getElem hk]; rfl
theorem NumP.bad_big {l : List UInt8} {k : Nat} (hk : k < l.length) (h : 9223372036854775807 < decVal (l.take (k + 1))) : NumP l (-1) := ⟨by omega, fun m hm e => by
  have := decVal_le (l.take (k + 1)) (l.drop (k + 1))
  rw [List.take_append_drop, e, decVal_dec] at this
  rw [e] at h
  omega⟩
theorem NumP.ok {l : List UInt8} {n : Nat} (h : decVal l = n) (hn : n ≤ 9223372036854775807) : NumP l (n : Int) := ⟨by omega, fun m hm e => by rw [← h, e, decVal_dec]⟩
end Go.Proofs.YtlblenojhfeboaaDoor

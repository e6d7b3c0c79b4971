/-
  Layer 4, plain laws: the pieces of a path, and paths of pieces. No condition.
-/
import Derived.Test.YtjjlkdmpnpejjaaDoorXdrPure
import Derived.Lib.SplitLaws
import Derived.Lib.Split
import Derived.Lib.Join
namespace Go.Proofs.YtjjlkdmpnpejjaaDoor
open Go.RowKit

/-- all pieces between '/', empty ones too; the one that is under way comes first -/
def pieces : List UInt8 → List UInt8 → List (List UInt8)
  | cur, [] => [cur]
  | cur, c :: r => if c = 47 then cur :: pieces [] r else pieces (cur ++ [c]) r
theorem pieces_free : ∀ (p cur r : List UInt8), (∀ c ∈ p, c ≠ 47) → pieces cur (p ++ r) = pieces (cur ++ p) r
  | [], cur, r, _ => by simp
  | c :: p, cur, r, h => by
    rw [List.cons_append, pieces, if_neg (h c (by simp)), pieces_free p _ r (fun x hx => h x (by simp [hx])), List.append_assoc]
    rfl
theorem pieces_none {p : List UInt8} (cur : List UInt8) (h : ∀ c ∈ p, c ≠ 47) : pieces cur p = [cur ++ p] := by
  have := pieces_free p cur [] h
  rw [List.append_nil] at this
  rw [this]
  rfl
theorem indexByte_none {s : List UInt8} (h : Lib.indexByte s 47 = -1) : ∀ c ∈ s, c ≠ 47 := by
  induction s with
  | nil => simp
  | cons b s ih =>
    rw [Lib.indexByte] at h
    by_cases hb : b = 47
    · subst hb; simp at h
    · have h1 : (b == (47 : UInt8)) = false := beq_false_of_ne hb
      rw [h1] at h
      simp only [Bool.false_eq_true, if_false] at h
      have h2 : Lib.indexByte s 47 = -1 := by
        split at h
        · rename_i h3; exact beq_iff_eq.1 h3
        · rename_i h3
          have : Lib.indexByte s 47 = -2 := by omega
          exfalso
          clear h3 h ih h1 hb
          have hge : ∀ l : List UInt8, -1 ≤ Lib.indexByte l 47 := fun l => by
            induction l with
            | nil => simp [Lib.indexByte]
            | cons a l ih =>
              rw [Lib.indexByte]
              split
              · omega
              · split <;> omega
          have := hge s
          omega
      intro c hc
      rcases List.mem_cons.1 hc with rfl | hc
      · exact hb
      · exact ih h2 c hc
theorem indexByte_some {s : List UInt8} (h : Lib.indexByte s 47 ≠ -1) : ∃ p q, s = p ++ 47 :: q ∧ (∀ c ∈ p, c ≠ 47) ∧ Lib.indexByte s 47 = (p.length : Int) := by
  induction s with
  | nil => exact absurd rfl h
  | cons b s ih =>
    rw [Lib.indexByte] at h ⊢
    by_cases hb : b = 47
    · subst hb
      exact ⟨[], s, rfl, by simp, by simp⟩
    · have h1 : (b == (47 : UInt8)) = false := beq_false_of_ne hb
      rw [h1] at h ⊢
      simp only [Bool.false_eq_true, if_false] at h ⊢
      split at h
      · exact absurd rfl h
      · rename_i h3
        rw [if_neg h3]
        obtain ⟨p, q, hs, hp, hi⟩ := ih (fun e => h3 (beq_iff_eq.2 e))
        refine ⟨b :: p, q, by rw [hs]; rfl, fun c hc => ?_, by rw [hi]; simp⟩
        rcases List.mem_cons.1 hc with rfl | hc
        · exact hb
        · exact hp c hc
theorem splitK_pieces : ∀ (k : Nat) (s : List UInt8), s.count 47 ≤ k → Lib.splitK [47] 0 k s = pieces [] s
  | 0, s, h => by
    have h0 : ∀ c ∈ s, c ≠ 47 := fun c hc e => by
      subst e
      have := List.count_pos_iff.2 hc
      omega
    rw [Lib.splitK, pieces_none [] h0]
    rfl
  | k + 1, s, h => by
    rw [Lib.splitK, Lib.index_one]
    by_cases hi : Lib.indexByte s 47 = -1
    · rw [if_pos (beq_iff_eq.2 hi), pieces_none [] (indexByte_none hi)]
      rfl
    · rw [if_neg (fun e => hi (beq_iff_eq.1 e))]
      obtain ⟨p, q, rfl, hp, hi⟩ := indexByte_some hi
      rw [hi]
      have e1 : (p ++ 47 :: q).take (((p.length : Int)).toNat + 0) = p := by simp
      have e2 : (p ++ 47 :: q).drop (((p.length : Int)).toNat + [(47 : UInt8)].length) = q := by
        rw [Int.toNat_natCast, List.drop_append]
        simp
      rw [e1, e2, pieces_free p [] _ hp, pieces, if_pos rfl, List.nil_append]
      congr 1
      refine splitK_pieces k q ?_
      rw [List.count_append, List.count_cons_self] at h
      omega
/-- the pieces that are not empty -/
def fieldsL (l : List UInt8) : List (List UInt8) := (pieces [] l).filter fun p => !(p == [])
theorem splitB_pieces (l : List UInt8) : Lib.splitB (bs [47]) 0 (Lib.countB (bs l) (bs [47])) (bs l) = (pieces [] l).map bs := by
  have h := Lib.splitB_data (bs [47]) 0 (Lib.countB (bs l) (bs [47])) (bs l)
  have hc : Lib.countB (bs l) (bs [47]) = l.count 47 := Lib.count_one 47 l
  rw [show (bs [47]).data.toList = [47] from rfl, show (bs l).data.toList = l from rfl, splitK_pieces _ _ (by rw [hc]; exact Nat.le_refl _)] at h
  rw [← h, List.map_map]
  have : (bs ∘ fun x : ByteArray => x.data.toList) = id := by funext x; exact bs_list x
  rw [this, List.map_id]
theorem pieces_len (l : List UInt8) : (pieces [] l).length = Lib.countB (bs l) (bs [47]) + 1 := by
  have hc : Lib.countB (bs l) (bs [47]) = l.count 47 := Lib.count_one 47 l
  rw [hc]
  have : ∀ (l cur : List UInt8), (pieces cur l).length = l.count 47 + 1 := fun l => by
    induction l with
    | nil => intro cur; rfl
    | cons c l ih =>
      intro cur
      rw [pieces]
      by_cases h : c = 47
      · subst h; rw [if_pos rfl, List.length_cons, ih, List.count_cons_self]
      · rw [if_neg h, ih, List.count_cons_of_ne h]
  exact this l []

/-- the path of pieces -/
def joinL (l : List (List UInt8)) : List UInt8 := if l = [] then [47] else (l.map (47 :: ·)).flatten
theorem join_sep : ∀ {l : List (List UInt8)}, l ≠ [] → 47 :: Lib.join l [47] = (l.map (47 :: ·)).flatten
  | [], h => absurd rfl h
  | [x], _ => by simp [Lib.join, List.intercalate]
  | x :: y :: l, _ => by
    have := join_sep (l := y :: l) (by simp)
    simp only [Lib.join, List.intercalate, List.intersperse_cons_cons, List.flatten_cons, List.map_cons] at this ⊢
    rw [← this]
    simp
/-- names that may be come back -/
theorem fields_join {l : List (List UInt8)} (h : ∀ p ∈ l, p ≠ [] ∧ ∀ c ∈ p, c ≠ 47) : fieldsL (joinL l) = l := by
  unfold joinL
  by_cases h0 : l = []
  · subst h0; decide
  rw [if_neg h0]
  have key : ∀ (l : List (List UInt8)) (cur : List UInt8), (∀ p ∈ l, p ≠ [] ∧ ∀ c ∈ p, c ≠ 47) → (∀ c ∈ cur, c ≠ 47) → pieces cur ((l.map (47 :: ·)).flatten) = cur :: l := fun l => by
    induction l with
    | nil => intro cur _ _; rfl
    | cons p l ih =>
      intro cur h hc
      obtain ⟨_, hp⟩ := h p (by simp)
      have hl : ∀ q ∈ l, q ≠ [] ∧ ∀ c ∈ q, c ≠ 47 := fun q hq => h q (by simp [hq])
      rw [List.map_cons, List.flatten_cons, List.cons_append, pieces, if_pos rfl, pieces_free p [] _ hp, List.nil_append, ih p hl hp]
  unfold fieldsL
  rw [key l [] h (by simp), List.filter_cons]
  simp only [BEq.rfl, Bool.not_true, Bool.false_eq_true, if_false]
  exact List.filter_eq_self.2 fun p hp => by simpa using (h p hp).1
end Go.Proofs.YtjjlkdmpnpejjaaDoor

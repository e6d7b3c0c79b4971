/-
  Layer 20, plain laws: what a page tells. No condition.
-/
import Derived.Test.YtmkhpgpnahligaaNodeDelB
namespace Go.Proofs.Ytmkhpgpnahligaa
open Go.RowKit

/-- how many entries have room -/
def pageN : List Entry → Int → Int → Nat
  | [], _, _ => 0
  | x :: l, left, more => if left < 24 + (x.name.length : Int) + more then 0 else pageN l (left - (24 + (x.name.length : Int) + more)) more + 1
theorem pageN_le : ∀ (l : List Entry) (left more : Int), pageN l left more ≤ l.length
  | [], _, _ => Nat.le_refl _
  | x :: l, left, more => by
    unfold pageN
    split
    · exact Nat.zero_le _
    · have := pageN_le l (left - (24 + (x.name.length : Int) + more)) more
      simp only [List.length_cons]
      omega
theorem pageN_no {l : List Entry} {k : Nat} {left more : Int} (hk : k < l.length) (h : left < 24 + (l[k].name.length : Int) + more) : pageN (l.drop k) left more = 0 := by
  rw [← List.getElem_cons_drop hk, pageN, if_pos h]
theorem pageN_yes {l : List Entry} {k : Nat} {left more : Int} (hk : k < l.length) (h : ¬ left < 24 + (l[k].name.length : Int) + more) : pageN (l.drop k) left more = pageN (l.drop (k + 1)) (left - (24 + (l[k].name.length : Int) + more)) more + 1 := by
  rw [← List.getElem_cons_drop hk, pageN, if_neg h]
theorem pageN_end {l : List Entry} {k : Nat} {left more : Int} (hk : ¬ k < l.length) : pageN (l.drop k) left more = 0 := by
  rw [List.drop_of_length_le (by omega), pageN]

/-- what a page tells: entries, whether they come up to the end, a status -/
def pageF (l : List Entry) (ck count more : Int) : List Entry × Bool × Int :=
  if pageN (behind ck l) count more = 0 ∧ 0 < (behind ck l).length then ([], false, 10005)
  else ((behind ck l).take (pageN (behind ck l) count more), decide (pageN (behind ck l) count more = (behind ck l).length), 0)
def PagePost (w : World) (p : List Entry × Bool × Int) (e : Ending) (w' : World) : Prop :=
  ∃ A c, e = .returned (.tuple #[.slice A p.1.length c, .bool p.2.1, .int .i64 p.2.2]) ∧ At w' 15 A (p.1.map Entry.vals) ∧ Below w.heap.size w w' ∧ Fresh w.heap.size A
theorem PagePost.few {w w' : World} {l : List Entry} {ck count more : Int} (h : pageN (behind ck l) count more = 0) (h2 : 0 < (behind ck l).length) (hb : Below w.heap.size w w') :
    PagePost w (pageF l ck count more) (.returned (.tuple #[.slice none 0 0, .bool false, .int .i64 10005])) w' := by
  unfold pageF
  rw [if_pos ⟨h, h2⟩]
  exact ⟨none, 0, rfl, At.nil, hb, fun _ h => by cases h⟩
theorem PagePost.some_ {w w' : World} {l : List Entry} {ck count more : Int} {A : Option Addr} {k : Nat} (h : pageN (behind ck l) count more = k) (h2 : ¬ (k = 0 ∧ 0 < (behind ck l).length)) (hA : At w' 15 A ((behind ck l).map Entry.vals)) (hF : Fresh w.heap.size A) (hb : Below w.heap.size w w') :
    PagePost w (pageF l ck count more) (.returned (.tuple #[.slice A k k, .bool ((k : Int) == ((behind ck l).length : Int)), .int .i64 0])) w' := by
  have hk : k ≤ (behind ck l).length := by rw [← h]; exact pageN_le _ _ _
  unfold pageF
  rw [h, if_neg h2]
  refine ⟨A, k, ?_, ?_, hb, hF⟩
  · have e1 : ((behind ck l).take k).length = k := by rw [List.length_take]; omega
    have e2 : ((k : Int) == ((behind ck l).length : Int)) = decide (k = (behind ck l).length) := by
      by_cases hh : k = (behind ck l).length
      · rw [decide_eq_true hh, hh]; simp
      · rw [decide_eq_false hh]; exact beq_false_of_ne (by omega)
    simp only [e1, e2]
  · intro i r hi
    rw [List.map_take] at hi
    refine hA i r ?_
    rw [List.getElem?_take] at hi
    split at hi
    · exact hi
    · cases hi
theorem PagePost.lists {w w' : World} {l : List Entry} {ck count more : Int} {T : TypeId} {v : Value} {out : List Entry} {n : Nat} (h : pageN (behind ck l) count more = out.length ∧ n = (behind ck l).length ∧ out = (behind ck l).take out.length) (h2 : ¬ (out.length = 0 ∧ 0 < n)) (hR : RowS w' w.heap.size T 15 v (out.map Entry.vals)) (hb : Below w.heap.size w w') :
    ∃ A c, v = .slice A out.length c ∧ PagePost w (pageF l ck count more) (.returned (.tuple #[.slice A out.length c, .bool ((out.length : Int) == (n : Int)), .int .i64 0])) w' := by
  obtain ⟨h1, rfl, h3⟩ := h
  obtain ⟨A, c, rfl, hA⟩ := hR.at_
  rw [List.length_map]
  refine ⟨A, c, rfl, ?_⟩
  unfold pageF
  rw [h1, if_neg h2, ← h3]
  refine ⟨A, c, ?_, hA, hb, fun p h => (hR.lt p.block (by rw [h]; rfl)).1⟩
  have e2 : ((out.length : Int) == ((behind ck l).length : Int)) = decide (out.length = (behind ck l).length) := by
    by_cases hh : out.length = (behind ck l).length
    · rw [decide_eq_true hh, hh]; simp
    · rw [decide_eq_false hh]; exact beq_false_of_ne (by omega)
  rw [e2]
end Go.Proofs.Ytmkhpgpnahligaa

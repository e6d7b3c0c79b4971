/-
  Layer 20, plain laws: pages that go on, each behind the one ahead's last Cookie. No condition.
-/
import Derived.Test.YtmkhpgpnahligaaNodeWholeB
import Derived.Test.YtmkhpgpnahligaaNodePagePure
namespace Go.Proofs.Ytmkhpgpnahligaa
open Go.RowKit

/-- the Cookie behind the first m entries -/
def ckAt (l : List Entry) : Nat → Int
  | 0 => 0
  | m + 1 => ((l[m]?).map Entry.cookie).getD 0
theorem ckAt_succ {l : List Entry} {m : Nat} (h : m < l.length) : ckAt l (m + 1) = l[m].cookie := by
  simp [ckAt, h]
theorem goodL.lt {l : List Entry} (h : goodL l) : ∀ {j : Nat} (hj : j < l.length) {i : Nat} (hi : i < j), (l[i]'(by omega)).cookie < l[j].cookie := by
  intro j
  induction j with
  | zero => intro _ i hi; omega
  | succ j ih =>
    intro hj i hi
    have h1 := h.2 j hj
    rcases Nat.lt_or_ge i j with h2 | h2
    · exact Int.lt_trans (ih (by omega) h2) h1
    · obtain rfl : i = j := by omega
      exact h1
theorem behind_split {l : List Entry} {ck : Int} {m : Nat} (h1 : ∀ x ∈ l.take m, x.cookie ≤ ck) (h2 : ∀ x ∈ l.drop m, ck < x.cookie) : behind ck l = l.drop m := by
  have e : behind ck (l.take m ++ l.drop m) = l.drop m := by
    unfold behind
    rw [List.filter_append, List.filter_eq_nil_iff.2 (fun x hx => by simpa using h1 x hx), List.filter_eq_self.2 (fun x hx => by simpa using h2 x hx), List.nil_append]
  rwa [List.take_append_drop] at e
theorem behind_at {l : List Entry} (h : goodL l) {m : Nat} (hm : m ≤ l.length) : behind (ckAt l m) l = l.drop m := by
  refine behind_split (fun x hx => ?_) (fun x hx => ?_)
  · obtain ⟨i, hi, rfl⟩ := List.mem_take_iff_getElem.1 hx
    cases m with
    | zero => omega
    | succ m =>
      rw [ckAt_succ (by omega)]
      rcases Nat.lt_or_ge i m with h2 | h2
      · exact Int.le_of_lt (h.lt (by omega) h2)
      · obtain rfl : i = m := by omega
        exact Int.le_refl _
  · obtain ⟨i, hi, rfl⟩ := List.mem_drop_iff_getElem.1 hx
    cases m with
    | zero =>
      have := (h.1 _ (List.getElem_mem (show 0 + i < l.length by omega))).1
      show (0 : Int) < _
      omega
    | succ m =>
      rw [ckAt_succ (by omega)]
      exact h.lt (by omega) (by omega)
theorem pageN_short {l : List Entry} {count : Int} (hn : ∀ x ∈ l, x.name.length ≤ 24) (h : pageN l count 0 = 0) (h0 : 0 < l.length) : count < 48 := by
  cases l with
  | nil => simp at h0
  | cons x l =>
    have := hn x (by simp)
    unfold pageN at h
    split at h
    · omega
    · omega

/-- what the next page is: none has room; the last ones; some, and there are more -/
inductive WStep (l : List Entry) (m : Nat) (count : Int) (P : List Entry × Bool × Int) : Prop
  | small (h : P = ([], false, 10005)) (hc : count < 48) : WStep l m count P
  | last (p : List Entry) (h : P = (p, true, 0)) (hp : l.take m ++ p = l) : WStep l m count P
  | more (p : List Entry) (x : Entry) (h : P = (p ++ [x], false, 0)) (hp : l.take m ++ (p ++ [x]) = l.take (m + (p.length + 1))) (hm : m + (p.length + 1) ≤ l.length) (hx : x.cookie = ckAt l (m + (p.length + 1))) : WStep l m count P
theorem whole_step {l : List Entry} (h : goodL l) {m : Nat} (hm : m ≤ l.length) (count : Int) : WStep l m count (pageF l (ckAt l m) count 0) := by
  unfold pageF
  rw [behind_at h hm]
  have hn := pageN_le (l.drop m) count 0
  have hs := fun a b => pageN_short (l := l.drop m) (count := count) (fun x hx => (h.1 x (List.mem_of_mem_drop hx)).2) a b
  generalize pageN (l.drop m) count 0 = k at *
  rw [List.length_drop] at *
  by_cases h0 : k = 0 ∧ 0 < l.length - m
  · rw [if_pos h0]
    exact .small rfl (hs h0.1 h0.2)
  · rw [if_neg h0]
    by_cases he : k = l.length - m
    · refine .last _ (by rw [decide_eq_true he]) ?_
      rw [List.take_of_length_le (l := l.drop m) (by rw [List.length_drop]; omega), List.take_append_drop]
    · obtain ⟨j, rfl⟩ : ∃ j, k = j + 1 := ⟨k - 1, by omega⟩
      have hj : j < (l.drop m).length := by rw [List.length_drop]; omega
      have e : (l.drop m).take (j + 1) = (l.drop m).take j ++ [(l.drop m)[j]] := take_next _ _ hj
      have el : ((l.drop m).take j).length = j := by simp; omega
      refine .more ((l.drop m).take j) ((l.drop m)[j]) (by rw [decide_eq_false he, e]) ?_ (by rw [el]; omega) ?_
      · rw [← e, el, ← List.take_add]
      · rw [el, ← Nat.add_assoc, ckAt_succ (by omega), List.getElem_drop]
end Go.Proofs.Ytmkhpgpnahligaa

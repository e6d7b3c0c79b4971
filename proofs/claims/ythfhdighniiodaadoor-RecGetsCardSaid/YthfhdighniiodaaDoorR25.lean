/-
  Layer 17 in plain words: the document's changes of a record. No condition.
-/
import Derived.Test.YthfhdighniiodaaDoorR23
import Derived.Test.YthfhdighniiodaaDoorR24
import Derived.Test.YthfhdighniiodaaDoorR17
namespace Go.Proofs.YthfhdighniiodaaDoor
open Go.RowKit

/-- the field of a letter, as it comes -/
def dTk (c : Nat) (z : Change) (r : Rs) : Change × Rs := if c = 97 then ({ z with attr := (rAttr r).1 }, (rAttr r).2) else rTk c z r
def dSt (l : List UInt8) (z : Change) (r : Rs) (k : Nat) : Change × Rs := (l.take k).foldl (fun x c => dTk c.toNat x.1 x.2) (z, r)
theorem dSt_succ (l : List UInt8) (z : Change) (r : Rs) (k : Nat) (hk : k < l.length) : dSt l z r (k + 1) = dTk l[k].toNat (dSt l z r k).1 (dSt l z r k).2 := by
  unfold dSt
  rw [List.take_add_one, List.getElem?_eq_getElem hk, List.foldl_append]
  rfl
def dOne1 (r : Rs) : Change × Rs := dSt (rLets r) (rKind r) (rU32 r).2 (rLets r).length
def dOneOk (r : Rs) : Prop := (dOne1 r).2.e = 0 ∧ rIs (dOne1 r).1 = true
instance (r : Rs) : Decidable (dOneOk r) := by unfold dOneOk; infer_instance
def dSome (r : Rs) : Nat → Option (List Change × Rs)
  | 0 => some ([], r)
  | k + 1 => match dSome r k with
    | none => none
    | some x => if dOneOk x.2 then some (x.1 ++ [(dOne1 x.2).1], (dOne1 x.2).2) else none
def dGetR (s : List UInt8) : List Change × Bool :=
  if (rU32 ⟨s, 0⟩).2.e ≠ 0 ∨ 16 < (rU32 ⟨s, 0⟩).1 then ([], false)
  else match dSome (rU32 ⟨s, 0⟩).2 (rU32 ⟨s, 0⟩).1 with
    | none => ([], false)
    | some x => (x.1, ((rLeft x.2 : Nat) : Int) == 0)
theorem dSome_none {r : Rs} {k m : Nat} (h : dSome r k = none) (hm : k ≤ m) : dSome r m = none := by
  induction m with
  | zero => obtain rfl : k = 0 := by omega
            exact h
  | succ m ih =>
    by_cases hk : k = m + 1
    · subst hk; exact h
    · unfold dSome; rw [ih (by omega)]
theorem rSome_none {r : Rs} {k m : Nat} (h : rSome r k = none) (hm : k ≤ m) : rSome r m = none := by
  induction m with
  | zero => obtain rfl : k = 0 := by omega
            exact h
  | succ m ih =>
    by_cases hk : k = m + 1
    · subst hk; exact h
    · unfold rSome; rw [ih (by omega)]
theorem dSome_len {r : Rs} {k : Nat} {x : List Change × Rs} (h : dSome r k = some x) : x.1.length = k := by
  induction k generalizing x with
  | zero => cases h; rfl
  | succ k ih =>
    unfold dSome at h
    cases hd : dSome r k with
    | none => rw [hd] at h; cases h
    | some y =>
      rw [hd] at h
      simp only at h
      split at h
      · cases h; rw [List.length_append, ih hd]; rfl
      · cases h
theorem rSome_len {r : Rs} {k : Nat} {x : List Change × Rs} (h : rSome r k = some x) : x.1.length = k := by
  induction k generalizing x with
  | zero => cases h; rfl
  | succ k ih =>
    unfold rSome at h
    cases hd : rSome r k with
    | none => rw [hd] at h; cases h
    | some y =>
      rw [hd] at h
      simp only at h
      split at h
      · cases h; rw [List.length_append, ih hd]; rfl
      · cases h
theorem dSome_next {r : Rs} {k : Nat} {x : List Change × Rs} (h : dSome r k = some x) (ho : dOneOk x.2) : dSome r (k + 1) = some (x.1 ++ [(dOne1 x.2).1], (dOne1 x.2).2) := by
  unfold dSome; rw [h]; simp only; rw [if_pos ho]
theorem dSome_stop {r : Rs} {k : Nat} {x : List Change × Rs} (h : dSome r k = some x) (ho : ¬ dOneOk x.2) : dSome r (k + 1) = none := by
  unfold dSome; rw [h]; simp only; rw [if_neg ho]
theorem rSome_next {r : Rs} {k : Nat} {x : List Change × Rs} (h : rSome r k = some x) (ho : rOneOk x.2) : rSome r (k + 1) = some (x.1 ++ [(rOne1 x.2).1], (rOne1 x.2).2) := by
  unfold rSome; rw [h]; simp only; rw [if_pos ho]
theorem rSome_stop {r : Rs} {k : Nat} {x : List Change × Rs} (h : rSome r k = some x) (ho : ¬ rOneOk x.2) : rSome r (k + 1) = none := by
  unfold rSome; rw [h]; simp only; rw [if_neg ho]
theorem dGetR_bad {s : List UInt8} {k : Nat} (hk : k ≤ (rU32 ⟨s, 0⟩).1) (h : dSome (rU32 ⟨s, 0⟩).2 k = none) : (dGetR s).2 = false := by
  unfold dGetR
  split
  · rfl
  · rw [dSome_none h hk]
theorem dGetR_good {s : List UInt8} {x : List Change × Rs} (h1 : (rU32 ⟨s, 0⟩).2.e = 0) (h2 : ¬ 16 < (rU32 ⟨s, 0⟩).1) (h : dSome (rU32 ⟨s, 0⟩).2 (rU32 ⟨s, 0⟩).1 = some x) : dGetR s = (x.1, ((rLeft x.2 : Nat) : Int) == 0) := by
  unfold dGetR
  rw [if_neg (by rintro (h3 | h3); exact h3 h1; exact h2 h3), h]
theorem rGet_bad {s : List UInt8} {k : Nat} (hk : k ≤ (rU32 ⟨s, 0⟩).1) (h : rSome (rU32 ⟨s, 0⟩).2 k = none) : rGet s = ([], 14) := by
  unfold rGet
  split
  · rfl
  · rw [rSome_none h hk]
theorem rGet_good {s : List UInt8} {x : List Change × Rs} (h1 : (rU32 ⟨s, 0⟩).2.e = 0) (h2 : ¬ 16 < (rU32 ⟨s, 0⟩).1) (h : rSome (rU32 ⟨s, 0⟩).2 (rU32 ⟨s, 0⟩).1 = some x) : rGet s = if rDone x.2 = 0 then (x.1, 0) else ([], 14) := by
  unfold rGet
  rw [if_neg (by rintro (h3 | h3); exact h3 h1; exact h2 h3), h]
end Go.Proofs.YthfhdighniiodaaDoor

/-
  Layer 17 in plain words: the program's changes of a record are the document's; laid once more they are its bytes. Condition: a machine text.
-/
namespace Go.Proofs.YthfhdighniiodaaDoor
open Go.RowKit

theorem rIs_ok {x : Change} (hs : x.serial ≤ 9223372036854775807) : rIs x = rOk x := by
  obtain ⟨k, ep, se, up, nm, ch, at_, no, sl⟩ := x
  simp only at hs
  rcases rHas_cases k with h | h | rfl | rfl | rfl | rfl | rfl | rfl | rfl | rfl | rfl | rfl
  · have h0 := rHas_low h
    simp [rIs, rOk, rBad, h0]
  · have h0 := rHas_high h
    simp [rIs, rOk, rBad, h0]
  all_goals
    rw [Bool.eq_iff_iff]
    simp [rIs, rOk, rBad, rNums, tIsR, nIsR, inR, rHas, lettersR, rMayAll, rMay, rTaken, rCopy, change0]
  all_goals
    have hz : (attr0 = at_) ↔ at_ = attrZ := ⟨fun h => h.symm, fun h => h.symm⟩
    try rw [hz]
    first | done | omega | grind
theorem rTkOk_zero (c : Nat) (hc : rLetter c) (z : Change) {r : Rs} (h : rTkOk c r = true) : (rTk c z r).2.e = 0 ∧ rTk c z r = dTk c z r := by
  by_cases h97 : c = 97
  · subst h97
    unfold rTkOk at h
    rw [if_pos rfl] at h
    have h0 : ((gotR Attr.ok attrZ (rAttr r)).2 == 0) = true := h
    rw [rTk_a]
    have hd : dTk 97 z r = ({ z with attr := (rAttr r).1 }, (rAttr r).2) := rfl
    rw [hd]
    generalize rAttr r = x at *
    unfold gotR at *
    by_cases h1 : x.2.e ≠ 0
    · rw [if_pos h1] at h0; exact absurd (by simpa using h0) h1
    · rw [if_neg h1] at *
      by_cases h2 : x.1.ok = true
      · rw [if_pos h2]; exact ⟨by simpa using h1, rfl⟩
      · rw [if_neg h2] at h0; simp at h0
  · refine ⟨?_, by unfold dTk; rw [if_neg h97]⟩
    rw [rTkOk_e c h97, rTk_rs c hc change0 z] at h
    exact eq_of_beq h
theorem rSt_d (l : List UInt8) (hl : ∀ c ∈ l, rLetter c.toNat) (z : Change) (r : Rs) (hok : ∀ k, k < l.length → rStOk l z r k = true) (k : Nat) (hk : k ≤ l.length) : rSt l z r k = dSt l z r k ∧ (0 < k → (rSt l z r k).2.e = 0) := by
  induction k with
  | zero => exact ⟨rfl, fun h => absurd h (by omega)⟩
  | succ k ih =>
    have hk' : k < l.length := hk
    have e1 := (ih (by omega)).1
    have ho := hok k hk'
    rw [rStOk_at _ _ _ _ hk'] at ho
    obtain ⟨f1, f2⟩ := rTkOk_zero _ (hl _ (List.getElem_mem hk')) (rSt l z r k).1 ho
    rw [rSt_succ _ _ _ _ hk', dSt_succ _ _ _ _ hk', ← e1]
    exact ⟨f2, fun _ => f1⟩
theorem rTk_101 (z : Change) (r : Rs) : rTk 101 z r = ({ z with epoch := (rU32 r).1 }, (rU32 r).2) := rfl
theorem dTk_101 (z : Change) (r : Rs) : dTk 101 z r = ({ z with epoch := (rU32 r).1 }, (rU32 r).2) := rfl
theorem rTk_115 (z : Change) (r : Rs) : rTk 115 z r = ({ z with serial := (rU64 r).1 }, (rU64 r).2) := rfl
theorem dTk_115 (z : Change) (r : Rs) : dTk 115 z r = ({ z with serial := (rU64 r).1 }, (rU64 r).2) := rfl
theorem rTk_117 (z : Change) (r : Rs) : rTk 117 z r = ({ z with up := (rOpaque 64 r).1 }, (rOpaque 64 r).2) := rfl
theorem dTk_117 (z : Change) (r : Rs) : dTk 117 z r = ({ z with up := (rOpaque 64 r).1 }, (rOpaque 64 r).2) := rfl
theorem rTk_110 (z : Change) (r : Rs) : rTk 110 z r = ({ z with name := (rOpaque 255 r).1 }, (rOpaque 255 r).2) := rfl
theorem dTk_110 (z : Change) (r : Rs) : dTk 110 z r = ({ z with name := (rOpaque 255 r).1 }, (rOpaque 255 r).2) := rfl
theorem rTk_99 (z : Change) (r : Rs) : rTk 99 z r = ({ z with child := (rOpaque 64 r).1 }, (rOpaque 64 r).2) := rfl
theorem dTk_99 (z : Change) (r : Rs) : dTk 99 z r = ({ z with child := (rOpaque 64 r).1 }, (rOpaque 64 r).2) := rfl
theorem rTk_98 (z : Change) (r : Rs) : rTk 98 z r = ({ z with no := (rU32 r).1 }, (rU32 r).2) := rfl
theorem dTk_98 (z : Change) (r : Rs) : dTk 98 z r = ({ z with no := (rU32 r).1 }, (rU32 r).2) := rfl
theorem rTk_116 (z : Change) (r : Rs) : rTk 116 z r = ({ z with slot := (rU32 r).1 }, (rU32 r).2) := rfl
theorem dTk_116 (z : Change) (r : Rs) : dTk 116 z r = ({ z with slot := (rU32 r).1 }, (rU32 r).2) := rfl
theorem dTk_97 (z : Change) (r : Rs) : dTk 97 z r = ({ z with attr := (rAttr r).1 }, (rAttr r).2) := rfl
theorem rAttr_snd (r : Rs) : (rAttr r).2 = (rMany attrW r).2 := by
  unfold rAttr
  generalize rMany attrW r = x
  rfl
theorem rAttr_stick {r : Rs} (h : r.e ≠ 0) : (rAttr r).2 = r := by rw [rAttr_snd, rMany_stick attrW h]
theorem dTk_stick (c : Nat) (hc : rLetter c) (z : Change) {r : Rs} (h : r.e ≠ 0) : (dTk c z r).2 = r := by
  rcases hc with rfl | rfl | rfl | rfl | rfl | rfl | rfl | rfl
  · rw [dTk_101, rU32_stick h]
  · rw [dTk_115, rU64_stick h]
  · rw [dTk_117, rOpaque_stick h]
  · rw [dTk_110, rOpaque_stick h]
  · rw [dTk_99, rOpaque_stick h]
  · rw [dTk_97, rAttr_stick h]
  · rw [dTk_98, rU32_stick h]
  · rw [dTk_116, rU32_stick h]
theorem dSt_stick (l : List UInt8) (hl : ∀ c ∈ l, rLetter c.toNat) (z : Change) (r : Rs) {k n : Nat} (hkn : k ≤ n) (hn : n ≤ l.length) (h : (dSt l z r n).2.e = 0) : (dSt l z r k).2.e = 0 := by
  induction n with
  | zero => obtain rfl : k = 0 := by omega
            exact h
  | succ n ih =>
    by_cases hk : k = n + 1
    · subst hk; exact h
    · refine ih (by omega) (by omega) ?_
      apply Classical.byContradiction
      intro hc
      rw [dSt_succ _ _ _ _ (show n < l.length from hn), dTk_stick _ (hl _ (List.getElem_mem hn)) _ hc] at h
      exact hc h
theorem dTk_kind (c : Nat) (hc : rLetter c) (z : Change) (r : Rs) : (dTk c z r).1.kind = z.kind ∧ (c ≠ 97 → (dTk c z r).1.attr = z.attr) := by
  rcases hc with rfl | rfl | rfl | rfl | rfl | rfl | rfl | rfl
  · rw [dTk_101]; exact ⟨rfl, fun _ => rfl⟩
  · rw [dTk_115]; exact ⟨rfl, fun _ => rfl⟩
  · rw [dTk_117]; exact ⟨rfl, fun _ => rfl⟩
  · rw [dTk_110]; exact ⟨rfl, fun _ => rfl⟩
  · rw [dTk_99]; exact ⟨rfl, fun _ => rfl⟩
  · rw [dTk_97]; exact ⟨rfl, fun h => absurd rfl h⟩
  · rw [dTk_98]; exact ⟨rfl, fun _ => rfl⟩
  · rw [dTk_116]; exact ⟨rfl, fun _ => rfl⟩
theorem dSt_kind (l : List UInt8) (hl : ∀ c ∈ l, rLetter c.toNat) (z : Change) (r : Rs) (k : Nat) (hk : k ≤ l.length) : (dSt l z r k).1.kind = z.kind := by
  induction k with
  | zero => rfl
  | succ k ih =>
    have hk' : k < l.length := hk
    rw [dSt_succ _ _ _ _ hk']
    exact (dTk_kind _ (hl _ (List.getElem_mem hk')) _ _).1.trans (ih (by omega))
theorem dSt_attr (l : List UInt8) (hl : ∀ c ∈ l, rLetter c.toNat) (hnd : l.Nodup) (z : Change) (r : Rs) (j : Nat) (hj : j < l.length) (h97 : l[j].toNat = 97) (k : Nat) (hjk : j < k) (hk : k ≤ l.length) : (dSt l z r k).1.attr = (dSt l z r (j + 1)).1.attr := by
  induction k with
  | zero => omega
  | succ k ih =>
    by_cases hkj : k = j
    · subst hkj; rfl
    · have hk' : k < l.length := hk
      rw [dSt_succ _ _ _ _ hk', (dTk_kind _ (hl _ (List.getElem_mem hk')) _ _).2 ?_]
      · exact ih (by omega) (by omega)
      · intro h
        have hne := (List.pairwise_iff_getElem.1 hnd) j k hj hk' (by omega)
        exact hne (UInt8.toNat_inj.1 (by rw [h97, h]))
theorem lettersR_nodup : ∀ s ∈ lettersR, s.Nodup := by decide
theorem rHas_nodup (p : Int) : (rHas p).Nodup := rHas_mem (Q := fun s => s.Nodup) List.nodup_nil lettersR_nodup
theorem rIs_attr {x : Change} (h : rIs x = true) (h97 : inR (rHas x.kind) 97 = true) : x.attr.ok = true := by
  unfold rIs rBad at h
  rw [Bool.and_eq_true] at h
  have h1 := h.1
  split at h1
  · cases h1
  · simp only [Bool.not_not] at h1; exact h1
/-- machine numbers -/
def rFit (x : Change) : Prop := x.serial ≤ 9223372036854775807 ∧ x.attr.good
theorem rOpaque_le {n : Int} {r : Rs} (h : r.s.length ≤ 9223372036854775807) : (rOpaque n r).2.s.length ≤ 9223372036854775807 := by
  unfold rOpaque; split
  · exact Nat.le_trans (rU32_len h) h
  · split
    · simp [Rs.fail]
    · exact Nat.le_trans (rPadded_len (Nat.le_trans (rU32_len h) h)) (Nat.le_trans (rU32_len h) h)
theorem attr0_good : attr0.good := ⟨rfl, rfl, rfl, rfl, rfl, rfl, rfl, rfl, rfl, rfl⟩
theorem rTk_fit (c : Nat) (hc : rLetter c) (z : Change) {r : Rs} (hl : r.s.length ≤ 9223372036854775807) (h : rFit z) : rFit (rTk c z r).1 ∧ (rTk c z r).1.kind = z.kind ∧ (rTk c z r).2.s.length ≤ 9223372036854775807 := by
  obtain ⟨h1, h2⟩ := h
  have e8 := rU64_lt r
  have l4 := Nat.le_trans (rU32_len hl) hl
  have l8 := Nat.le_trans (rU64_len hl) hl
  have lo := fun n => rOpaque_le (n := n) hl
  have la := Nat.le_trans (rAttr_len hl) hl
  have hg := rAttr_good hl
  rcases hc with rfl | rfl | rfl | rfl | rfl | rfl | rfl | rfl
  · rw [rTk_101]; generalize rU32 r = x at *; exact ⟨⟨h1, h2⟩, rfl, l4⟩
  · rw [rTk_115]; generalize rU64 r = x at *; exact ⟨⟨e8, h2⟩, rfl, l8⟩
  · rw [rTk_117]; have l := lo 64; generalize rOpaque 64 r = x at *; exact ⟨⟨h1, h2⟩, rfl, l⟩
  · rw [rTk_110]; have l := lo 255; generalize rOpaque 255 r = x at *; exact ⟨⟨h1, h2⟩, rfl, l⟩
  · rw [rTk_99]; have l := lo 64; generalize rOpaque 64 r = x at *; exact ⟨⟨h1, h2⟩, rfl, l⟩
  · rw [rTk_a]
    have hz : attrZ.good := attr0_good
    generalize rAttr r = x at *
    refine ⟨⟨h1, ?_⟩, rfl, la⟩
    show (gotR Attr.ok attrZ x).1.good
    unfold gotR
    split
    · exact hz
    · split
      · exact hg
      · exact hz
  · rw [rTk_98]; generalize rU32 r = x at *; exact ⟨⟨h1, h2⟩, rfl, l4⟩
  · rw [rTk_116]; generalize rU32 r = x at *; exact ⟨⟨h1, h2⟩, rfl, l4⟩
theorem rSt_fit (l : List UInt8) (hl : ∀ c ∈ l, rLetter c.toNat) (z : Change) {r : Rs} (hr : r.s.length ≤ 9223372036854775807) (h : rFit z) (k : Nat) (hk : k ≤ l.length) : rFit (rSt l z r k).1 ∧ (rSt l z r k).1.kind = z.kind ∧ (rSt l z r k).2.s.length ≤ 9223372036854775807 := by
  induction k with
  | zero => exact ⟨h, rfl, hr⟩
  | succ k ih =>
    obtain ⟨e1, e2, e3⟩ := ih (by omega)
    have hk' : k < l.length := hk
    rw [rSt_succ _ _ _ _ hk']
    obtain ⟨f1, f2, f3⟩ := rTk_fit _ (hl _ (List.getElem_mem hk')) (rSt l z r k).1 e3 e1
    exact ⟨f1, f2.trans e2, f3⟩
theorem rLets_letter (r : Rs) : ∀ c ∈ rLets r, rLetter c.toNat := fun c hc => (rHas_letter _ c hc).1
theorem rKind_fit (r : Rs) : rFit (rKind r) := ⟨show (0 : Int) ≤ 9223372036854775807 by decide, attr0_good⟩
theorem rOne1_fit {r : Rs} (hr : r.s.length ≤ 9223372036854775807) : rFit (rOne1 r).1 ∧ (rOne1 r).1.kind = (rU32 r).1 ∧ (rOne1 r).2.s.length ≤ 9223372036854775807 :=
  rSt_fit (rLets r) (rLets_letter r) (rKind r) (Nat.le_trans (rU32_len hr) hr) (rKind_fit r) _ (Nat.le_refl _)
theorem rOne_d {r : Rs} (hr : r.s.length ≤ 9223372036854775807) : (rOneOk r ↔ dOneOk r) ∧ (rOneOk r → rOne1 r = dOne1 r) := by
  have key : rOneOk r → rOne1 r = dOne1 r ∧ (rOne1 r).2.e = 0 := fun ⟨h1, h2⟩ => by
    obtain ⟨e1, e2⟩ := rSt_d (rLets r) (rLets_letter r) (rKind r) (rU32 r).2 h1 _ (Nat.le_refl _)
    refine ⟨e1, e2 ?_⟩
    apply Classical.byContradiction
    intro hc
    have hnil : rLets r = [] := List.eq_nil_of_length_eq_zero (by omega)
    have hp := (rOk_parts h2).1
    rw [(rOne1_fit hr).2.1] at hp
    exact hp hnil
  refine ⟨⟨fun h => ?_, fun h => ?_⟩, fun h => (key h).1⟩
  · obtain ⟨e1, e2⟩ := key h
    refine ⟨by rw [← e1]; exact e2, ?_⟩
    rw [← e1, rIs_ok (rOne1_fit hr).1.1]
    exact h.2
  · obtain ⟨h1, h2⟩ := h
    have hk := dSt_kind (rLets r) (rLets_letter r) (rKind r) (rU32 r).2 _ (Nat.le_refl _)
    have hok : ∀ k, k < (rLets r).length → rStOk (rLets r) (rKind r) (rU32 r).2 k = true ∧ rSt (rLets r) (rKind r) (rU32 r).2 k = dSt (rLets r) (rKind r) (rU32 r).2 k := by
      intro k
      induction k using Nat.strongRecOn with
      | _ k ih =>
        intro hk'
        have he : rSt (rLets r) (rKind r) (rU32 r).2 k = dSt (rLets r) (rKind r) (rU32 r).2 k := by
          cases k with
          | zero => rfl
          | succ k =>
            obtain ⟨f1, f2⟩ := ih k (by omega) (by omega)
            rw [rStOk_at _ _ _ _ (show k < _ by omega)] at f1
            rw [rSt_succ _ _ _ _ (show k < _ by omega), dSt_succ _ _ _ _ (show k < _ by omega), (rTkOk_zero _ (rLets_letter r _ (List.getElem_mem _)) _ f1).2, f2]
        refine ⟨?_, he⟩
        rw [rStOk_at _ _ _ _ hk', he]
        have hs := dSt_stick (rLets r) (rLets_letter r) (rKind r) (rU32 r).2 (k := k + 1) (n := (rLets r).length) hk' (Nat.le_refl _) h1
        rw [dSt_succ _ _ _ _ hk'] at hs
        by_cases h97 : (rLets r)[k].toNat = 97
        · have ha := dSt_attr (rLets r) (rLets_letter r) (rHas_nodup _) (rKind r) (rU32 r).2 k hk' h97 _ hk' (Nat.le_refl _)
          rw [dSt_succ _ _ _ _ hk', h97] at ha
          have hin : inR (rHas (dOne1 r).1.kind) 97 = true := by
            have : (dOne1 r).1.kind = (rU32 r).1 := hk
            rw [this, inR, List.contains_iff_mem]
            have hmem := List.getElem_mem hk'
            have h8 : (rLets r)[k] = 97 := UInt8.toNat_inj.1 h97
            rw [h8] at hmem
            exact hmem
          have hao := rIs_attr h2 hin
          rw [h97] at hs ⊢
          have hA : (dOne1 r).1.attr = (rAttr (dSt (rLets r) (rKind r) (rU32 r).2 k).2).1 := ha
          rw [hA] at hao
          have hs2 : (rAttr (dSt (rLets r) (rKind r) (rU32 r).2 k).2).2.e = 0 := hs
          rw [rTkOk_a]
          generalize rAttr (dSt (rLets r) (rKind r) (rU32 r).2 k).2 = y at *
          obtain ⟨y1, y2⟩ := y
          rw [gotA_ok hao hs2]; rfl
        · rw [rTkOk_e _ h97, rTk_rs _ (rLets_letter r _ (List.getElem_mem _)) change0 (dSt (rLets r) (rKind r) (rU32 r).2 k).1]
          have : dTk (rLets r)[k].toNat (dSt (rLets r) (rKind r) (rU32 r).2 k).1 (dSt (rLets r) (rKind r) (rU32 r).2 k).2 = rTk (rLets r)[k].toNat (dSt (rLets r) (rKind r) (rU32 r).2 k).1 (dSt (rLets r) (rKind r) (rU32 r).2 k).2 := by unfold dTk; rw [if_neg h97]
          rw [← this, hs]; rfl
    have hall := fun k hk => (hok k hk).1
    have e1 := (rSt_d (rLets r) (rLets_letter r) (rKind r) (rU32 r).2 hall _ (Nat.le_refl _)).1
    refine ⟨hall, ?_⟩
    have e2 : rOne1 r = dOne1 r := e1
    rw [← rIs_ok (rOne1_fit hr).1.1, e2]
    exact h2
theorem rOne_e {r : Rs} (hr : r.s.length ≤ 9223372036854775807) (h : rOneOk r) : (rOne1 r).2.e = 0 := by
  obtain ⟨g1, g2⟩ := rOne_d hr
  rw [g2 h]; exact (g1.1 h).1
theorem rSome_d {r : Rs} (hr : r.s.length ≤ 9223372036854775807) (h0 : r.e = 0) (k : Nat) : rSome r k = dSome r k ∧ ∀ x, rSome r k = some x → x.2.s.length ≤ 9223372036854775807 ∧ x.2.e = 0 ∧ ∀ c ∈ x.1, rOk c = true ∧ rFit c := by
  induction k with
  | zero => exact ⟨rfl, fun x h => by cases h; exact ⟨hr, h0, fun c hc => by cases hc⟩⟩
  | succ k ih =>
    obtain ⟨e1, e2⟩ := ih
    unfold rSome dSome
    rw [← e1]
    cases hd : rSome r k with
    | none => exact ⟨rfl, fun x h => by cases h⟩
    | some y =>
      simp only
      obtain ⟨f1, f0, f2⟩ := e2 y hd
      obtain ⟨g1, g2⟩ := rOne_d f1
      by_cases h : rOneOk y.2
      · rw [if_pos h, if_pos (g1.1 h), g2 h]
        refine ⟨rfl, fun x hx => ?_⟩
        cases hx
        obtain ⟨p1, p2, p3⟩ := rOne1_fit f1
        have p4 := rOne_e f1 h
        rw [← g2 h]
        refine ⟨p3, p4, fun c hc => ?_⟩
        rcases List.mem_append.1 hc with hc | hc
        · exact f2 c hc
        · obtain rfl := List.mem_singleton.1 hc
          exact ⟨h.2, p1⟩
      · rw [if_neg h, if_neg (fun hh => h (g1.2 hh))]
        exact ⟨rfl, fun x hx => by cases hx⟩
/-- the document's changes are the program's -/
theorem rGet_d {s : List UInt8} (hs : s.length ≤ 9223372036854775807) : rGet s = if (dGetR s).2 = true then ((dGetR s).1, 0) else ([], 14) := by
  have hr : (rU32 ⟨s, 0⟩).2.s.length ≤ 9223372036854775807 := Nat.le_trans (rU32_len (r := ⟨s, 0⟩) hs) hs
  unfold rGet dGetR
  generalize rU32 ⟨s, 0⟩ = y at *
  by_cases h : y.2.e ≠ 0 ∨ 16 < y.1
  · rw [if_pos h, if_pos h, if_neg (by simp)]
  · rw [if_neg h, if_neg h]
    have h0 : y.2.e = 0 := Classical.byContradiction fun hc => h (.inl hc)
    obtain ⟨e1, e2⟩ := rSome_d hr h0 y.1
    rw [← e1]
    cases hd : rSome y.2 y.1 with
    | none => rfl
    | some x =>
      obtain ⟨f1, f2, f3⟩ := e2 x hd
      simp only
      by_cases hz : rDone x.2 = 0
      · have hz2 := (rDone_left.1 hz).2
        have hz3 : rLeft x.2 = 0 := by omega
        rw [if_pos hz, hz3]; rfl
      · have hz2 : ¬ (((rLeft x.2 : Nat) : Int) == 0) = true := by
          intro hh
          have h3 : ((rLeft x.2 : Nat) : Int) = 0 := by simpa using hh
          exact hz (rDone_left.2 ⟨f2, by omega⟩)
        rw [if_neg hz, if_neg hz2]
theorem rTk_same (c : Nat) (hc : rLetter c) (z : Change) {r : Rs} (h0 : r.e = 0) (hk : rTkOk c r = true) : r.s = rBytes (rTk c z r).1 c ++ (rTk c z r).2.s := by
  have he := (rTkOk_zero c hc z hk).1
  have hd : ∀ n : Nat, ((n : Int)).toNat = n := fun n => Int.toNat_natCast n
  rcases hc with rfl | rfl | rfl | rfl | rfl | rfl | rfl | rfl
  · rw [rTk_101] at he ⊢
    have e1 := (rU32_same h0 he).1
    generalize rU32 r = x at *
    show r.s = num ((x.1 : Int)).toNat 4 ++ x.2.s
    rw [hd]; exact e1
  · rw [rTk_115] at he ⊢
    have e1 := (rU64_same h0 he).1
    generalize rU64 r = x at *
    show r.s = num ((x.1 : Int)).toNat 8 ++ x.2.s
    rw [hd]; exact e1
  · rw [rTk_117] at he ⊢
    have e1 := (rOpaque_same (most := 64) h0 he).1
    generalize rOpaque 64 r = x at *
    exact e1
  · rw [rTk_110] at he ⊢
    have e1 := (rOpaque_same (most := 255) h0 he).1
    generalize rOpaque 255 r = x at *
    exact e1
  · rw [rTk_99] at he ⊢
    have e1 := (rOpaque_same (most := 64) h0 he).1
    generalize rOpaque 64 r = x at *
    exact e1
  · have hd2 := (rTkOk_zero 97 (by decide) z hk).2
    rw [rTk_a] at he
    rw [hd2, dTk_97]
    have e1 := rAttr_same h0 he
    generalize rAttr r = x at *
    exact e1
  · rw [rTk_98] at he ⊢
    have e1 := (rU32_same h0 he).1
    generalize rU32 r = x at *
    show r.s = num ((x.1 : Int)).toNat 4 ++ x.2.s
    rw [hd]; exact e1
  · rw [rTk_116] at he ⊢
    have e1 := (rU32_same h0 he).1
    generalize rU32 r = x at *
    show r.s = num ((x.1 : Int)).toNat 4 ++ x.2.s
    rw [hd]; exact e1
end Go.Proofs.YthfhdighniiodaaDoor

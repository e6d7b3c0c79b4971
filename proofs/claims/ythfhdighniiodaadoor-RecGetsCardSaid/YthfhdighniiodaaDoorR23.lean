/-
  Layer 17 in plain words: a record's changes. No condition.
-/
import Derived.Test.YthfhdighniiodaaDoorR16
import Derived.Test.YthfhdighniiodaaDoorR20
import Derived.Test.YthfhdighniiodaaDoorR22
namespace Go.Proofs.YthfhdighniiodaaDoor
open Go.RowKit

/-- the first k letters' fields are taken -/
def rSt (l : List UInt8) (z : Change) (r : Rs) (k : Nat) : Change × Rs := (l.take k).foldl (fun x c => rTk c.toNat x.1 x.2) (z, r)
theorem rSt_succ (l : List UInt8) (z : Change) (r : Rs) (k : Nat) (hk : k < l.length) : rSt l z r (k + 1) = rTk l[k].toNat (rSt l z r k).1 (rSt l z r k).2 := by
  unfold rSt
  rw [List.take_add_one, List.getElem?_eq_getElem hk, List.foldl_append]
  rfl
/-- may the field of the letter be -/
def rStOk (l : List UInt8) (z : Change) (r : Rs) (k : Nat) : Bool := rTkOk (l.getD k 0).toNat (rSt l z r k).2
theorem rStOk_at (l : List UInt8) (z : Change) (r : Rs) (k : Nat) (hk : k < l.length) : rStOk l z r k = rTkOk l[k].toNat (rSt l z r k).2 := by
  simp [rStOk, List.getD, List.getElem?_eq_getElem hk]
/-- a change's beginning: its kind -/
def rKind (r : Rs) : Change := { change0 with kind := (rU32 r).1 }
def rLets (r : Rs) : List UInt8 := rHas (rU32 r).1
/-- a change -/
def rOne1 (r : Rs) : Change × Rs := rSt (rLets r) (rKind r) (rU32 r).2 (rLets r).length
/-- may it be -/
def rOneOk (r : Rs) : Prop := (∀ k, k < (rLets r).length → rStOk (rLets r) (rKind r) (rU32 r).2 k = true) ∧ rOk (rOne1 r).1 = true
instance (r : Rs) : Decidable (rOneOk r) := by unfold rOneOk; infer_instance
/-- the first k changes are taken; none: one may not be -/
def rSome (r : Rs) : Nat → Option (List Change × Rs)
  | 0 => some ([], r)
  | k + 1 => match rSome r k with
    | none => none
    | some x => if rOneOk x.2 then some (x.1 ++ [(rOne1 x.2).1], (rOne1 x.2).2) else none
/-- the changes of a record, or the error -/
def rGet (s : List UInt8) : List Change × Int :=
  if (rU32 ⟨s, 0⟩).2.e ≠ 0 ∨ 16 < (rU32 ⟨s, 0⟩).1 then ([], 14)
  else match rSome (rU32 ⟨s, 0⟩).2 (rU32 ⟨s, 0⟩).1 with
    | none => ([], 14)
    | some x => if rDone x.2 = 0 then (x.1, 0) else ([], 14)

-- what is laid comes back
theorem attr_manyB (t m k u g s i n c z : Nat) : (Attr.mk t m k u g s i n c z).bytes = manyB attrW [t, m, k, u, g, s, i, n, c, z] := by
  simp only [Attr.bytes, attrW, manyB, wid_t, wid_f, Int.toNat_natCast, List.append_assoc, List.append_nil]
theorem rAttr_back (a : Attr) (rest : List UInt8) (hok : a.ok = true) (hg : a.good) : rAttr ⟨a.bytes ++ rest, 0⟩ = (a, ⟨rest, 0⟩) := by
  obtain ⟨t, m, k, u, g, s, i, n, c, z, rfl, h1, h2⟩ := Attr.nats hok hg
  simp only [List.mem_cons, List.not_mem_nil, or_false, forall_eq_or_imp, forall_eq] at h1 h2
  obtain ⟨b1, b2, b3, b4, b5, b6⟩ := h1
  obtain ⟨c1, c2, c3, c4⟩ := h2
  rw [attr_manyB]
  have hf : manyFit attrW [t, m, k, u, g, s, i, n, c, z] := by
    simp only [attrW, manyFit, bnd_t, bnd_f]
    exact ⟨b1, b2, b3, b4, b5, by omega, b6, by omega, by omega, by omega, trivial⟩
  unfold rAttr
  rw [rMany_back _ _ _ hf]
  rfl
theorem rAttr_same {r : Rs} (h0 : r.e = 0) (h : (rAttr r).2.e = 0) : r.s = (rAttr r).1.bytes ++ (rAttr r).2.s := by
  have e1 := rMany_same attrW h0 h
  have hl := rMany_length attrW r
  unfold rAttr
  generalize rMany attrW r = x at *
  obtain ⟨l, q⟩ := x
  simp only at *
  match l, hl with
  | [t, m, k, u, g, s, i, n, c, z], _ =>
    show r.s = (Attr.mk t m k u g s i n c z).bytes ++ q.s
    rw [attr_manyB]; exact e1
theorem gotA_ok {s : Attr} {r : Rs} (hm : s.ok = true) (hr : r.e = 0) : gotR Attr.ok attrZ (s, r) = (s, 0) := by
  unfold gotR
  rw [if_neg (by simpa using hr), if_pos hm]
theorem rTk_a (z : Change) (r : Rs) : rTk 97 z r = ({ z with attr := (gotR Attr.ok attrZ (rAttr r)).1 }, (rAttr r).2) := rfl
theorem rTkOk_a (r : Rs) : rTkOk 97 r = ((gotR Attr.ok attrZ (rAttr r)).2 == 0) := rfl
theorem rBytes_a (x : Change) : rBytes x 97 = x.attr.bytes := rfl
theorem rCopy_a (z x : Change) : rCopy z x 97 = { z with attr := x.attr } := rfl
theorem rTk_rs (c : Nat) (hc : rLetter c) (z y : Change) (r : Rs) : (rTk c z r).2 = (rTk c y r).2 := by
  rcases hc with rfl | rfl | rfl | rfl | rfl | rfl | rfl | rfl <;> rfl
theorem rTkOk_e (c : Nat) (hc2 : c ≠ 97) (r : Rs) : rTkOk c r = ((rTk c change0 r).2.e == 0) := by
  unfold rTkOk; rw [if_neg hc2]
theorem rTk_back_e (x z : Change) (rest : List UInt8) (h : 1 ≤ x.epoch) (h2 : x.epoch ≤ 4294967295) : rTk 101 z ⟨rBytes x 101 ++ rest, 0⟩ = (rCopy z x 101, ⟨rest, 0⟩) := by
  have e := rU32_back x.epoch.toNat rest (by omega)
  have h0 : (0 : Int) ≤ x.epoch := by omega
  have h1 : ∀ r, rTk 101 z r = ({ z with epoch := (rU32 r).1 }, (rU32 r).2) := fun _ => rfl
  have h3 : rBytes x 101 = num x.epoch.toNat 4 := rfl
  rw [h1, h3, e]
  show (({ z with epoch := (x.epoch.toNat : Int) } : Change), (⟨rest, 0⟩ : Rs)) = _
  rw [Int.toNat_of_nonneg h0]; rfl
theorem rTk_back_s (x z : Change) (rest : List UInt8) (h : 1 ≤ x.serial) (h2 : x.serial ≤ 9223372036854775807) : rTk 115 z ⟨rBytes x 115 ++ rest, 0⟩ = (rCopy z x 115, ⟨rest, 0⟩) := by
  have e := rU64_back x.serial.toNat rest (by omega)
  have h0 : (0 : Int) ≤ x.serial := by omega
  have h1 : ∀ r, rTk 115 z r = ({ z with serial := (rU64 r).1 }, (rU64 r).2) := fun _ => rfl
  have h3 : rBytes x 115 = num x.serial.toNat 8 := rfl
  rw [h1, h3, e]
  show (({ z with serial := (x.serial.toNat : Int) } : Change), (⟨rest, 0⟩ : Rs)) = _
  rw [Int.toNat_of_nonneg h0]; rfl
theorem rTk_back_b (x z : Change) (rest : List UInt8) (h : 0 ≤ x.no) (h2 : x.no ≤ 65535) : rTk 98 z ⟨rBytes x 98 ++ rest, 0⟩ = (rCopy z x 98, ⟨rest, 0⟩) := by
  have e := rU32_back x.no.toNat rest (by omega)
  have h0 : (0 : Int) ≤ x.no := by omega
  have h1 : ∀ r, rTk 98 z r = ({ z with no := (rU32 r).1 }, (rU32 r).2) := fun _ => rfl
  have h3 : rBytes x 98 = num x.no.toNat 4 := rfl
  rw [h1, h3, e]
  show (({ z with no := (x.no.toNat : Int) } : Change), (⟨rest, 0⟩ : Rs)) = _
  rw [Int.toNat_of_nonneg h0]; rfl
theorem rTk_back_t (x z : Change) (rest : List UInt8) (h : 0 ≤ x.slot) (h2 : x.slot ≤ 65535) : rTk 116 z ⟨rBytes x 116 ++ rest, 0⟩ = (rCopy z x 116, ⟨rest, 0⟩) := by
  have e := rU32_back x.slot.toNat rest (by omega)
  have h0 : (0 : Int) ≤ x.slot := by omega
  have h1 : ∀ r, rTk 116 z r = ({ z with slot := (rU32 r).1 }, (rU32 r).2) := fun _ => rfl
  have h3 : rBytes x 116 = num x.slot.toNat 4 := rfl
  rw [h1, h3, e]
  show (({ z with slot := (x.slot.toNat : Int) } : Change), (⟨rest, 0⟩ : Rs)) = _
  rw [Int.toNat_of_nonneg h0]; rfl
theorem rTk_back_u (x z : Change) (rest : List UInt8) (h : (x.up.length : Int) ≤ 64) : rTk 117 z ⟨rBytes x 117 ++ rest, 0⟩ = (rCopy z x 117, ⟨rest, 0⟩) := by
  have e := rOpaque_back x.up rest 64 (by omega) h
  have h1 : ∀ r, rTk 117 z r = ({ z with up := (rOpaque 64 r).1 }, (rOpaque 64 r).2) := fun _ => rfl
  have h3 : rBytes x 117 = opq x.up := rfl
  rw [h1, h3, e]; rfl
theorem rTk_back_n (x z : Change) (rest : List UInt8) (h : (x.name.length : Int) ≤ 255) : rTk 110 z ⟨rBytes x 110 ++ rest, 0⟩ = (rCopy z x 110, ⟨rest, 0⟩) := by
  have e := rOpaque_back x.name rest 255 (by omega) h
  have h1 : ∀ r, rTk 110 z r = ({ z with name := (rOpaque 255 r).1 }, (rOpaque 255 r).2) := fun _ => rfl
  have h3 : rBytes x 110 = opq x.name := rfl
  rw [h1, h3, e]; rfl
theorem rTk_back_c (x z : Change) (rest : List UInt8) (h : (x.child.length : Int) ≤ 64) : rTk 99 z ⟨rBytes x 99 ++ rest, 0⟩ = (rCopy z x 99, ⟨rest, 0⟩) := by
  have e := rOpaque_back x.child rest 64 (by omega) h
  have h1 : ∀ r, rTk 99 z r = ({ z with child := (rOpaque 64 r).1 }, (rOpaque 64 r).2) := fun _ => rfl
  have h3 : rBytes x 99 = opq x.child := rfl
  rw [h1, h3, e]; rfl
theorem rTk_back (x z : Change) (c : Nat) (hc : rLetter c) (rest : List UInt8) (hm : rMay x c = true) (hs : x.serial ≤ 9223372036854775807) (hg : x.attr.good) :
    rTk c z ⟨rBytes x c ++ rest, 0⟩ = (rCopy z x c, ⟨rest, 0⟩) ∧ rTkOk c ⟨rBytes x c ++ rest, 0⟩ = true := by
  by_cases h97 : c = 97
  · subst h97
    have e := rAttr_back x.attr rest hm hg
    rw [rTk_a, rTkOk_a, rBytes_a, rCopy_a, e, gotA_ok hm rfl]
    exact ⟨rfl, rfl⟩
  · have key : ∀ z, rTk c z ⟨rBytes x c ++ rest, 0⟩ = (rCopy z x c, ⟨rest, 0⟩) := by
      intro z
      rcases hc with rfl | rfl | rfl | rfl | rfl | rfl | rfl | rfl
      · have h : 1 ≤ x.epoch ∧ x.epoch ≤ 4294967295 := by simpa [rMay] using hm
        exact rTk_back_e x z rest h.1 h.2
      · have h : 1 ≤ x.serial := by simpa [rMay] using hm
        exact rTk_back_s x z rest h hs
      · have h : 1 ≤ (x.up.length : Int) ∧ (x.up.length : Int) ≤ 64 := by simp [rMay] at hm; omega
        exact rTk_back_u x z rest h.2
      · have h : 1 ≤ (x.name.length : Int) ∧ (x.name.length : Int) ≤ 255 := by simp [rMay] at hm; omega
        exact rTk_back_n x z rest h.2
      · have h : (x.child.length : Int) ≤ 64 := by simp [rMay] at hm; omega
        exact rTk_back_c x z rest h
      · exact absurd rfl h97
      · have h : 0 ≤ x.no ∧ x.no ≤ 65535 := by simpa [rMay] using hm
        exact rTk_back_b x z rest h.1 h.2
      · have h : 0 ≤ x.slot ∧ x.slot ≤ 65535 := by simpa [rMay] using hm
        exact rTk_back_t x z rest h.1 h.2
    refine ⟨key z, ?_⟩
    rw [rTkOk_e c h97, key]
    rfl
/-- the bytes of the letters from k on -/
def rTail (x : Change) (l : List UInt8) (k : Nat) : List UInt8 := (l.drop k).flatMap fun c => rBytes x c.toNat
theorem rTail_next (x : Change) (l : List UInt8) (k : Nat) (hk : k < l.length) : rTail x l k = rBytes x l[k].toNat ++ rTail x l (k + 1) := by
  unfold rTail; rw [List.drop_eq_getElem_cons hk, List.flatMap_cons]
theorem rTail_end (x : Change) (l : List UInt8) : rTail x l l.length = [] := by unfold rTail; simp
theorem rTail_zero (x : Change) (l : List UInt8) : rTail x l 0 = rLaid x l l.length := by unfold rTail rLaid; simp
theorem rSt_back (x z : Change) (l : List UInt8) (hl : ∀ c ∈ l, rLetter c.toNat) (hm : rMayAll x l = true) (rest : List UInt8) (hs : x.serial ≤ 9223372036854775807) (hg : x.attr.good)
    (k : Nat) (hk : k ≤ l.length) : rSt l z ⟨rTail x l 0 ++ rest, 0⟩ k = (rTaken x l z k, ⟨rTail x l k ++ rest, 0⟩) := by
  induction k with
  | zero => rfl
  | succ k ih =>
    have hk' : k < l.length := hk
    rw [rSt_succ _ _ _ _ hk', ih (by omega), rTaken_succ _ _ _ _ hk', rTail_next x l k hk', List.append_assoc]
    exact (rTk_back x _ _ (hl _ (List.getElem_mem hk')) _ (rAll_at hm k hk') hs hg).1
theorem rStOk_back (x z : Change) (l : List UInt8) (hl : ∀ c ∈ l, rLetter c.toNat) (hm : rMayAll x l = true) (rest : List UInt8) (hs : x.serial ≤ 9223372036854775807) (hg : x.attr.good)
    (k : Nat) (hk : k < l.length) : rStOk l z ⟨rTail x l 0 ++ rest, 0⟩ k = true := by
  rw [rStOk_at _ _ _ _ hk, rSt_back x z l hl hm rest hs hg k (by omega), rTail_next x l k hk, List.append_assoc]
  exact (rTk_back x change0 _ (hl _ (List.getElem_mem hk)) _ (rAll_at hm k hk) hs hg).2
theorem rOne1_back (x : Change) (h : rOk x = true) (rest : List UInt8) (hs : x.serial ≤ 9223372036854775807) (hg : x.attr.good) : rOne1 ⟨recOne x ++ rest, 0⟩ = (x, ⟨rest, 0⟩) ∧ rOneOk ⟨recOne x ++ rest, 0⟩ := by
  obtain ⟨h1, h2, h3⟩ := rOk_parts h
  have hk := rHas_kind h1
  have e := rU32_back x.kind.toNat (rLaid x (rHas x.kind) (rHas x.kind).length ++ rest) (by omega)
  rw [← List.append_assoc] at e
  have hb : num x.kind.toNat 4 ++ rLaid x (rHas x.kind) (rHas x.kind).length = recOne x := rfl
  rw [hb] at e
  have hkk : ((x.kind.toNat : Nat) : Int) = x.kind := Int.toNat_of_nonneg hk.1
  have e1 : rLets ⟨recOne x ++ rest, 0⟩ = rHas x.kind := by unfold rLets; rw [e]; show rHas (x.kind.toNat : Int) = _; rw [hkk]
  have e2 : rKind ⟨recOne x ++ rest, 0⟩ = { change0 with kind := x.kind } := by unfold rKind; rw [e]; show ({ change0 with kind := (x.kind.toNat : Int) } : Change) = _; rw [hkk]
  have e3 : (rU32 ⟨recOne x ++ rest, 0⟩).2 = ⟨rTail x (rHas x.kind) 0 ++ rest, 0⟩ := by rw [e, rTail_zero]
  have hl : ∀ c ∈ rHas x.kind, rLetter c.toNat := fun c hc => (rHas_letter _ c hc).1
  have hb1 := rSt_back x { change0 with kind := x.kind } _ hl h2 rest hs hg _ (Nat.le_refl _)
  have hb2 := fun k hk => rStOk_back x { change0 with kind := x.kind } _ hl h2 rest hs hg k hk
  rw [rTail_end, List.nil_append, h3] at hb1
  have hone : rOne1 ⟨recOne x ++ rest, 0⟩ = (x, ⟨rest, 0⟩) := by
    unfold rOne1
    rw [e1, e2, e3]; exact hb1
  refine ⟨hone, ?_, by rw [hone]; exact h⟩
  rw [e1, e2, e3]; exact hb2
theorem rSome_back (l : List Change) (h : ∀ x ∈ l, rOk x = true ∧ x.serial ≤ 9223372036854775807 ∧ x.attr.good) (rest : List UInt8) (k : Nat) (hk : k ≤ l.length) :
    rSome ⟨recMany l ++ rest, 0⟩ k = some (l.take k, ⟨recMany (l.drop k) ++ rest, 0⟩) := by
  induction k with
  | zero => rfl
  | succ k ih =>
    have hk' : k < l.length := hk
    obtain ⟨h1, h2, h3⟩ := h _ (List.getElem_mem hk')
    have hd : recMany (l.drop k) = recOne l[k] ++ recMany (l.drop (k + 1)) := by
      unfold recMany; rw [List.drop_eq_getElem_cons hk', List.flatMap_cons]
    have hb := rOne1_back l[k] h1 (recMany (l.drop (k + 1)) ++ rest) h2 h3
    rw [← List.append_assoc, ← hd] at hb
    unfold rSome
    rw [ih (by omega)]
    simp only
    rw [if_pos hb.2, hb.1, take_next _ _ hk']
theorem rGet_back (l : List Change) (hl : l.length ≤ 16) (h : ∀ x ∈ l, rOk x = true ∧ x.serial ≤ 9223372036854775807 ∧ x.attr.good) : rGet (num l.length 4 ++ recMany l) = (l, 0) := by
  have e := rU32_back l.length (recMany l) (by omega)
  have hb := rSome_back l h [] l.length (Nat.le_refl _)
  rw [List.append_nil, List.take_length, List.drop_length] at hb
  unfold rGet
  rw [e]
  simp only [ne_eq, not_true_eq_false, false_or]
  rw [if_neg (by omega), hb]
  rfl
end Go.Proofs.YthfhdighniiodaaDoor

/-
  Layer 17 in plain words: changes that were taken, laid once more, are the record's bytes. Condition: a machine text.
-/
import Derived.Test.YthfhdighniiodaaDoorR25
import Derived.Test.YthfhdighniiodaaDoorR01
import Derived.ProofKit
import Derived.Deep.Slices
import Derived.OpenShut
import Derived.ChangeOld
import Derived.Test.YthfhdighniiodaaDoorProg
import Derived.Test.YthfhdighniiodaaDoorR02
namespace Go.Proofs.YthfhdighniiodaaDoor
open Go.RowKit

theorem rTk_other (c d : Nat) (hc : rLetter c) (hd : rLetter d) (hne : c ≠ d) (z : Change) (r : Rs) : rBytes (rTk c z r).1 d = rBytes z d := by
  have ho : ∀ (z y : Change), z.epoch = y.epoch → z.serial = y.serial → z.up = y.up → z.name = y.name → z.child = y.child → z.attr = y.attr → z.no = y.no → z.slot = y.slot → rBytes z d = rBytes y d := by
    intro z y h1 h2 h3 h4 h5 h6 h7 h8
    unfold rBytes
    rw [h1, h2, h3, h4, h5, h6, h7, h8]
  rcases hc with rfl | rfl | rfl | rfl | rfl | rfl | rfl | rfl
  · rw [rTk_101]; generalize rU32 r = x
    rcases hd with rfl | rfl | rfl | rfl | rfl | rfl | rfl | rfl <;> first | exact absurd rfl hne | rfl
  · rw [rTk_115]; generalize rU64 r = x
    rcases hd with rfl | rfl | rfl | rfl | rfl | rfl | rfl | rfl <;> first | exact absurd rfl hne | rfl
  · rw [rTk_117]; generalize rOpaque 64 r = x
    rcases hd with rfl | rfl | rfl | rfl | rfl | rfl | rfl | rfl <;> first | exact absurd rfl hne | rfl
  · rw [rTk_110]; generalize rOpaque 255 r = x
    rcases hd with rfl | rfl | rfl | rfl | rfl | rfl | rfl | rfl <;> first | exact absurd rfl hne | rfl
  · rw [rTk_99]; generalize rOpaque 64 r = x
    rcases hd with rfl | rfl | rfl | rfl | rfl | rfl | rfl | rfl <;> first | exact absurd rfl hne | rfl
  · rw [rTk_a]; generalize gotR Attr.ok attrZ (rAttr r) = x; generalize (rAttr r).2 = y
    rcases hd with rfl | rfl | rfl | rfl | rfl | rfl | rfl | rfl <;> first | exact absurd rfl hne | rfl
  · rw [rTk_98]; generalize rU32 r = x
    rcases hd with rfl | rfl | rfl | rfl | rfl | rfl | rfl | rfl <;> first | exact absurd rfl hne | rfl
  · rw [rTk_116]; generalize rU32 r = x
    rcases hd with rfl | rfl | rfl | rfl | rfl | rfl | rfl | rfl <;> first | exact absurd rfl hne | rfl
theorem rLaid_congr {x y : Change} {l : List UInt8} {k : Nat} (h : ∀ c ∈ l.take k, rBytes x c.toNat = rBytes y c.toNat) : rLaid x l k = rLaid y l k := by
  unfold rLaid
  generalize l.take k = m at *
  induction m with
  | nil => rfl
  | cons a m ih => rw [List.flatMap_cons, List.flatMap_cons, h a (by simp), ih (fun c hc => h c (by simp [hc]))]
theorem rSt_same (l : List UInt8) (hl : ∀ c ∈ l, rLetter c.toNat) (hn : l.Nodup) (z : Change) (r : Rs) (h0 : r.e = 0) (hok : ∀ k, k < l.length → rStOk l z r k = true) (k : Nat) (hk : k ≤ l.length) :
    r.s = rLaid (rSt l z r k).1 l k ++ (rSt l z r k).2.s ∧ (rSt l z r k).2.e = 0 := by
  induction k with
  | zero => exact ⟨rfl, h0⟩
  | succ k ih =>
    have hk' : k < l.length := hk
    obtain ⟨e1, e2⟩ := ih (by omega)
    have ho := hok k hk'
    rw [rStOk_at _ _ _ _ hk'] at ho
    have hlk := hl _ (List.getElem_mem hk')
    have f1 := rTk_same _ hlk (rSt l z r k).1 e2 ho
    have f2 := (rTkOk_zero _ hlk (rSt l z r k).1 ho).1
    rw [rSt_succ _ _ _ _ hk']
    have hoth : ∀ j (hj : j < k), _ := fun j hj => rTk_other l[k].toNat (l[j]'(by omega)).toNat hlk (hl _ (List.getElem_mem _)) (fun h => (List.pairwise_iff_getElem.1 hn) j k (by omega) hk' hj (UInt8.toNat_inj.1 h).symm) (rSt l z r k).1 (rSt l z r k).2
    generalize rTk l[k].toNat (rSt l z r k).1 (rSt l z r k).2 = y at *
    refine ⟨?_, f2⟩
    rw [rLaid_succ _ _ _ hk', List.append_assoc, ← f1, rLaid_congr (y := (rSt l z r k).1)]
    · exact e1
    · intro c hc
      obtain ⟨j, hj, rfl⟩ := List.getElem_of_mem hc
      have hj2 : j < k := by rw [List.length_take] at hj; omega
      rw [List.getElem_take]
      exact hoth j hj2
theorem rOne_same1 {r : Rs} (hr : r.s.length ≤ 9223372036854775807) (h0 : r.e = 0) (h : rOneOk r) : r.s = recOne (rOne1 r).1 ++ (rOne1 r).2.s := by
  have hend := rOne_e hr h
  have hkd := (rOne1_fit hr).2.1
  obtain ⟨hok, hro⟩ := h
  have hd := (rSt_d (rLets r) (rLets_letter r) (rKind r) (rU32 r).2 hok _ (Nat.le_refl _)).1
  have h1 : (rU32 r).2.e = 0 := dSt_stick (rLets r) (rLets_letter r) (rKind r) (rU32 r).2 (k := 0) (n := (rLets r).length) (Nat.zero_le _) (Nat.le_refl _) (by rw [← hd]; exact hend)
  have e1 := (rU32_same h0 h1).1
  have e2 := (rSt_same (rLets r) (rLets_letter r) (rHas_nodup _) (rKind r) (rU32 r).2 h1 hok _ (Nat.le_refl _)).1
  have hL : rLets r = rHas (rOne1 r).1.kind := by rw [hkd]; rfl
  have hk : (rOne1 r).1.kind.toNat = (rU32 r).1 := by rw [hkd, Int.toNat_natCast]
  have e3 : (rU32 r).2.s = rLaid (rOne1 r).1 (rHas (rOne1 r).1.kind) (rHas (rOne1 r).1.kind).length ++ (rOne1 r).2.s := by rw [← hL]; exact e2
  unfold recOne
  rw [hk, List.append_assoc, ← e3]
  exact e1
theorem rSome_same {r : Rs} (hr : r.s.length ≤ 9223372036854775807) (h0 : r.e = 0) (k : Nat) : ∀ x, rSome r k = some x → r.s = recMany x.1 ++ x.2.s := by
  induction k with
  | zero => intro x h; cases h; rfl
  | succ k ih =>
    intro x h
    unfold rSome at h
    cases hd : rSome r k with
    | none => rw [hd] at h; cases h
    | some y =>
      rw [hd] at h
      simp only at h
      by_cases ho : rOneOk y.2
      · rw [if_pos ho] at h
        cases h
        obtain ⟨f1, f2, f3⟩ := (rSome_d hr h0 k).2 y hd
        have e1 := ih y hd
        have e2 := rOne_same1 f1 f2 ho
        have e3 : recMany (y.1 ++ [(rOne1 y.2).1]) = recMany y.1 ++ recOne (rOne1 y.2).1 := by unfold recMany; rw [List.flatMap_append]; simp
        simp only
        rw [e3, List.append_assoc, ← e2]
        exact e1
      · rw [if_neg ho] at h; cases h
theorem rGet_same {s : List UInt8} (hs : s.length ≤ 9223372036854775807) (h : (rGet s).2 = 0) : s = num (rGet s).1.length 4 ++ recMany (rGet s).1 ∧ (rGet s).1.length ≤ 16 ∧ ∀ c ∈ (rGet s).1, rOk c = true ∧ rFit c := by
  have hr : (rU32 ⟨s, 0⟩).2.s.length ≤ 9223372036854775807 := Nat.le_trans (rU32_len (r := ⟨s, 0⟩) hs) hs
  have hu := fun h1 => (rU32_same (r := ⟨s, 0⟩) rfl h1).1
  unfold rGet at *
  generalize rU32 ⟨s, 0⟩ = y at *
  by_cases hb : y.2.e ≠ 0 ∨ 16 < y.1
  · rw [if_pos hb] at h; cases h
  · rw [if_neg hb] at h ⊢
    have h0 : y.2.e = 0 := Classical.byContradiction fun hc => hb (.inl hc)
    have h16 : ¬ 16 < y.1 := fun hc => hb (.inr hc)
    cases hd : rSome y.2 y.1 with
    | none => rw [hd] at h; cases h
    | some x =>
      rw [hd] at h
      simp only at h ⊢
      by_cases hz : rDone x.2 = 0
      · rw [if_pos hz]
        obtain ⟨f1, f2, f3⟩ := (rSome_d hr h0 y.1).2 x hd
        have e1 := rSome_same hr h0 y.1 x hd
        have e2 := rSome_len hd
        have e3 := (rDone_zero hz).2
        rw [e3, List.append_nil] at e1
        have e4 : s = num y.1 4 ++ y.2.s := hu h0
        refine ⟨by rw [e2, ← e1]; exact e4, (show x.1.length ≤ 16 by omega), f3⟩
      · rw [if_neg hz] at h; cases h
end Go.Proofs.YthfhdighniiodaaDoor

/-
  How what came in is read: a struct's fields, a slice's rows; and the last step of every law's row. No condition.
-/
namespace Go.Proofs.YthfhdighniiodaaDoor
open Go.ChangeShapes Go.WideShapes Go.ChangeAt Go.RowKit Go.Deep

section
variable {H : Type} {enc : TypeId × Value → H} {P : Program} {w : World} {base : Nat} {spare : Nat → Bool} {held : Bool}

/-- one field of a struct that was read: its own cells' reading -/
theorem field_of {t : TypeId} {fs : Array Field} {fuel : Nat} {cs : List Value} {x : DataW H × List MemPlace} (ht : P.underlying t = some (.struct fs)) (h : DataW.trod enc P w base spare held fuel t cs = some x)
    (i : Nat) (f : Field) (hi : fs[i]? = some f) : ∃ n y, DataW.trod enc P w base spare held n f.type ((cs.drop f.offset).take (P.cellsOf f.type)) = some y := by
  obtain ⟨xs, n, _, _, _, hlen, hf⟩ := DataW.trod_struct ht h
  have hi' : i < xs.length := by rw [hlen]; exact (Array.getElem?_eq_some_iff.1 hi).1
  exact ⟨n, xs[i], (hf i f hi).trans (List.getElem?_eq_getElem hi')⟩
theorem len_of {t : TypeId} {fs : Array Field} {fuel : Nat} {cs : List Value} {x : DataW H × List MemPlace} (ht : P.underlying t = some (.struct fs)) (h : DataW.trod enc P w base spare held fuel t cs = some x) : cs.length = P.cellsOf t := by
  obtain ⟨xs, n, _, _, hl, _, _⟩ := DataW.trod_struct ht h
  exact hl
theorem drop_take {α : Type} {cs p : List α} {o k : Nat} (h : (cs.drop o).take k = p) : cs.drop o = p ++ cs.drop (o + k) := by
  rw [← h, ← List.drop_drop, List.take_append_drop]
theorem int_field {t e : TypeId} {fs : Array Field} {fuel : Nat} {cs : List Value} {x : DataW H × List MemPlace} (ht : P.underlying t = some (.struct fs)) (h : DataW.trod enc P w base spare held fuel t cs = some x)
    (i o : Nat) (f : Field) (hi : fs[i]? = some f) (hT : f.type = e) (ho : f.offset = o) (hc : P.cellsOf e = 1) {k : IntKind} (hk : P.underlying e = some (.int k)) : ∃ z, cs.drop o = .int k z :: cs.drop (o + 1) ∧ (Lit.int k z).wf = true := by
  obtain ⟨n, y, hy⟩ := field_of ht h i f hi
  subst hT ho
  rw [hc] at hy
  obtain ⟨z, hz, _, hw⟩ := DataW.trod_int hk hy
  exact ⟨z, drop_take hz, hw⟩
theorem bool_field {t e : TypeId} {fs : Array Field} {fuel : Nat} {cs : List Value} {x : DataW H × List MemPlace} (ht : P.underlying t = some (.struct fs)) (h : DataW.trod enc P w base spare held fuel t cs = some x)
    (i o : Nat) (f : Field) (hi : fs[i]? = some f) (hT : f.type = e) (ho : f.offset = o) (hc : P.cellsOf e = 1) (hk : P.underlying e = some .bool) : ∃ z, cs.drop o = .bool z :: cs.drop (o + 1) := by
  obtain ⟨n, y, hy⟩ := field_of ht h i f hi
  subst hT ho
  rw [hc] at hy
  obtain ⟨z, hz, _⟩ := DataW.trod_bool hk hy
  exact ⟨z, drop_take hz⟩
theorem string_field {t e : TypeId} {fs : Array Field} {fuel : Nat} {cs : List Value} {x : DataW H × List MemPlace} (ht : P.underlying t = some (.struct fs)) (h : DataW.trod enc P w base spare held fuel t cs = some x)
    (i o : Nat) (f : Field) (hi : fs[i]? = some f) (hT : f.type = e) (ho : f.offset = o) (hc : P.cellsOf e = 1) (hk : P.underlying e = some .string) : ∃ z : ByteArray, cs.drop o = .string z :: cs.drop (o + 1) ∧ z.size ≤ maxLen := by
  obtain ⟨n, y, hy⟩ := field_of ht h i f hi
  subst hT ho
  rw [hc] at hy
  obtain ⟨z, hz, _, hm⟩ := DataW.trod_string hk hy
  exact ⟨z, drop_take hz, hm⟩
/-- a struct in a field -/
theorem sub_field {t e : TypeId} {fs : Array Field} {fuel : Nat} {cs : List Value} {x : DataW H × List MemPlace} (ht : P.underlying t = some (.struct fs)) (h : DataW.trod enc P w base spare held fuel t cs = some x)
    (i o k : Nat) (f : Field) (hi : fs[i]? = some f) (hT : f.type = e) (ho : f.offset = o) (hc : P.cellsOf e = k) : ∃ ps m y, cs.drop o = ps ++ cs.drop (o + k) ∧ DataW.trod enc P w base spare held m e ps = some y := by
  obtain ⟨n, y, hy⟩ := field_of ht h i f hi
  subst hT ho
  rw [hc] at hy
  exact ⟨_, n, y, drop_take rfl, hy⟩
/-- a slice's header in a field, and the slice's own reading -/
theorem slice_field {t e el : TypeId} {fs : Array Field} {fuel : Nat} {cs : List Value} {x : DataW H × List MemPlace} (ht : P.underlying t = some (.struct fs)) (h : DataW.trod enc P w base spare held fuel t cs = some x)
    (i o : Nat) (f : Field) (hi : fs[i]? = some f) (hT : f.type = e) (ho : f.offset = o) (hc : P.cellsOf e = 1) (hk : P.underlying e = some (.slice el)) :
    ∃ A n c m y, cs.drop o = .slice A n c :: cs.drop (o + 1) ∧ n ≤ maxLen ∧ DataW.trod enc P w base spare held m e [.slice A n c] = some y := by
  obtain ⟨m, y, hy⟩ := field_of ht h i f hi
  subst hT ho
  rw [hc] at hy
  rcases open_slice hk hy with ⟨hcs, _⟩ | ⟨a, len, cap, _, _, _, _, hcs, _, hl, hm, _⟩
  · rw [hcs] at hy
    exact ⟨none, 0, 0, m, y, drop_take hcs, Nat.zero_le _, hy⟩
  · rw [hcs] at hy
    exact ⟨some a, len, cap, m, y, drop_take hcs, Nat.le_trans hl hm, hy⟩

theorem slice_field_places {t e el : TypeId} {fs : Array Field} {fuel : Nat} {cs : List Value} {x : DataW H × List MemPlace} (ht : P.underlying t = some (.struct fs)) (h : DataW.trod enc P w base spare held fuel t cs = some x)
    (i o : Nat) (f : Field) (hi : fs[i]? = some f) (hT : f.type = e) (ho : f.offset = o) (hc : P.cellsOf e = 1) (hk : P.underlying e = some (.slice el)) :
    ∃ A n c m y, cs.drop o = .slice A n c :: cs.drop (o + 1) ∧ n ≤ maxLen ∧ DataW.trod enc P w base spare held m e [.slice A n c] = some y ∧ ∀ p ∈ y.2, p ∈ x.2 := by
  obtain ⟨xs, m, _, hx, _, hlen, hf⟩ := DataW.trod_struct ht h
  have hi' : i < xs.length := by rw [hlen]; exact (Array.getElem?_eq_some_iff.1 hi).1
  have hy := (hf i f hi).trans (List.getElem?_eq_getElem hi')
  have hpl : ∀ p ∈ xs[i].2, p ∈ x.2 := fun p hp => by rw [hx]; exact List.mem_flatMap.2 ⟨_, List.getElem_mem hi', hp⟩
  subst hT ho
  rw [hc] at hy
  rcases open_slice hk hy with ⟨hcs, _⟩ | ⟨a, len, cap, _, _, _, _, hcs, _, hl, hm, _⟩
  · rw [hcs] at hy
    exact ⟨none, 0, 0, m, _, drop_take hcs, Nat.zero_le _, hy, hpl⟩
  · rw [hcs] at hy
    exact ⟨some a, len, cap, m, _, drop_take hcs, Nat.le_trans hl hm, hy, hpl⟩

theorem slice_len {t e : TypeId} {fuel : Nat} {A : Option Addr} {n c : Nat} {y : DataW H × List MemPlace} (ht : P.underlying t = some (.slice e)) (h : DataW.trod enc P w base spare held fuel t [.slice A n c] = some y) : n ≤ maxLen := by
  rcases open_slice ht h with ⟨hcs, _⟩ | ⟨a, len, cap, _, _, _, _, hcs, _, hl, hm, _⟩
  · simp only [List.cons.injEq, Value.slice.injEq, and_true] at hcs
    obtain ⟨rfl, rfl, rfl⟩ := hcs
    exact Nat.zero_le _
  · simp only [List.cons.injEq, Value.slice.injEq, and_true] at hcs
    obtain ⟨rfl, rfl, rfl⟩ := hcs
    exact Nat.le_trans hl hm
/-- a slice of elements of sz cells, each of which 'op' reads: the rows -/
theorem rows_of {α : Type} [Inhabited α] {t e : TypeId} {fuel : Nat} {A : Option Addr} {n c sz : Nat} {y : DataW H × List MemPlace} (ht : P.underlying t = some (.slice e)) (hc : P.cellsOf e = sz) (h0 : 0 < sz) (vals : α → List Value) (good : α → Prop) (hlt : ∀ p ∈ y.2, p.block < w.heap.size)
    (hop : ∀ (m : Nat) (cs : List Value) (x : DataW H × List MemPlace), (∀ p ∈ x.2, p.block < w.heap.size) → DataW.trod enc P w base spare held m e cs = some x → ∃ a : α, cs = vals a ∧ good a)
    (h : DataW.trod enc P w base spare held fuel t [.slice A n c] = some y) : ∃ l : List α, n = l.length ∧ At w sz A (l.map vals) ∧ ∀ a ∈ l, good a := by
  rcases open_slice ht h with ⟨hcs, _⟩ | ⟨a, len, cap, m, n', D, Pl, hcs, _, hl, hm, hmm, hy, hi⟩
  · simp only [List.cons.injEq, Value.slice.injEq, and_true] at hcs
    obtain ⟨rfl, rfl, rfl⟩ := hcs
    exact ⟨[], rfl, At.nil, fun a ha => by simp at ha⟩
  · simp only [List.cons.injEq, Value.slice.injEq, and_true] at hcs
    obtain ⟨rfl, rfl, rfl⟩ := hcs
    have hle : n ≤ m := by rw [hmm]; split <;> omega
    have hpl : ∀ i, i < m → ∀ p ∈ Pl i, p.block < w.heap.size := fun i hi p hp => hlt p (by
      rw [hy]; exact List.mem_append_right _ (List.mem_flatMap.2 ⟨i, List.mem_range.2 hi, hp⟩))
    obtain ⟨f, hf⟩ := choose_lt (α := α) (n := n) (p := fun i b => w.cells? base (a.add (i * sz)) sz = some (vals b) ∧ good b) (fun i hin => by
      obtain ⟨cs', h1, h2⟩ := hi i (by omega)
      obtain ⟨b, rfl, hg⟩ := hop _ _ _ (hpl i (by omega)) h2
      rw [hc] at h1
      exact ⟨b, h1, hg⟩)
    refine ⟨(List.range n).map f, by simp, ?_, fun b hb => ?_⟩
    · intro i r hr
      simp only [List.map_map, List.getElem?_map, Option.map_eq_some_iff] at hr
      obtain ⟨j, hj, rfl⟩ := hr
      have hj' : i < n ∧ j = i := by
        rcases Nat.lt_or_ge i n with h | h
        · rw [List.getElem?_range h] at hj; exact ⟨h, by simpa using hj.symm⟩
        · rw [List.getElem?_eq_none (by simpa using h)] at hj; cases hj
      obtain ⟨hin, rfl⟩ := hj'
      obtain ⟨h1, _⟩ := hf j hin
      obtain ⟨hb0, hlen, hcell⟩ := World.cells?_some h1
      have hx0 := hcell 0 (by omega)
      obtain ⟨ab, ao, asp⟩ := a
      have hsp : asp = none ∨ 0 < j * sz := by
        rcases Nat.eq_zero_or_pos (j * sz) with h | h
        · left
          rw [h] at hx0
          simp only [Addr.add, if_true] at hx0
          have := World.cell?_spot (hx0.trans (List.getElem?_eq_getElem (by omega)))
          simpa using this
        · exact .inr h
      -- the slice's own address has no spot: its first element shows it
      have hsp0 : asp = none := by
        obtain ⟨h2, _⟩ := hf 0 (by omega)
        obtain ⟨_, hlen2, hcell2⟩ := World.cells?_some h2
        have hx := hcell2 0 (by omega)
        rw [Nat.zero_mul] at hx
        simp only [Addr.add, if_true] at hx
        have := World.cell?_spot (hx.trans (List.getElem?_eq_getElem (by omega)))
        simpa using this
      subst hsp0
      refine ⟨ab, ao, rfl, ?_, fun k u hu => ?_⟩
      · have hx := hx0.trans (List.getElem?_eq_getElem (by omega))
        rw [Addr.add_mid, Addr.add_mid] at hx
        exact block_lt_of_cell hx
      · have hk : k < sz := by rw [← hlen]; exact (List.getElem?_eq_some_iff.1 hu).1
        have := hcell k hk
        rw [Addr.add_mid, Addr.add_mid] at this
        exact this.trans hu
    · obtain ⟨i, hi', rfl⟩ := List.mem_map.1 hb
      exact (hf i (by simpa using hi')).2
end

section
variable {H : Type} {enc : TypeId × Value → H} {P : Program}
theorem trodAll_below (hl : laidOutB P = true) {W W' : World} (hb : Below W.heap.size W W') : ∀ {ts : List TypeId} {vs : List Value} {ds : List (DataW H)} {ps : List MemPlace}, (∀ t ∈ ts, P.readableRec t = true ∧ t < P.types.size) →
    DataW.TrodAll enc P W 0 (fun _ => true) true ts vs ds ps → DataW.TrodAll enc P W' 0 (fun b => decide (b < W.heap.size)) true ts vs ds ps := by
  intro ts
  induction ts with
  | nil =>
    intro vs ds ps _ h
    obtain ⟨rfl, rfl, rfl⟩ := trodAll_nil h
    exact trodAll_mk0
  | cons t ts ih =>
    intro vs ds ps ht h
    obtain ⟨v, vs', d, ds', p, q, rfl, rfl, rfl, h1, h2⟩ := trodAll_cons h
    have hr := ht t (by simp)
    have lt1 : ∀ x ∈ p, x.block < W.heap.size := by obtain ⟨m, hm⟩ := h1; exact DataW.trod_lt m _ _ _ hm
    exact trodAll_cons_mk (Below.trod hl hr.1 hr.2 h1 hb lt1) (ih (fun x hx => ht x (by simp [hx])) h2)
/-- THE LAST STEP OF EVERY LAW: true was returned, all that was there is as it was -/
theorem law_post {f : Func} {s : ChangeSpec} {W W' : World} {args : Array Value} {ds gs : List (DataW H)} {before : List MemPlace} {tb : TypeId} (hl : laidOutB P = true) (hv : s.vars = [])
    (hW : DataW.Whole enc P f.params.toList s.vars false W args.toList ds gs before) (ht : ∀ t ∈ f.params.toList, P.readableRec t = true ∧ t < P.types.size) (hb : Below W.heap.size W W')
    (hrt : f.resultTypes = #[tb]) (htb : P.underlying tb = some .bool) (hr : (s.fn H (ds ++ gs)).results = [.lit (.bool true)]) (ha : (s.fn H (ds ++ gs)).args = ds) (hvs : (s.fn H (ds ++ gs)).vars = []) :
    s.post enc P f false true false false W args (.bool true) W' := by
  have hW' := hW
  obtain ⟨p, q, hA, hV, rfl, hfz, hnd⟩ := hW
  refine ⟨ds, gs, p ++ q, [], p, [], hW', ?_, ?_, ?_, hb.frame _, fun h => by cases h⟩
  · rw [hr, hrt]; exact trodAll_mk1 (shut_bool htb _)
  · rw [ha]; exact trodAll_below hl hb ht hA
  · rw [hvs, hv]; rfl
end
end Go.Proofs.YthfhdighniiodaaDoor


/-
  How attributes, and what is to be set, that came in are read (written by wip/tools/structs.py). No condition.
-/
namespace Go.Proofs.YthfhdighniiodaaDoor
open Go.ChangeShapes Go.WideShapes Go.ChangeAt Go.RowKit Go.Deep
section
variable {H : Type} {enc : TypeId × Value → H} {w : World} {base : Nat} {spare : Nat → Bool} {held : Bool} {fuel : Nat} {cs : List Value} {x : DataW H × List MemPlace}

theorem open_Attr (h : DataW.trod enc Tryd.prog w base spare held fuel 42 cs = some x) : ∃ a : Attr, cs = a.vals ∧ a.good := by
  have hl : cs.length = 10 := (len_of Tryd.underlying42 h).trans (by kernel_rfl)
  obtain ⟨z0, h0, g0⟩ := int_field Tryd.underlying42 h 0 0 _ rfl (e := 3) rfl rfl (by kernel_rfl) Tryd.underlying3
  obtain ⟨z1, h1, g1⟩ := int_field Tryd.underlying42 h 1 1 _ rfl (e := 3) rfl rfl (by kernel_rfl) Tryd.underlying3
  obtain ⟨z2, h2, g2⟩ := int_field Tryd.underlying42 h 2 2 _ rfl (e := 3) rfl rfl (by kernel_rfl) Tryd.underlying3
  obtain ⟨z3, h3, g3⟩ := int_field Tryd.underlying42 h 3 3 _ rfl (e := 3) rfl rfl (by kernel_rfl) Tryd.underlying3
  obtain ⟨z4, h4, g4⟩ := int_field Tryd.underlying42 h 4 4 _ rfl (e := 3) rfl rfl (by kernel_rfl) Tryd.underlying3
  obtain ⟨z5, h5, g5⟩ := int_field Tryd.underlying42 h 5 5 _ rfl (e := 3) rfl rfl (by kernel_rfl) Tryd.underlying3
  obtain ⟨z6, h6, g6⟩ := int_field Tryd.underlying42 h 6 6 _ rfl (e := 3) rfl rfl (by kernel_rfl) Tryd.underlying3
  obtain ⟨z7, h7, g7⟩ := int_field Tryd.underlying42 h 7 7 _ rfl (e := 3) rfl rfl (by kernel_rfl) Tryd.underlying3
  obtain ⟨z8, h8, g8⟩ := int_field Tryd.underlying42 h 8 8 _ rfl (e := 3) rfl rfl (by kernel_rfl) Tryd.underlying3
  obtain ⟨z9, h9, g9⟩ := int_field Tryd.underlying42 h 9 9 _ rfl (e := 3) rfl rfl (by kernel_rfl) Tryd.underlying3
  have hend : cs.drop 10 = [] := List.drop_of_length_le (by omega)
  have e : cs = cs.drop 0 := rfl
  simp only [Nat.reduceAdd] at h0 h1 h2 h3 h4 h5 h6 h7 h8 h9
  refine ⟨⟨z0, z1, z2, z3, z4, z5, z6, z7, z8, z9⟩, e.trans ?_, ⟨g0, g1, g2, g3, g4, g5, g6, g7, g8, g9⟩⟩
  rw [h0, h1, h2, h3, h4, h5, h6, h7, h8, h9, hend]
  rfl

theorem open_Opt (h : DataW.trod enc Tryd.prog w base spare held fuel 53 cs = some x) : ∃ a : Opt, cs = a.vals ∧ a.good := by
  have hl : cs.length = 2 := (len_of Tryd.underlying53 h).trans (by kernel_rfl)
  obtain ⟨z0, h0⟩ := bool_field Tryd.underlying53 h 0 0 _ rfl (e := 4) rfl rfl (by kernel_rfl) Tryd.underlying4
  obtain ⟨z1, h1, g1⟩ := int_field Tryd.underlying53 h 1 1 _ rfl (e := 3) rfl rfl (by kernel_rfl) Tryd.underlying3
  have hend : cs.drop 2 = [] := List.drop_of_length_le (by omega)
  have e : cs = cs.drop 0 := rfl
  simp only [Nat.reduceAdd] at h0 h1
  refine ⟨⟨z0, z1⟩, e.trans ?_, g1⟩
  rw [h0, h1, hend]
  rfl

theorem open_Sett (h : DataW.trod enc Tryd.prog w base spare held fuel 55 cs = some x) : ∃ a : Sett, cs = a.vals ∧ a.good := by
  have hl : cs.length = 10 := (len_of Tryd.underlying55 h).trans (by kernel_rfl)
  obtain ⟨ps0, m0, y0, h0, hs0⟩ := sub_field Tryd.underlying55 h 0 0 2 _ rfl (e := 53) rfl rfl (by kernel_rfl)
  obtain ⟨z0, rfl, g0⟩ := open_Opt hs0
  obtain ⟨ps1, m1, y1, h1, hs1⟩ := sub_field Tryd.underlying55 h 1 2 2 _ rfl (e := 53) rfl rfl (by kernel_rfl)
  obtain ⟨z1, rfl, g1⟩ := open_Opt hs1
  obtain ⟨ps2, m2, y2, h2, hs2⟩ := sub_field Tryd.underlying55 h 2 4 2 _ rfl (e := 53) rfl rfl (by kernel_rfl)
  obtain ⟨z2, rfl, g2⟩ := open_Opt hs2
  obtain ⟨ps3, m3, y3, h3, hs3⟩ := sub_field Tryd.underlying55 h 3 6 2 _ rfl (e := 53) rfl rfl (by kernel_rfl)
  obtain ⟨z3, rfl, g3⟩ := open_Opt hs3
  obtain ⟨ps4, m4, y4, h4, hs4⟩ := sub_field Tryd.underlying55 h 4 8 2 _ rfl (e := 53) rfl rfl (by kernel_rfl)
  obtain ⟨z4, rfl, g4⟩ := open_Opt hs4
  have hend : cs.drop 10 = [] := List.drop_of_length_le (by omega)
  have e : cs = cs.drop 0 := rfl
  simp only [Nat.reduceAdd] at h0 h1 h2 h3 h4
  refine ⟨⟨z0, z1, z2, z3, z4⟩, e.trans ?_, ⟨g0, g1, g2, g3, g4⟩⟩
  rw [h0, h1, h2, h3, h4, hend]
  rfl

end
end Go.Proofs.YthfhdighniiodaaDoor

/-
  How what came in is read: a struct's fields, a slice's rows; and the last step of every law's row. No condition.
-/
import Derived.Test.YtapcjojlkeaadaaGreatDoorP01
import Derived.ProofKit
import Derived.Deep.Slices
import Derived.OpenShut
import Derived.ChangeOld
namespace Go.Proofs.YtapcjojlkeaadaaGreatDoor
open Go.ChangeShapes Go.WideShapes Go.ChangeAt Go.RowKit Go.Deep

section
variable {H : Type} {enc : TypeId × Value → H} {P : Program} {w : World} {base : Nat} {spare : Nat → Bool} {held : Bool}

/-- one field of a struct that was read: its own cells' reading -/
theorem field_of {t : TypeId} {fs : Array Field} {fuel : Nat} {cs : List Value} {x : DataW H × List MemPlace} (ht : P.underlying t = some (.struct fs)) (h : DataW.trod enc P w base spare held fuel t cs = some x)
    (i : Nat) (f : Field) (hi : fs[i]? = some f) : ∃ n y, DataW.trod enc P w base spare held n f.type ((cs.drop f.offset).take (P.cellsOf f.type)) = some y := by
  obtain ⟨xs, n, _, _, _, hlen, hf⟩ := DataW.trod_struct ht h
  have hi' : i < xs.length := by rw [hlen]; exact (Array.getElem?_eq_some_iff.1 hi).1
  exact ⟨n, xs[i], (hf i f hi).trans (List.getElem?_eq_getElem hi')⟩
theorem len_of {t : TypeId} {fs : Array Field} {fuel : Nat} {cs : List Value} {x : DataW H × List MemPlace} (ht : P.underlying t = some (.struct fs)) (h : DataW.trod enc P w base spare held fuel t cs = some x) : cs.length = P.cellsOf t := by
  obtain ⟨xs, n, _, _, hl, _, _⟩ := DataW.trod_struct ht h
  exact hl
theorem drop_take {α : Type} {cs p : List α} {o k : Nat} (h : (cs.drop o).take k = p) : cs.drop o = p ++ cs.drop (o + k) := by
  rw [← h, ← List.drop_drop, List.take_append_drop]
theorem int_field {t e : TypeId} {fs : Array Field} {fuel : Nat} {cs : List Value} {x : DataW H × List MemPlace} (ht : P.underlying t = some (.struct fs)) (h : DataW.trod enc P w base spare held fuel t cs = some x)
    (i o : Nat) (f : Field) (hi : fs[i]? = some f) (hT : f.type = e) (ho : f.offset = o) (hc : P.cellsOf e = 1) {k : IntKind} (hk : P.underlying e = some (.int k)) : ∃ z, cs.drop o = .int k z :: cs.drop (o + 1) ∧ (Lit.int k z).wf = true := by
  obtain ⟨n, y, hy⟩ := field_of ht h i f hi
  subst hT ho
  rw [hc] at hy
  obtain ⟨z, hz, _, hw⟩ := DataW.trod_int hk hy
  exact ⟨z, drop_take hz, hw⟩
theorem bool_field {t e : TypeId} {fs : Array Field} {fuel : Nat} {cs : List Value} {x : DataW H × List MemPlace} (ht : P.underlying t = some (.struct fs)) (h : DataW.trod enc P w base spare held fuel t cs = some x)
    (i o : Nat) (f : Field) (hi : fs[i]? = some f) (hT : f.type = e) (ho : f.offset = o) (hc : P.cellsOf e = 1) (hk : P.underlying e = some .bool) : ∃ z, cs.drop o = .bool z :: cs.drop (o + 1) := by
  obtain ⟨n, y, hy⟩ := field_of ht h i f hi
  subst hT ho
  rw [hc] at hy
  obtain ⟨z, hz, _⟩ := DataW.trod_bool hk hy
  exact ⟨z, drop_take hz⟩
theorem string_field {t e : TypeId} {fs : Array Field} {fuel : Nat} {cs : List Value} {x : DataW H × List MemPlace} (ht : P.underlying t = some (.struct fs)) (h : DataW.trod enc P w base spare held fuel t cs = some x)
    (i o : Nat) (f : Field) (hi : fs[i]? = some f) (hT : f.type = e) (ho : f.offset = o) (hc : P.cellsOf e = 1) (hk : P.underlying e = some .string) : ∃ z : ByteArray, cs.drop o = .string z :: cs.drop (o + 1) ∧ z.size ≤ maxLen := by
  obtain ⟨n, y, hy⟩ := field_of ht h i f hi
  subst hT ho
  rw [hc] at hy
  obtain ⟨z, hz, _, hm⟩ := DataW.trod_string hk hy
  exact ⟨z, drop_take hz, hm⟩
/-- a struct in a field -/
theorem sub_field {t e : TypeId} {fs : Array Field} {fuel : Nat} {cs : List Value} {x : DataW H × List MemPlace} (ht : P.underlying t = some (.struct fs)) (h : DataW.trod enc P w base spare held fuel t cs = some x)
    (i o k : Nat) (f : Field) (hi : fs[i]? = some f) (hT : f.type = e) (ho : f.offset = o) (hc : P.cellsOf e = k) : ∃ ps m y, cs.drop o = ps ++ cs.drop (o + k) ∧ DataW.trod enc P w base spare held m e ps = some y := by
  obtain ⟨n, y, hy⟩ := field_of ht h i f hi
  subst hT ho
  rw [hc] at hy
  exact ⟨_, n, y, drop_take rfl, hy⟩
/-- a slice's header in a field, and the slice's own reading -/
theorem slice_field {t e el : TypeId} {fs : Array Field} {fuel : Nat} {cs : List Value} {x : DataW H × List MemPlace} (ht : P.underlying t = some (.struct fs)) (h : DataW.trod enc P w base spare held fuel t cs = some x)
    (i o : Nat) (f : Field) (hi : fs[i]? = some f) (hT : f.type = e) (ho : f.offset = o) (hc : P.cellsOf e = 1) (hk : P.underlying e = some (.slice el)) :
    ∃ A n c m y, cs.drop o = .slice A n c :: cs.drop (o + 1) ∧ n ≤ maxLen ∧ DataW.trod enc P w base spare held m e [.slice A n c] = some y := by
  obtain ⟨m, y, hy⟩ := field_of ht h i f hi
  subst hT ho
  rw [hc] at hy
  rcases open_slice hk hy with ⟨hcs, _⟩ | ⟨a, len, cap, _, _, _, _, hcs, _, hl, hm, _⟩
  · rw [hcs] at hy
    exact ⟨none, 0, 0, m, y, drop_take hcs, Nat.zero_le _, hy⟩
  · rw [hcs] at hy
    exact ⟨some a, len, cap, m, y, drop_take hcs, Nat.le_trans hl hm, hy⟩

theorem slice_field_places {t e el : TypeId} {fs : Array Field} {fuel : Nat} {cs : List Value} {x : DataW H × List MemPlace} (ht : P.underlying t = some (.struct fs)) (h : DataW.trod enc P w base spare held fuel t cs = some x)
    (i o : Nat) (f : Field) (hi : fs[i]? = some f) (hT : f.type = e) (ho : f.offset = o) (hc : P.cellsOf e = 1) (hk : P.underlying e = some (.slice el)) :
    ∃ A n c m y, cs.drop o = .slice A n c :: cs.drop (o + 1) ∧ n ≤ maxLen ∧ DataW.trod enc P w base spare held m e [.slice A n c] = some y ∧ ∀ p ∈ y.2, p ∈ x.2 := by
  obtain ⟨xs, m, _, hx, _, hlen, hf⟩ := DataW.trod_struct ht h
  have hi' : i < xs.length := by rw [hlen]; exact (Array.getElem?_eq_some_iff.1 hi).1
  have hy := (hf i f hi).trans (List.getElem?_eq_getElem hi')
  have hpl : ∀ p ∈ xs[i].2, p ∈ x.2 := fun p hp => by rw [hx]; exact List.mem_flatMap.2 ⟨_, List.getElem_mem hi', hp⟩
  subst hT ho
  rw [hc] at hy
  rcases open_slice hk hy with ⟨hcs, _⟩ | ⟨a, len, cap, _, _, _, _, hcs, _, hl, hm, _⟩
  · rw [hcs] at hy
    exact ⟨none, 0, 0, m, _, drop_take hcs, Nat.zero_le _, hy, hpl⟩
  · rw [hcs] at hy
    exact ⟨some a, len, cap, m, _, drop_take hcs, Nat.le_trans hl hm, hy, hpl⟩

theorem slice_len {t e : TypeId} {fuel : Nat} {A : Option Addr} {n c : Nat} {y : DataW H × List MemPlace} (ht : P.underlying t = some (.slice e)) (h : DataW.trod enc P w base spare held fuel t [.slice A n c] = some y) : n ≤ maxLen := by
  rcases open_slice ht h with ⟨hcs, _⟩ | ⟨a, len, cap, _, _, _, _, hcs, _, hl, hm, _⟩
  · simp only [List.cons.injEq, Value.slice.injEq, and_true] at hcs
    obtain ⟨rfl, rfl, rfl⟩ := hcs
    exact Nat.zero_le _
  · simp only [List.cons.injEq, Value.slice.injEq, and_true] at hcs
    obtain ⟨rfl, rfl, rfl⟩ := hcs
    exact Nat.le_trans hl hm
/-- a slice of elements of sz cells, each of which 'op' reads: the rows -/
theorem rows_of {α : Type} [Inhabited α] {t e : TypeId} {fuel : Nat} {A : Option Addr} {n c sz : Nat} {y : DataW H × List MemPlace} (ht : P.underlying t = some (.slice e)) (hc : P.cellsOf e = sz) (h0 : 0 < sz) (vals : α → List Value) (good : α → Prop) (hlt : ∀ p ∈ y.2, p.block < w.heap.size)
    (hop : ∀ (m : Nat) (cs : List Value) (x : DataW H × List MemPlace), (∀ p ∈ x.2, p.block < w.heap.size) → DataW.trod enc P w base spare held m e cs = some x → ∃ a : α, cs = vals a ∧ good a)
    (h : DataW.trod enc P w base spare held fuel t [.slice A n c] = some y) : ∃ l : List α, n = l.length ∧ At w sz A (l.map vals) ∧ ∀ a ∈ l, good a := by
  rcases open_slice ht h with ⟨hcs, _⟩ | ⟨a, len, cap, m, n', D, Pl, hcs, _, hl, hm, hmm, hy, hi⟩
  · simp only [List.cons.injEq, Value.slice.injEq, and_true] at hcs
    obtain ⟨rfl, rfl, rfl⟩ := hcs
    exact ⟨[], rfl, At.nil, fun a ha => by simp at ha⟩
  · simp only [List.cons.injEq, Value.slice.injEq, and_true] at hcs
    obtain ⟨rfl, rfl, rfl⟩ := hcs
    have hle : n ≤ m := by rw [hmm]; split <;> omega
    have hpl : ∀ i, i < m → ∀ p ∈ Pl i, p.block < w.heap.size := fun i hi p hp => hlt p (by
      rw [hy]; exact List.mem_append_right _ (List.mem_flatMap.2 ⟨i, List.mem_range.2 hi, hp⟩))
    obtain ⟨f, hf⟩ := choose_lt (α := α) (n := n) (p := fun i b => w.cells? base (a.add (i * sz)) sz = some (vals b) ∧ good b) (fun i hin => by
      obtain ⟨cs', h1, h2⟩ := hi i (by omega)
      obtain ⟨b, rfl, hg⟩ := hop _ _ _ (hpl i (by omega)) h2
      rw [hc] at h1
      exact ⟨b, h1, hg⟩)
    refine ⟨(List.range n).map f, by simp, ?_, fun b hb => ?_⟩
    · intro i r hr
      simp only [List.map_map, List.getElem?_map, Option.map_eq_some_iff] at hr
      obtain ⟨j, hj, rfl⟩ := hr
      have hj' : i < n ∧ j = i := by
        rcases Nat.lt_or_ge i n with h | h
        · rw [List.getElem?_range h] at hj; exact ⟨h, by simpa using hj.symm⟩
        · rw [List.getElem?_eq_none (by simpa using h)] at hj; cases hj
      obtain ⟨hin, rfl⟩ := hj'
      obtain ⟨h1, _⟩ := hf j hin
      obtain ⟨hb0, hlen, hcell⟩ := World.cells?_some h1
      have hx0 := hcell 0 (by omega)
      obtain ⟨ab, ao, asp⟩ := a
      have hsp : asp = none ∨ 0 < j * sz := by
        rcases Nat.eq_zero_or_pos (j * sz) with h | h
        · left
          rw [h] at hx0
          simp only [Addr.add, if_true] at hx0
          have := World.cell?_spot (hx0.trans (List.getElem?_eq_getElem (by omega)))
          simpa using this
        · exact .inr h
      -- the slice's own address has no spot: its first element shows it
      have hsp0 : asp = none := by
        obtain ⟨h2, _⟩ := hf 0 (by omega)
        obtain ⟨_, hlen2, hcell2⟩ := World.cells?_some h2
        have hx := hcell2 0 (by omega)
        rw [Nat.zero_mul] at hx
        simp only [Addr.add, if_true] at hx
        have := World.cell?_spot (hx.trans (List.getElem?_eq_getElem (by omega)))
        simpa using this
      subst hsp0
      refine ⟨ab, ao, rfl, ?_, fun k u hu => ?_⟩
      · have hx := hx0.trans (List.getElem?_eq_getElem (by omega))
        rw [Addr.add_mid, Addr.add_mid] at hx
        exact block_lt_of_cell hx
      · have hk : k < sz := by rw [← hlen]; exact (List.getElem?_eq_some_iff.1 hu).1
        have := hcell k hk
        rw [Addr.add_mid, Addr.add_mid] at this
        exact this.trans hu
    · obtain ⟨i, hi', rfl⟩ := List.mem_map.1 hb
      exact (hf i (by simpa using hi')).2
end

section
variable {H : Type} {enc : TypeId × Value → H} {P : Program}
theorem trodAll_below (hl : laidOutB P = true) {W W' : World} (hb : Below W.heap.size W W') : ∀ {ts : List TypeId} {vs : List Value} {ds : List (DataW H)} {ps : List MemPlace}, (∀ t ∈ ts, P.readableRec t = true ∧ t < P.types.size) →
    DataW.TrodAll enc P W 0 (fun _ => true) true ts vs ds ps → DataW.TrodAll enc P W' 0 (fun b => decide (b < W.heap.size)) true ts vs ds ps := by
  intro ts
  induction ts with
  | nil =>
    intro vs ds ps _ h
    obtain ⟨rfl, rfl, rfl⟩ := trodAll_nil h
    exact trodAll_mk0
  | cons t ts ih =>
    intro vs ds ps ht h
    obtain ⟨v, vs', d, ds', p, q, rfl, rfl, rfl, h1, h2⟩ := trodAll_cons h
    have hr := ht t (by simp)
    have lt1 : ∀ x ∈ p, x.block < W.heap.size := by obtain ⟨m, hm⟩ := h1; exact DataW.trod_lt m _ _ _ hm
    exact trodAll_cons_mk (Below.trod hl hr.1 hr.2 h1 hb lt1) (ih (fun x hx => ht x (by simp [hx])) h2)
/-- THE LAST STEP OF EVERY LAW: true was returned, all that was there is as it was -/
theorem law_post {f : Func} {s : ChangeSpec} {W W' : World} {args : Array Value} {ds gs : List (DataW H)} {before : List MemPlace} {tb : TypeId} (hl : laidOutB P = true) (hv : s.vars = [])
    (hW : DataW.Whole enc P f.params.toList s.vars false W args.toList ds gs before) (ht : ∀ t ∈ f.params.toList, P.readableRec t = true ∧ t < P.types.size) (hb : Below W.heap.size W W')
    (hrt : f.resultTypes = #[tb]) (htb : P.underlying tb = some .bool) (hr : (s.fn H (ds ++ gs)).results = [.lit (.bool true)]) (ha : (s.fn H (ds ++ gs)).args = ds) (hvs : (s.fn H (ds ++ gs)).vars = []) :
    s.post enc P f false true false false W args (.bool true) W' := by
  have hW' := hW
  obtain ⟨p, q, hA, hV, rfl, hfz, hnd⟩ := hW
  refine ⟨ds, gs, p ++ q, [], p, [], hW', ?_, ?_, ?_, hb.frame _, fun h => by cases h⟩
  · rw [hr, hrt]; exact trodAll_mk1 (shut_bool htb _)
  · rw [ha]; exact trodAll_below hl hb ht hA
  · rw [hvs, hv]; rfl
end
end Go.Proofs.YtapcjojlkeaadaaGreatDoor

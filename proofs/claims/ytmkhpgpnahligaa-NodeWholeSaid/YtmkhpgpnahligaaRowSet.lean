/-
  A row of structs of the call's own: one of them is stored anew; some are cleared. Conditions: sizes.
-/
import Derived.Test.YtmkhpgpnahligaaRowS
import Derived.Lib.SliceRun
namespace Go.Proofs.Ytmkhpgpnahligaa
open Go.RowKit

theorem size_setCells_ (b : Nat) : ∀ (vs : List Value) (o : Nat) (w : World), (w.setCells b o vs).heap.size = w.heap.size
  | [], _, _ => rfl
  | v :: vs, o, w => by rw [World.setCells, size_setCells_ b vs]; simp [World.setCell]
theorem setAt_mid : ∀ (r m a b : List Value), m.length = r.length → setAt (a ++ (m ++ b)) a.length r = a ++ (r ++ b)
  | [], m, a, b, h => by
    obtain rfl : m = [] := List.eq_nil_of_length_eq_zero h
    rfl
  | c :: r, [], a, b, h => by simp at h
  | c :: r, x :: m, a, b, h => by
    rw [setAt]
    have e : (a ++ (x :: m ++ b)).set a.length c = (a ++ [c]) ++ (m ++ b) := by simp
    rw [e]
    have := setAt_mid r m (a ++ [c]) b (by simpa using h)
    rw [List.length_append, List.length_singleton] at this
    rw [this]
    simp
theorem Touch.setRow {F : Nat → Prop} {g : Nat} (hg : F g) : ∀ (cs : List Value) (o : Nat) {a b : World}, Touch F a b → Touch F a (b.setCells g o cs)
  | [], _, _, _, h => h
  | c :: cs, o, _, _, h => by
    rw [World.setCells]
    exact Touch.setRow hg cs (o + 1) (h.setCell (.inl hg) c)
section
variable {w w' : World} {B : Nat} {e : TypeId} {sz : Nat}
theorem ownsRow_sets {base size n g cap : Nat} : ∀ (cs xs : List Value) (o : Nat) {w : World}, w.ownsRow base e size (.slice (some ⟨g, 0, none⟩) n cap) n xs → (w.setCells g o cs).ownsRow base e size (.slice (some ⟨g, 0, none⟩) n cap) n (setAt xs o cs)
  | [], _, _, _, h => h
  | c :: cs, xs, o, _, h => by
    rw [World.setCells, setAt]
    exact ownsRow_sets cs _ (o + 1) (h.stored o c).1
/-- one row is stored anew -/
theorem RowS.put {g n cap : Nat} {pre post : List (List Value)} {m r : List Value} (h : RowS w B e sz (.slice (some ⟨g, 0, none⟩) n cap) (pre ++ m :: post)) (hr : r.length = sz) (hn : n = (pre ++ m :: post).length) :
    RowS (w.setCells g (pre.length * sz) r) B e sz (.slice (some ⟨g, 0, none⟩) n cap) (pre ++ r :: post) := by
  obtain ⟨hl, hown⟩ := h
  have hm : m.length = sz := hl m (by simp)
  have hlp : ∀ q ∈ pre, q.length = sz := fun q hq => hl q (by simp [hq])
  have hpl : pre.flatten.length = pre.length * sz := by
    clear hown hl hn
    induction pre with
    | nil => simp
    | cons q pre ih =>
      rw [List.flatten_cons, List.length_append, hlp q (by simp), ih (fun q hq => hlp q (List.mem_cons_of_mem _ hq)), List.length_cons, Nat.succ_mul]
      omega
  refine ⟨fun q hq => ?_, ?_⟩
  · rcases List.mem_append.1 hq with hq | hq
    · exact hlp q hq
    · rcases List.mem_cons.1 hq with rfl | hq
      · exact hr
      · exact hl q (by simp [hq])
  · rw [← hn] at hown
    have := ownsRow_sets r _ (pre.length * sz) hown
    have e1 : (pre ++ r :: post).length = n := by rw [hn]; simp
    have e2 : setAt (pre ++ m :: post).flatten (pre.length * sz) r = (pre ++ r :: post).flatten := by
      rw [List.flatten_append, List.flatten_cons, ← hpl, setAt_mid r m _ _ (by omega), List.flatten_append, List.flatten_cons]
    rw [e2] at this
    rw [e1]
    exact this
/-- rows ahead of a place stay, whatever is stored from there on -/
theorem At.prefix_ {g : Nat} {pre post : List (List Value)} (h : At w sz (some ⟨g, 0, none⟩) (pre ++ post)) (hl : ∀ r ∈ pre, r.length = sz) (cs : List Value) : At (w.setCells g (pre.length * sz) cs) sz (some ⟨g, 0, none⟩) pre := by
  intro i r hi
  have hip : i < pre.length := (List.getElem?_eq_some_iff.1 hi).1
  have hi2 : (pre ++ post)[i]? = some r := by rw [List.getElem?_append_left hip]; exact hi
  obtain ⟨b, off, hA, hb, hc⟩ := h i r hi2
  injection hA with hA
  injection hA with hg ho _
  subst hg ho
  refine ⟨g, 0, rfl, by rw [size_setCells_]; exact hb, fun j u hj => ?_⟩
  have hjl : j < r.length := (List.getElem?_eq_some_iff.1 hj).1
  rw [hl r (List.mem_of_getElem? hi)] at hjl
  have hlt : i * sz + j < pre.length * sz := by
    have : (i + 1) * sz ≤ pre.length * sz := Nat.mul_le_mul_right _ hip
    rw [Nat.succ_mul] at this
    omega
  rw [World.cell?_setCells_out g cs _ w _ (fun _ _ => .inl (by show 0 + i * sz + j < _; omega))]
  exact hc j u hj
variable {P : Program}
/-- a struct is stored where cells lie -/
theorem wpList_store_there {ops : Array Oper} {rest : List Oper} {op : Oper} {a : Act} {w : World} {Q : Exit → Act → World → Prop} (hgd : op.guard = none) (T : TypeId) (x y : Operand) (ho : op.op = .store T x y)
    (b o : Nat) (cs : List Value) (ht : w.there b o cs.length) (hx : a.eval x = .pointer (some ⟨b, o, none⟩)) (hy : a.eval y = .agg cs.toArray) (hi : (P.info? T).map (·.size) = some cs.length)
    (h1 : ∀ v ∈ cs, v.oneCell' = true) (h : wpList P ops Q rest (a.put op.dst undef) (w.setCells b o cs)) : wpList P ops Q (op :: rest) a w :=
  wpList_store_mid hgd T x y ho b o cs.toArray hx hy (by simpa using ht) (by simpa using hi) (all_oneCell_toArray h1) (by simpa using h)
/-- 'clear(s)' of n > 0 elements of sz cells each -/
theorem run_clear_rows (w : World) (t e ty : TypeId) (z : Value) (ht : P.underlying t = some (.slice e)) (hv : ∀ w, (zeroValue e).run P w = .ok z w) (hz : z.cells.size = sz) (h0 : 0 < sz) (h1 : ∀ u ∈ z.cells.toList, u.oneCell' = true) (b o n c : Nat) (hn : 0 < n)
    (hc : ∀ j, j < n * sz → (w.cell? ⟨b, o + j, none⟩).isSome = true) (hf : ∀ j, j < n * sz → w.frozen? ⟨b, o + j, none⟩ = false) :
    (Builtin.clear_ #[t] ty #[.slice (some ⟨b, o, none⟩) n c]).run P w = .ok (.tuple #[]) (w.setCells b o (Builtin.zeroCells z.cells n).toList) := by
  have hl : (Builtin.zeroCells z.cells n).toList.length = n * sz := by rw [Array.length_toList, size_zeroCells, hz]
  have hst := run_storeCells_cells (P := P) b o (Builtin.zeroCells z.cells n).toList 0 w (by rw [hl]; simpa using hc) (by rw [hl]; simpa using hf) (by
    intro v hv'
    simp only [Builtin.zeroCells, Array.toList_map, List.mem_map] at hv'
    obtain ⟨i, hi, rfl⟩ := hv'
    have hlt : i % z.cells.size < z.cells.size := Nat.mod_lt _ (by omega)
    rw [getElem!_pos z.cells _ hlt]
    exact h1 _ (by simp))
  simp only [Nat.add_zero] at hst
  obtain ⟨m, rfl⟩ : ∃ m, n = m + 1 := ⟨n - 1, by omega⟩
  simp [Builtin.clear_, run_underlying ht, hv, hst]
end
end Go.Proofs.Ytmkhpgpnahligaa

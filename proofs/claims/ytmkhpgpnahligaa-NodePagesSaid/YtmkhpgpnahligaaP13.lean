/-
  A row of structs of the call's own: one of them is stored anew; some are cleared. Conditions: sizes.
-/
import Derived.Test.YtmkhpgpnahligaaP12
import Derived.Lib.SliceRun
namespace Go.Proofs.Ytmkhpgpnahligaa
open Go.RowKit

theorem size_setCells_ (b : Nat) : ∀ (vs : List Value) (o : Nat) (w : World), (w.setCells b o vs).heap.size = w.heap.size
  | [], _, _ => rfl
  | v :: vs, o, w => by rw [World.setCells, size_setCells_ b vs]; simp [World.setCell]
theorem setAt_mid : ∀ (r m a b : List Value), m.length = r.length → setAt (a ++ (m ++ b)) a.length r = a ++ (r ++ b)
  | [], m, a, b, h => by
    obtain rfl : m = [] := List.eq_nil_of_length_eq_zero h
    rfl
  | c :: r, [], a, b, h => by simp at h
  | c :: r, x :: m, a, b, h => by
    rw [setAt]
    have e : (a ++ (x :: m ++ b)).set a.length c = (a ++ [c]) ++ (m ++ b) := by simp
    rw [e]
    have := setAt_mid r m (a ++ [c]) b (by simpa using h)
    rw [List.length_append, List.length_singleton] at this
    rw [this]
    simp
theorem Touch.setRow {F : Nat → Prop} {g : Nat} (hg : F g) : ∀ (cs : List Value) (o : Nat) {a b : World}, Touch F a b → Touch F a (b.setCells g o cs)
  | [], _, _, _, h => h
  | c :: cs, o, _, _, h => by
    rw [World.setCells]
    exact Touch.setRow hg cs (o + 1) (h.setCell (.inl hg) c)
section
variable {w w' : World} {B : Nat} {e : TypeId} {sz : Nat}
theorem ownsRow_sets {base size n g cap : Nat} : ∀ (cs xs : List Value) (o : Nat) {w : World}, w.ownsRow base e size (.slice (some ⟨g, 0, none⟩) n cap) n xs → (w.setCells g o cs).ownsRow base e size (.slice (some ⟨g, 0, none⟩) n cap) n (setAt xs o cs)
  | [], _, _, _, h => h
  | c :: cs, xs, o, _, h => by
    rw [World.setCells, setAt]
    exact ownsRow_sets cs _ (o + 1) (h.stored o c).1
/-- one row is stored anew -/
theorem RowS.put {g n cap : Nat} {pre post : List (List Value)} {m r : List Value} (h : RowS w B e sz (.slice (some ⟨g, 0, none⟩) n cap) (pre ++ m :: post)) (hr : r.length = sz) (hn : n = (pre ++ m :: post).length) :
    RowS (w.setCells g (pre.length * sz) r) B e sz (.slice (some ⟨g, 0, none⟩) n cap) (pre ++ r :: post) := by
  obtain ⟨hl, hown⟩ := h
  have hm : m.length = sz := hl m (by simp)
  have hlp : ∀ q ∈ pre, q.length = sz := fun q hq => hl q (by simp [hq])
  have hpl : pre.flatten.length = pre.length * sz := by
    clear hown hl hn
    induction pre with
    | nil => simp
    | cons q pre ih =>
      rw [List.flatten_cons, List.length_append, hlp q (by simp), ih (fun q hq => hlp q (List.mem_cons_of_mem _ hq)), List.length_cons, Nat.succ_mul]
      omega
  refine ⟨fun q hq => ?_, ?_⟩
  · rcases List.mem_append.1 hq with hq | hq
    · exact hlp q hq
    · rcases List.mem_cons.1 hq with rfl | hq
      · exact hr
      · exact hl q (by simp [hq])
  · rw [← hn] at hown
    have := ownsRow_sets r _ (pre.length * sz) hown
    have e1 : (pre ++ r :: post).length = n := by rw [hn]; simp
    have e2 : setAt (pre ++ m :: post).flatten (pre.length * sz) r = (pre ++ r :: post).flatten := by
      rw [List.flatten_append, List.flatten_cons, ← hpl, setAt_mid r m _ _ (by omega), List.flatten_append, List.flatten_cons]
    rw [e2] at this
    rw [e1]
    exact this
/-- rows ahead of a place stay, whatever is stored from there on -/
theorem At.prefix_ {g : Nat} {pre post : List (List Value)} (h : At w sz (some ⟨g, 0, none⟩) (pre ++ post)) (hl : ∀ r ∈ pre, r.length = sz) (cs : List Value) : At (w.setCells g (pre.length * sz) cs) sz (some ⟨g, 0, none⟩) pre := by
  intro i r hi
  have hip : i < pre.length := (List.getElem?_eq_some_iff.1 hi).1
  have hi2 : (pre ++ post)[i]? = some r := by rw [List.getElem?_append_left hip]; exact hi
  obtain ⟨b, off, hA, hb, hc⟩ := h i r hi2
  injection hA with hA
  injection hA with hg ho _
  subst hg ho
  refine ⟨g, 0, rfl, by rw [size_setCells_]; exact hb, fun j u hj => ?_⟩
  have hjl : j < r.length := (List.getElem?_eq_some_iff.1 hj).1
  rw [hl r (List.mem_of_getElem? hi)] at hjl
  have hlt : i * sz + j < pre.length * sz := by
    have : (i + 1) * sz ≤ pre.length * sz := Nat.mul_le_mul_right _ hip
    rw [Nat.succ_mul] at this
    omega
  rw [World.cell?_setCells_out g cs _ w _ (fun _ _ => .inl (by show 0 + i * sz + j < _; omega))]
  exact hc j u hj
variable {P : Program}
/-- a struct is stored where cells lie -/
theorem wpList_store_there {ops : Array Oper} {rest : List Oper} {op : Oper} {a : Act} {w : World} {Q : Exit → Act → World → Prop} (hgd : op.guard = none) (T : TypeId) (x y : Operand) (ho : op.op = .store T x y)
    (b o : Nat) (cs : List Value) (ht : w.there b o cs.length) (hx : a.eval x = .pointer (some ⟨b, o, none⟩)) (hy : a.eval y = .agg cs.toArray) (hi : (P.info? T).map (·.size) = some cs.length)
    (h1 : ∀ v ∈ cs, v.oneCell' = true) (h : wpList P ops Q rest (a.put op.dst undef) (w.setCells b o cs)) : wpList P ops Q (op :: rest) a w :=
  wpList_store_mid hgd T x y ho b o cs.toArray hx hy (by simpa using ht) (by simpa using hi) (all_oneCell_toArray h1) (by simpa using h)
/-- 'clear(s)' of n > 0 elements of sz cells each -/
theorem run_clear_rows (w : World) (t e ty : TypeId) (z : Value) (ht : P.underlying t = some (.slice e)) (hv : ∀ w, (zeroValue e).run P w = .ok z w) (hz : z.cells.size = sz) (h0 : 0 < sz) (h1 : ∀ u ∈ z.cells.toList, u.oneCell' = true) (b o n c : Nat) (hn : 0 < n)
    (hc : ∀ j, j < n * sz → (w.cell? ⟨b, o + j, none⟩).isSome = true) (hf : ∀ j, j < n * sz → w.frozen? ⟨b, o + j, none⟩ = false) :
    (Builtin.clear_ #[t] ty #[.slice (some ⟨b, o, none⟩) n c]).run P w = .ok (.tuple #[]) (w.setCells b o (Builtin.zeroCells z.cells n).toList) := by
  have hl : (Builtin.zeroCells z.cells n).toList.length = n * sz := by rw [Array.length_toList, size_zeroCells, hz]
  have hst := run_storeCells_cells (P := P) b o (Builtin.zeroCells z.cells n).toList 0 w (by rw [hl]; simpa using hc) (by rw [hl]; simpa using hf) (by
    intro v hv'
    simp only [Builtin.zeroCells, Array.toList_map, List.mem_map] at hv'
    obtain ⟨i, hi, rfl⟩ := hv'
    have hlt : i % z.cells.size < z.cells.size := Nat.mod_lt _ (by omega)
    rw [getElem!_pos z.cells _ hlt]
    exact h1 _ (by simp))
  simp only [Nat.add_zero] at hst
  obtain ⟨m, rfl⟩ : ∃ m, n = m + 1 := ⟨n - 1, by omega⟩
  simp [Builtin.clear_, run_underlying ht, hv, hst]
end
end Go.Proofs.Ytmkhpgpnahligaa

/-
  slices.Clone of entries and of ints: a row of the call's own with the same elements. Conditions: lengths.
-/
namespace Go.Proofs.Ytmkhpgpnahligaa
open Go.RowKit
attribute [local go_sem ↓] Go.wp_at_zero Go.wp_at_succ
attribute [local go_sem] rowAt_ptr rowOf_drew rowOf_drewN rowOf_alloc_past rowOf_new
theorem infoEntryB : (Try.prog.info? 35).map (fun i => (i.zero, i.size, i.bytes)) = some (some (.agg (Entry.mk 0 [] 0 postZ8 []).vals.toArray), 15, 136) := by kernel_rfl
theorem infoIntB : (Try.prog.info? 3).map (fun i => (i.zero, i.size, i.bytes)) = some (some (.int .i64 0), 1, 8) := by kernel_rfl

theorem flat_len {sz : Nat} : ∀ (rows : List (List Value)), (∀ r ∈ rows, r.length = sz) → rows.flatten.length = rows.length * sz
  | [], _ => by simp
  | r :: rows, h => by
    rw [List.flatten_cons, List.length_append, h r (by simp), flat_len rows (fun q hq => h q (List.mem_cons_of_mem _ hq)), List.length_cons, Nat.succ_mul]
    omega
/-- the cells of rows that lie somewhere, as one list -/
theorem At.flat {w : World} {sz : Nat} {A : Addr} {rows : List (List Value)} (h : At w sz (some A) rows) (hl : ∀ r ∈ rows, r.length = sz) (h0 : 0 < sz) : ∀ j u, rows.flatten[j]? = some u → w.cell? (A.add j) = some u := by
  intro j u hj
  have hlen : rows.flatten.length = rows.length * sz := by
    have := flat_len rows hl
    exact this
  have hj2 := (List.getElem?_eq_some_iff.1 hj).1
  rw [hlen] at hj2
  have hq : j / sz < rows.length := (Nat.div_lt_iff_lt_mul h0).2 hj2
  obtain ⟨b, off, hA, hb, hc⟩ := h.getD hq
  have hdm : j / sz * sz + j % sz = j := Nat.div_add_mod' j sz
  have hm : j % sz < sz := Nat.mod_lt _ h0
  have hrl := hl _ (List.getElem_mem hq)
  have hg := flat_get rows hl (j / sz) _ (List.getElem?_eq_getElem hq) (j % sz) _ (List.getElem?_eq_getElem (by omega))
  rw [hdm] at hg
  rw [hg] at hj
  cases hj
  have := hc (j % sz) _ (List.getElem?_eq_getElem (by omega))
  injection hA with hA
  subst hA
  rw [Addr.add_mid, show off + j = off + j / sz * sz + j % sz by omega]
  exact this

set_option maxRecDepth 20000 in
set_option maxHeartbeats 800000 in
theorem cloneE_any (A : Option Addr) (c : Nat) (l : List Entry) (w : World) (hl : l.length ≤ 1000000) (hA : At w 15 A (l.map Entry.vals)) :
    Calls Try.prog 25 #[.slice A l.length c] w fun e w' => ∃ v, e = .returned v ∧ RowS w' w.heap.size 35 15 v (l.map Entry.vals) ∧ Below w.heap.size w w' := by
  obtain ⟨i0, hi, hz, hsize, hby⟩ := info_parts infoEntryB
  have q22 : ∀ (w : World) (a : Option Addr) (n c n' c' : Nat), (binOp .eql 22 (.slice a n c) (.slice none n' c')).run Try.prog w = .ok (.bool a.isNone) w := fun w a n c n' c' => Lib.run_eql_slice_nil w _ _ a n c n' c' Try.underlying22
  have hlen : ∀ r ∈ l.map Entry.vals, r.length = 15 := by
    intro r hr; obtain ⟨x, _, rfl⟩ := List.mem_map.1 hr; rfl
  cases A with
  | none =>
    have h0 : l = [] := by
      cases l with
      | nil => rfl
      | cons x l => obtain ⟨b, off, h, _⟩ := hA 0 x.vals (by simp); cases h
    subst h0
    go_enter Try.func25, Try.ntmps25
    go_wp2
    go_ret
    exact ⟨_, rfl, RowS.none_, Below.refl _ _⟩
  | some A =>
    have hcell := hA.flat hlen (by omega)
    have hfl := flat_len _ hlen
    rw [List.length_map] at hfl
    have H := Lib.hid (And.intro hcell (And.intro hlen hfl))
    clear hcell hlen hfl hA
    go_enter Try.func25, Try.ntmps25
    go_wp2_with (at_builtin; refine wpList_append_own _ rfl _ _ 22 rfl w.heap.size 35 i0 (.agg (Entry.mk 0 [] 0 postZ8 []).vals.toArray) 15 136 Try.underlying22 hi hz hsize hby rfl (by decide) _ _ _ rfl (World.ownsRow_made w #[] 0 (Nat.le_refl _) (Nat.zero_le _) rfl) A l.length c (l.map Entry.vals).flatten rfl ?qc1 ?qc2 ?qc3 ?qc4 ?qc5 ?qc6 ?_)
    case qc1 => exact H.out.2.2
    case qc2 => exact fun j u hj => Lib.cell?_alloc_some _ (H.out.1 j u hj)
    case qc3 =>
      intro u hu
      obtain ⟨r, hr, hu⟩ := List.mem_flatten.1 hu
      obtain ⟨x, _, rfl⟩ := List.mem_map.1 hr
      exact x.one u hu
    case qc4 => unfold maxLen; omega
    case qc5 => omega
    case qc6 => simp
    intro v' w1 hown hgrow hnil
    go_wp2
    go_ret
    refine ⟨v', rfl, ⟨H.out.2.1, ?_⟩, ?_⟩
    · rw [List.length_map]
      simpa using hown
    · exact ((Below.refl _ w).alloc (Nat.le_refl _) _).grown hgrow (by simp) (by intro k hk; simp [Value.ownBlock] at hk; omega)

set_option maxRecDepth 20000 in
set_option maxHeartbeats 800000 in
theorem cloneI_any (A : Option Addr) (c : Nat) (l : List Int) (w : World) (hl : l.length ≤ 1000000) (hA : At w 1 A (l.map int1)) :
    Calls Try.prog 31 #[.slice A l.length c] w fun e w' => ∃ v, e = .returned v ∧ RowS w' w.heap.size 3 1 v (l.map int1) ∧ Below w.heap.size w w' := by
  obtain ⟨i0, hi, hz, hsize, hby⟩ := info_parts infoIntB
  have q22 : ∀ (w : World) (a : Option Addr) (n c n' c' : Nat), (binOp .eql 44 (.slice a n c) (.slice none n' c')).run Try.prog w = .ok (.bool a.isNone) w := fun w a n c n' c' => Lib.run_eql_slice_nil w _ _ a n c n' c' Try.underlying44
  have hlen : ∀ r ∈ l.map int1, r.length = 1 := by
    intro r hr; obtain ⟨x, _, rfl⟩ := List.mem_map.1 hr; rfl
  cases A with
  | none =>
    have h0 : l = [] := by
      cases l with
      | nil => rfl
      | cons x l => obtain ⟨b, off, h, _⟩ := hA 0 (int1 x) (by simp); cases h
    subst h0
    go_enter Try.func31, Try.ntmps31
    go_wp2
    go_ret
    exact ⟨_, rfl, RowS.none_, Below.refl _ _⟩
  | some A =>
    have hcell := hA.flat hlen (by omega)
    have hfl := flat_len _ hlen
    rw [List.length_map] at hfl
    have H := Lib.hid (And.intro hcell (And.intro hlen hfl))
    clear hcell hlen hfl hA
    go_enter Try.func31, Try.ntmps31
    go_wp2_with (at_builtin; refine wpList_append_own _ rfl _ _ 44 rfl w.heap.size 3 i0 (.int .i64 0) 1 8 Try.underlying44 hi hz hsize hby rfl (by decide) _ _ _ rfl (World.ownsRow_made w #[] 0 (Nat.le_refl _) (Nat.zero_le _) rfl) A l.length c (l.map int1).flatten rfl ?qc1 ?qc2 ?qc3 ?qc4 ?qc5 ?qc6 ?_)
    case qc1 => exact H.out.2.2
    case qc2 => exact fun j u hj => Lib.cell?_alloc_some _ (H.out.1 j u hj)
    case qc3 =>
      intro u hu
      obtain ⟨r, hr, hu⟩ := List.mem_flatten.1 hu
      obtain ⟨x, _, rfl⟩ := List.mem_map.1 hr
      simp [int1] at hu
      subst hu
      rfl
    case qc4 => unfold maxLen; omega
    case qc5 => omega
    case qc6 => simp
    intro v' w1 hown hgrow hnil
    go_wp2
    go_ret
    refine ⟨v', rfl, ⟨H.out.2.1, ?_⟩, ?_⟩
    · rw [List.length_map]
      simpa using hown
    · exact ((Below.refl _ w).alloc (Nat.le_refl _) _).grown hgrow (by simp) (by intro k hk; simp [Value.ownBlock] at hk; omega)
theorem cloneE_at (A : Option Addr) (c : Nat) (l : List Entry) (w : World) (hl : l.length ≤ 1000000) (hA : At w 15 A (l.map Entry.vals)) :
    Calls Try.prog 25 #[.slice A l.length c] w fun e w' => ∃ A' c', e = .returned (.slice A' l.length c') ∧ RowS w' w.heap.size 35 15 (.slice A' l.length c') (l.map Entry.vals) ∧ Below w.heap.size w w' := by
  refine (cloneE_any A c l w hl hA).mono ?_
  rintro e w' ⟨v, rfl, hR, hb⟩
  obtain ⟨A', c', rfl, -⟩ := hR.at_
  rw [List.length_map] at hR ⊢
  exact ⟨A', c', rfl, hR, hb⟩
theorem cloneI_at (A : Option Addr) (c : Nat) (l : List Int) (w : World) (hl : l.length ≤ 1000000) (hA : At w 1 A (l.map int1)) :
    Calls Try.prog 31 #[.slice A l.length c] w fun e w' => ∃ A' c', e = .returned (.slice A' l.length c') ∧ RowS w' w.heap.size 3 1 (.slice A' l.length c') (l.map int1) ∧ Below w.heap.size w w' := by
  refine (cloneI_any A c l w hl hA).mono ?_
  rintro e w' ⟨v, rfl, hR, hb⟩
  obtain ⟨A', c', rfl, -⟩ := hR.at_
  rw [List.length_map] at hR ⊢
  exact ⟨A', c', rfl, hR, hb⟩
end Go.Proofs.Ytmkhpgpnahligaa

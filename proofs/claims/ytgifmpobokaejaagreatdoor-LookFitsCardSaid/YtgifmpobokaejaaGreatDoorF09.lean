/-
  Layer 21, walks: the fixed calls, and the law SpaceRoom. No condition but that lengths are machine numbers.
-/
import Derived.Test.YtgifmpobokaejaaGreatDoorF08
import Derived.Lib.SliceRun
import Derived.Test.YtgifmpobokaejaaGreatDoorF04
import Derived.Great.BuildSlice
import Derived.ArgAppend
import Derived.Laws.IdiomStrings
import Derived.Test.YtgifmpobokaejaaGreatDoorProg
namespace Go.Proofs.YtgifmpobokaejaaGreatDoor
open Go.RowKit
attribute [local go_sem ↓] Go.wp_at_zero Go.wp_at_succ ldTree

attribute [local go_sem] rowAt_ptr rowOf_drew rowOf_drewN rowOf_alloc_at rowOf_alloc_past Tr.len

def knownNd : Nd := { attr := ⟨0, 0, 0, 1, 0, 0, 1, 0, 0, 0⟩, data := ⟨#[97, 98, 99, 100, 101]⟩, verf := 0, parent := 0, last := 0, ea := none, en := 0, ec := 0 }
def knownTr (g : Nat) : Tr := { lim := ⟨10, 6, 4⟩, now := 0, gens := 0, na := some ⟨g, 0, none⟩, nc := 1, ns := [knownNd] }
theorem known_at (w : World) : At (w.alloc (.cells knownNd.vals.toArray 65)) 15 (some ⟨w.heap.size, 0, none⟩) ((knownTr w.heap.size).ns.map Nd.vals) := by
  intro i r hr
  match i, hr with
  | 0, hr =>
    have : r = knownNd.vals := by simpa [knownTr] using hr.symm
    subst this
    exact ⟨w.heap.size, 0, rfl, by simp, range_new w knownNd.vals 65⟩
theorem known_small (g : Nat) : small (knownTr g).ns := ⟨by show 1 ≤ 70; omega, fun n hn => by
  have : n = knownNd := by simpa [knownTr] using hn
  subst this; decide⟩

theorem known_row (w : World) : rowOf ((w.alloc (.cells knownNd.vals.toArray 65)).alloc (.cells (knownTr w.heap.size).vals.toArray 26)) (w.heap.size + 1) 0 6 = some (knownTr w.heap.size).vals.toArray :=
  rowOf_alloc_at _ _ _ _ _ (by simp) rfl
theorem known_lim (g : Nat) : (knownTr g).lim.ok = true := rfl
theorem known_r1 (g : Nat) : room (knownTr g) 1 2 = 69 := by rfl
theorem known_r2 (g : Nat) : room (knownTr g) 2 6 = 28 := by rfl
theorem known_r3 (g : Nat) : room (knownTr g) 1 1 = 0 := by rfl
theorem known_free (g id : Nat) (h : Free (knownTr g).ns id) : id = 2 :=
  Free.unique h ⟨by omega, rfl, fun j h1 h2 => by obtain rfl : j = 1 := by omega
                                                  rfl⟩

/-- what is read of a tree's nodes: lengths are machine numbers -/
def sized (ns : List Nd) : Prop := ns.length ≤ 9223372036854775807 ∧ ∀ n ∈ ns, n.data.size ≤ 9223372036854775807 ∧ n.en ≤ 9223372036854775807

end Go.Proofs.YtgifmpobokaejaaGreatDoor

/-
  A row of structs of the call's own: one of them is stored anew; some are cleared. Conditions: sizes.
-/
namespace Go.Proofs.YtgifmpobokaejaaGreatDoor
open Go.RowKit

theorem size_setCells_ (b : Nat) : ∀ (vs : List Value) (o : Nat) (w : World), (w.setCells b o vs).heap.size = w.heap.size
  | [], _, _ => rfl
  | v :: vs, o, w => by rw [World.setCells, size_setCells_ b vs]; simp [World.setCell]
theorem setAt_mid : ∀ (r m a b : List Value), m.length = r.length → setAt (a ++ (m ++ b)) a.length r = a ++ (r ++ b)
  | [], m, a, b, h => by
    obtain rfl : m = [] := List.eq_nil_of_length_eq_zero h
    rfl
  | c :: r, [], a, b, h => by simp at h
  | c :: r, x :: m, a, b, h => by
    rw [setAt]
    have e : (a ++ (x :: m ++ b)).set a.length c = (a ++ [c]) ++ (m ++ b) := by simp
    rw [e]
    have := setAt_mid r m (a ++ [c]) b (by simpa using h)
    rw [List.length_append, List.length_singleton] at this
    rw [this]
    simp
theorem Touch.setRow {F : Nat → Prop} {g : Nat} (hg : F g) : ∀ (cs : List Value) (o : Nat) {a b : World}, Touch F a b → Touch F a (b.setCells g o cs)
  | [], _, _, _, h => h
  | c :: cs, o, _, _, h => by
    rw [World.setCells]
    exact Touch.setRow hg cs (o + 1) (h.setCell (.inl hg) c)
section
variable {w w' : World} {B : Nat} {e : TypeId} {sz : Nat}
theorem ownsRow_sets {base size n g cap : Nat} : ∀ (cs xs : List Value) (o : Nat) {w : World}, w.ownsRow base e size (.slice (some ⟨g, 0, none⟩) n cap) n xs → (w.setCells g o cs).ownsRow base e size (.slice (some ⟨g, 0, none⟩) n cap) n (setAt xs o cs)
  | [], _, _, _, h => h
  | c :: cs, xs, o, _, h => by
    rw [World.setCells, setAt]
    exact ownsRow_sets cs _ (o + 1) (h.stored o c).1
/-- one row is stored anew -/
theorem RowS.put {g n cap : Nat} {pre post : List (List Value)} {m r : List Value} (h : RowS w B e sz (.slice (some ⟨g, 0, none⟩) n cap) (pre ++ m :: post)) (hr : r.length = sz) (hn : n = (pre ++ m :: post).length) :
    RowS (w.setCells g (pre.length * sz) r) B e sz (.slice (some ⟨g, 0, none⟩) n cap) (pre ++ r :: post) := by
  obtain ⟨hl, hown⟩ := h
  have hm : m.length = sz := hl m (by simp)
  have hlp : ∀ q ∈ pre, q.length = sz := fun q hq => hl q (by simp [hq])
  have hpl : pre.flatten.length = pre.length * sz := by
    clear hown hl hn
    induction pre with
    | nil => simp
    | cons q pre ih =>
      rw [List.flatten_cons, List.length_append, hlp q (by simp), ih (fun q hq => hlp q (List.mem_cons_of_mem _ hq)), List.length_cons, Nat.succ_mul]
      omega
  refine ⟨fun q hq => ?_, ?_⟩
  · rcases List.mem_append.1 hq with hq | hq
    · exact hlp q hq
    · rcases List.mem_cons.1 hq with rfl | hq
      · exact hr
      · exact hl q (by simp [hq])
  · rw [← hn] at hown
    have := ownsRow_sets r _ (pre.length * sz) hown
    have e1 : (pre ++ r :: post).length = n := by rw [hn]; simp
    have e2 : setAt (pre ++ m :: post).flatten (pre.length * sz) r = (pre ++ r :: post).flatten := by
      rw [List.flatten_append, List.flatten_cons, ← hpl, setAt_mid r m _ _ (by omega), List.flatten_append, List.flatten_cons]
    rw [e2] at this
    rw [e1]
    exact this
/-- the first rows of a row are a row -/
theorem RowS.prefix_ {A : Option Addr} {n c : Nat} {pre post : List (List Value)} (h : RowS w B e sz (.slice A n c) (pre ++ post)) : RowS w B e sz (.slice A pre.length c) pre := by
  obtain ⟨hl, hx, hown⟩ := h
  have hlp : ∀ q ∈ pre, q.length = sz := fun q hq => hl q (by simp [hq])
  have hpl : pre.flatten.length = pre.length * sz := by
    clear hown hl hx
    induction pre with
    | nil => simp
    | cons q pre ih =>
      rw [List.flatten_cons, List.length_append, hlp q (by simp), ih (fun q hq => hlp q (List.mem_cons_of_mem _ hq)), List.length_cons, Nat.succ_mul]
      omega
  refine ⟨hlp, hpl, ?_⟩
  rcases hown with ⟨hv, h0⟩ | ⟨g, cap, cur, hv, hb, hg, hn, hc, hs, ht⟩
  · left
    have h1 : pre.length = 0 := by simp only [List.length_append] at h0; omega
    injection hv with hv1 hv2 hv3
    subst hv1 hv3
    exact ⟨by rw [h1], h1⟩
  · right
    injection hv with hv1 hv2 hv3
    subst hv1 hv3
    refine ⟨g, c, cur, rfl, hb, hg, by simp only [List.length_append] at hn; omega, hc, hs, ?_⟩
    have h1 : pre.length * sz ≤ (pre ++ post).length * sz := Nat.mul_le_mul_right _ (by simp)
    have h2 : (cur.toList.take ((pre ++ post).length * sz)).take (pre.length * sz) = cur.toList.take (pre.length * sz) := by rw [List.take_take, Nat.min_eq_left h1]
    rw [← h2, ht, List.flatten_append, ← hpl, List.take_left']
    rfl
theorem setAt_out : ∀ (cs l : List Value) (o : Nat), l.length ≤ o → setAt l o cs = l
  | [], _, _, _ => rfl
  | c :: cs, l, o, h => by
    rw [setAt, List.set_eq_of_length_le h]
    exact setAt_out cs l (o + 1) (by omega)
/-- a row stays, whatever is stored behind it in its block -/
theorem RowS.behind {g n cap : Nat} {rows : List (List Value)} (h : RowS w B e sz (.slice (some ⟨g, 0, none⟩) n cap) rows) (hn : n = rows.length) (cs : List Value) : RowS (w.setCells g (rows.length * sz) cs) B e sz (.slice (some ⟨g, 0, none⟩) n cap) rows := by
  obtain ⟨hl, hown⟩ := h
  refine ⟨hl, ?_⟩
  subst hn
  have hx := hown.1
  have := ownsRow_sets cs _ (rows.length * sz) hown
  rwa [setAt_out _ _ _ (by omega)] at this
theorem RowS.rows {A : Option Addr} {n c : Nat} {rows : List (List Value)} (h : RowS w B e sz (.slice A n c) rows) : At w sz A rows := by
  obtain ⟨A', c', hv, hA⟩ := h.at_
  injection hv with h1 h2 h3
  subst h1
  exact hA
/-- rows ahead of a place stay, whatever is stored from there on -/
theorem At.prefix_ {g : Nat} {pre post : List (List Value)} (h : At w sz (some ⟨g, 0, none⟩) (pre ++ post)) (hl : ∀ r ∈ pre, r.length = sz) (cs : List Value) : At (w.setCells g (pre.length * sz) cs) sz (some ⟨g, 0, none⟩) pre := by
  intro i r hi
  have hip : i < pre.length := (List.getElem?_eq_some_iff.1 hi).1
  have hi2 : (pre ++ post)[i]? = some r := by rw [List.getElem?_append_left hip]; exact hi
  obtain ⟨b, off, hA, hb, hc⟩ := h i r hi2
  injection hA with hA
  injection hA with hg ho _
  subst hg ho
  refine ⟨g, 0, rfl, by rw [size_setCells_]; exact hb, fun j u hj => ?_⟩
  have hjl : j < r.length := (List.getElem?_eq_some_iff.1 hj).1
  rw [hl r (List.mem_of_getElem? hi)] at hjl
  have hlt : i * sz + j < pre.length * sz := by
    have : (i + 1) * sz ≤ pre.length * sz := Nat.mul_le_mul_right _ hip
    rw [Nat.succ_mul] at this
    omega
  rw [World.cell?_setCells_out g cs _ w _ (fun _ _ => .inl (by show 0 + i * sz + j < _; omega))]
  exact hc j u hj
variable {P : Program}
/-- a struct is stored where cells lie -/
theorem wpList_store_there {ops : Array Oper} {rest : List Oper} {op : Oper} {a : Act} {w : World} {Q : Exit → Act → World → Prop} (hgd : op.guard = none) (T : TypeId) (x y : Operand) (ho : op.op = .store T x y)
    (b o : Nat) (cs : List Value) (ht : w.there b o cs.length) (hx : a.eval x = .pointer (some ⟨b, o, none⟩)) (hy : a.eval y = .agg cs.toArray) (hi : (P.info? T).map (·.size) = some cs.length)
    (h1 : ∀ v ∈ cs, v.oneCell' = true) (h : wpList P ops Q rest (a.put op.dst undef) (w.setCells b o cs)) : wpList P ops Q (op :: rest) a w :=
  wpList_store_mid hgd T x y ho b o cs.toArray hx hy (by simpa using ht) (by simpa using hi) (all_oneCell_toArray h1) (by simpa using h)
/-- 'clear(s)' of n > 0 elements of sz cells each -/
theorem run_clear_rows (w : World) (t e ty : TypeId) (z : Value) (ht : P.underlying t = some (.slice e)) (hv : ∀ w, (zeroValue e).run P w = .ok z w) (hz : z.cells.size = sz) (h0 : 0 < sz) (h1 : ∀ u ∈ z.cells.toList, u.oneCell' = true) (b o n c : Nat) (hn : 0 < n)
    (hc : ∀ j, j < n * sz → (w.cell? ⟨b, o + j, none⟩).isSome = true) (hf : ∀ j, j < n * sz → w.frozen? ⟨b, o + j, none⟩ = false) :
    (Builtin.clear_ #[t] ty #[.slice (some ⟨b, o, none⟩) n c]).run P w = .ok (.tuple #[]) (w.setCells b o (Builtin.zeroCells z.cells n).toList) := by
  have hl : (Builtin.zeroCells z.cells n).toList.length = n * sz := by rw [Array.length_toList, size_zeroCells, hz]
  have hst := run_storeCells_cells (P := P) b o (Builtin.zeroCells z.cells n).toList 0 w (by rw [hl]; simpa using hc) (by rw [hl]; simpa using hf) (by
    intro v hv'
    simp only [Builtin.zeroCells, Array.toList_map, List.mem_map] at hv'
    obtain ⟨i, hi, rfl⟩ := hv'
    have hlt : i % z.cells.size < z.cells.size := Nat.mod_lt _ (by omega)
    rw [getElem!_pos z.cells _ hlt]
    exact h1 _ (by simp))
  simp only [Nat.add_zero] at hst
  obtain ⟨m, rfl⟩ : ∃ m, n = m + 1 := ⟨n - 1, by omega⟩
  simp [Builtin.clear_, run_underlying ht, hv, hst]
end
end Go.Proofs.YtgifmpobokaejaaGreatDoor


/-
  A slice literal of one struct whose cells are a term. No condition but the struct's size.
-/
namespace Go.Proofs.YtgifmpobokaejaaGreatDoor
open Go.RowKit

theorem fill_one (s : Nat) (hs : 0 < s) (base c : Array Value) (hb : base.size = s) (hc : c.size = s) : Instr.fill (fun i => some (i * s, s)) base [(0, .agg c)] = some c := by
  have hv : ∀ v ∈ [Value.agg c], v.cells.size = s := fun v h => by
    obtain rfl := List.mem_singleton.1 h
    exact hc
  obtain ⟨r, hr, hsz, hk⟩ := Great.fill_dense hs [Value.agg c] 0 base hv (by simp only [List.length_cons, List.length_nil]; omega)
  have hr2 : Instr.fill (fun i => some (i * s, s)) base [(0, .agg c)] = some r := hr
  rw [hr2]
  congr 1
  apply Array.ext
  · omega
  · intro k h1 h2
    have h3 := hk k
    have hk2 : k < s := by omega
    rw [if_pos (by simp only [List.length_cons, List.length_nil]; omega), Nat.div_eq_of_lt hk2, Nat.mod_eq_of_lt hk2] at h3
    have h4 : r[k]? = c[k]? := h3
    rw [Array.getElem?_eq_getElem h1, Array.getElem?_eq_getElem h2] at h4
    exact Option.some.inj h4
theorem wpList_buildSlice_one {P : Program} {ops : Array Oper} {rest : List Oper} {o : Oper} {a : Act} {w : World} {Q : Exit → Act → World → Prop} (hg : o.guard = none) (t e : TypeId) (x : Operand) (ho : o.op = .buildSlice t 1 #[(0, x)])
    (cs : List Value) (hx : a.eval x = .agg cs.toArray) (hu : P.underlying t = some (.slice e)) (ie : TypeInfo) (z : Value) (hie : P.info? e = some ie) (hz : ie.zero = some z) (_hzs : z.cells.size = cs.length) (hsize : ie.size = cs.length) (h0 : 0 < cs.length) (hsm : cs.length ≤ 1000)
    (h : wpList P ops Q rest (a.put o.dst (.slice (some ⟨w.heap.size, 0, none⟩) 1 1)) (w.alloc (.cells cs.toArray e))) : wpList P ops Q (o :: rest) a w := by
  refine wpList_buildSlice hg t e 1 #[(0, x)] ho cs.toArray ie z hu hie hz (by rw [hsize]; omega) (by rw [hsize]; omega) ?_ h
  rw [hsize]
  have hm : ((#[(0, x)] : Array (Nat × Operand)).map fun (i, x) => (i, a.eval x)).toList = [(0, .agg cs.toArray)] := by simp [hx]
  rw [hm]
  exact fill_one cs.length h0 _ _ (by simp) (by simp)
end Go.Proofs.YtgifmpobokaejaaGreatDoor


/-
  A row of bytes of the call's own; behind its last cell a mark may lie, as '[]byte(s)' leaves it. No condition but sizes.
-/
namespace Go.Proofs.YtgifmpobokaejaaGreatDoor
open Go.RowKit

/-- block g is just these cells; a mark may lie behind them -/
def BlkM (w : World) (g : Nat) (t : TypeId) (cs : List Value) : Prop := ∃ m : Nat × Nat, (m = (0, 0) ∨ cs.length ≤ m.1) ∧ w.heap[g]? = some (.cells cs.toArray t m)
section
variable {w w' : World} {g : Nat} {t : TypeId} {cs : List Value}
theorem BlkM.lt (h : BlkM w g t cs) : g < w.heap.size := by
  obtain ⟨m, _, h⟩ := h
  rcases Nat.lt_or_ge g w.heap.size with hlt | hge
  · exact hlt
  · rw [Array.getElem?_eq_none hge] at h; cases h
theorem BlkM.cell (h : BlkM w g t cs) (i : Nat) : w.cell? ⟨g, i, none⟩ = cs[i]? := by
  obtain ⟨m, _, h⟩ := h
  rw [cell_of_row w g i _ t m h]; simp
theorem BlkM.frozen (h : BlkM w g t cs) {i : Nat} (hi : i < cs.length) : w.frozen? ⟨g, i, none⟩ = false := by
  obtain ⟨m, hm, h⟩ := h
  obtain ⟨m1, m2⟩ := m
  simp only [World.frozen?, h]
  rcases hm with hm | hm
  · injection hm with h1 h2; subst h1; subst h2; simp
  · simp; intro h3; exfalso; simp at hm; omega
theorem Blk.marked (h : Blk w g t cs) : BlkM w g t cs := ⟨(0, 0), .inl rfl, h⟩
theorem BlkM.alloc (h : BlkM w g t cs) (o : Obj) : BlkM (w.alloc o) g t cs := by
  have hl := h.lt
  obtain ⟨m, hm, h⟩ := h
  exact ⟨m, hm, (Below.heap_alloc w o g hl).trans h⟩
theorem BlkM.drew (h : BlkM w g t cs) : BlkM w.drew g t cs := h
theorem BlkM.set_ (h : BlkM w g t cs) (i : Nat) (u : Value) : BlkM (w.setCell ⟨g, i, none⟩ u) g t (cs.set i u) := by
  obtain ⟨m, hm, h⟩ := h
  refine ⟨m, by simpa using hm, ?_⟩
  simp [World.setCell, Array.getElem?_modify, h]
theorem BlkM.below {B : Nat} (h : BlkM w g t cs) (hb : Below B w w') (hg : g < B) : BlkM w' g t cs := by
  obtain ⟨m, hm, h⟩ := h
  exact ⟨m, hm, (hb.block g hg).trans h⟩
theorem BlkM.stays (h : BlkM w g t cs) (hb : Below w.heap.size w w') : BlkM w' g t cs := h.below hb h.lt

/-- a value that is a row of these bytes, of the call's own from B on -/
def RowB (w : World) (B : Nat) (e : TypeId) (v : Value) (l : List UInt8) : Prop :=
  (v = .slice none 0 0 ∧ l = []) ∨ ∃ g cs, v = .slice (some ⟨g, 0, none⟩) l.length cs.length ∧ B ≤ g ∧ l.length ≤ cs.length ∧ BlkM w g e cs ∧ cs.take l.length = l.map u8
variable {B : Nat} {e : TypeId} {v : Value} {l : List UInt8}
theorem RowB.none_ : RowB w B e (.slice none 0 0) [] := .inl ⟨rfl, rfl⟩
theorem RowB.stays (h : RowB w B e v l) (hb : Below w.heap.size w w') : RowB w' B e v l := by
  rcases h with h | ⟨g, cs, hv, hB, hl, hk, ht⟩
  · exact .inl h
  · exact .inr ⟨g, cs, hv, hB, hl, hk.stays hb, ht⟩
theorem RowB.len (h : RowB w B e v l) : ∃ A c, v = .slice A l.length c := by
  rcases h with ⟨rfl, rfl⟩ | ⟨g, cs, rfl, -⟩ <;> exact ⟨_, _, rfl⟩
theorem take_at {cs : List Value} {l : List UInt8} (ht : cs.take l.length = l.map u8) {i : Nat} {x : UInt8} (hx : l[i]? = some x) : cs[i]? = some (u8 x) := by
  have hi : i < l.length := (List.getElem?_eq_some_iff.1 hx).1
  have : (cs.take l.length)[i]? = some (u8 x) := by rw [ht, List.getElem?_map, hx]; rfl
  rw [List.getElem?_take, if_pos hi] at this
  exact this

theorem take_set_last (cs : List Value) (n : Nat) (h : n < cs.length) (x : Value) : (cs.take (n + 1)).set n x = cs.take n ++ [x] := by
  have hl : (cs.take n).length = n := by simp; omega
  rw [List.take_add_one, List.getElem?_eq_getElem h]
  simp only [Option.toList_some]
  rw [List.set_append_right _ _ (by omega), hl, Nat.sub_self]
  rfl

variable {P : Program}
/-- '[]byte(s)' is such a row -/
theorem RowB.of_string (w : World) (src dst : TypeId) (l : List UInt8) (hs : P.underlying src = some .string) (hd : P.underlying dst = some (.slice e)) (he : P.underlying e = some (.int .u8)) :
    ∃ v W', (convert src dst (.string (bs l))).run P w = .ok v W' ∧ RowB W' w.heap.size e v l ∧ Below w.heap.size w W' := by
  refine ⟨_, _, run_bytes_of_string w src dst e (bs l) hs hd he, .inr ⟨w.heap.size, l.map u8 ++ zcells (grownCap w l.length 0 e - l.length), ?_, Nat.le_refl _, by simp, ?_, by simp⟩, ((Below.refl _ _).drew).alloc (Nat.le_refl _) _⟩
  · have := grownCap_ge w l.length 0 e
    rw [bs_size]
    simp [zcells_len]
    omega
  · refine ⟨((bytesRow (bs l) (grownCap w (bs l).size 0 e)).size, (bytesRow (bs l) (grownCap w (bs l).size 0 e)).size + 1), .inr ?_, ?_⟩
    · simp [bytesRow, zcells_len, bs_size]
    · rw [show (l.map u8 ++ zcells (grownCap w l.length 0 e - l.length)).toArray = bytesRow (bs l) (grownCap w (bs l).size 0 e) by
        apply Array.ext'
        simp [bytesRow, zcells, u8, bs_size]]
      exact heap_alloc_new w.drew _

/-- string(b[:n]) -/
theorem RowB.string (h : RowB w B e v l) (src dst : TypeId) (hs : P.underlying src = some (.slice e)) (he : P.underlying e = some (.int .u8)) (hd : P.underlying dst = some .string) :
    (convert src dst v).run P w = .ok (.string (bs l)) w := by
  rcases h with ⟨rfl, rfl⟩ | ⟨g, cs, rfl, hB, hl, hk, ht⟩
  · exact run_convert_bytes_nil w src e hs he 0 0 dst hd
  · rw [run_convert_bytes_arg (P := P) w src e hs he g 0 l.length cs.length (l.map fun b => (b.toNat : Int)) (by simp) (fun i hi => by
      rw [Nat.zero_add, hk.cell, take_at ht (List.getElem?_eq_getElem hi)]
      simp [u8, hi]) dst hd, strOf]
theorem RowB.prefix_ (h : RowB w B e v l) {n : Nat} (hn : n ≤ l.length) : ∃ A c, v = .slice A l.length c ∧ RowB w B e (.slice A n c) (l.take n) := by
  have hm : (l.take n).length = n := by simp; omega
  rcases h with ⟨rfl, rfl⟩ | ⟨g, cs, rfl, hB, hl, hk, ht⟩
  · obtain rfl : n = 0 := by simpa using hn
    exact ⟨none, 0, rfl, .inl ⟨rfl, rfl⟩⟩
  · refine ⟨_, _, rfl, .inr ⟨g, cs, by rw [hm], hB, by omega, hk, ?_⟩⟩
    rw [hm, List.map_take, ← ht, List.take_take, Nat.min_eq_left hn]

/-- a byte is stored into the row -/
theorem RowB.store (h : RowB w B e v l) {i : Nat} (hi : i < l.length) (x : UInt8) : ∃ g c, v = .slice (some ⟨g, 0, none⟩) l.length c ∧ l.length ≤ c ∧ B ≤ g ∧ (w.cell? ⟨g, i, none⟩ = some (u8 l[i])) ∧ w.frozen? ⟨g, i, none⟩ = false ∧ RowB (w.setCell ⟨g, i, none⟩ (u8 x)) B e v (l.set i x) := by
  rcases h with ⟨rfl, rfl⟩ | ⟨g, cs, rfl, hB, hl, hk, ht⟩
  · simp at hi
  · refine ⟨g, cs.length, rfl, hl, hB, ?_, hk.frozen (by omega), .inr ⟨g, cs.set i (u8 x), by simp, hB, by simpa using hl, hk.set_ i _, ?_⟩⟩
    · rw [hk.cell]; exact take_at ht (List.getElem?_eq_getElem hi)
    · rw [List.length_set, List.take_set, ht, List.map_set]

/-- 'append(b, x)': the one byte lies in a new row -/
theorem RowB.append (t ty : TypeId) (i : TypeInfo) (ht : P.underlying t = some (.slice e)) (hi : P.info? e = some i) (hz : i.zero = some (.int .u8 0)) (hsize : i.size = 1) (hby : i.bytes = 1)
    (h : RowB w B e v l) (hB : B ≤ w.heap.size) (x : UInt8) (hl : l.length ≤ 1000000000) :
    ∃ v' w', (Builtin.append_ #[t, t] ty #[v, .slice (some ⟨w.heap.size, 0, none⟩) 1 1]).run P (w.alloc (.cells #[u8 x] e)) = .ok v' w' ∧ (RowB w' B e v' (l ++ [x]) ∧ ∀ a, Below B a w → Below B a w') := by
  have hone : Blk (w.alloc (.cells #[u8 x] e)) w.heap.size e [u8 x] := Blk.new w e [u8 x]
  have hcell : ∀ j u, [u8 x][j]? = some u → (w.alloc (.cells #[u8 x] e)).cell? ((⟨w.heap.size, 0, none⟩ : Addr).add j) = some u := fun j u hu => by
    rw [show (⟨w.heap.size, 0, none⟩ : Addr).add j = ⟨w.heap.size, j, none⟩ by unfold Addr.add; split <;> simp_all, hone.cell, hu]
  have hs : (w.alloc (.cells #[u8 x] e)).heap.size = w.heap.size + 1 := by simp
  have hbel : ∀ a, Below B a w → Below B a (w.alloc (.cells #[u8 x] e)) := fun a h => h.alloc hB _
  have hsz : w.heap.size ≤ (w.alloc (.cells #[u8 x] e)).heap.size := by omega
  have hst : RowB (w.alloc (.cells #[u8 x] e)) B e v l := h.stays ((Below.refl _ _).alloc (Nat.le_refl _) _)
  generalize w.alloc (.cells #[u8 x] e) = w2 at *
  have grown : ∀ (old : Nat), RowB (w2.drew.alloc (.cells ((l.map u8 ++ [u8 x]).toArray ++ Builtin.zeroCells (Value.int .u8 0).cells (grownCap w2 (l.length + 1) old e - (l.length + 1))) e)) B e (.slice (some ⟨w2.heap.size, 0, none⟩) (l.length + 1) (grownCap w2 (l.length + 1) old e)) (l ++ [x]) := fun old => by
    have hge := grownCap_ge w2 (l.length + 1) old e
    refine .inr ⟨w2.heap.size, l.map u8 ++ [u8 x] ++ zcells (grownCap w2 (l.length + 1) old e - (l.length + 1)), ?_, by omega, by simp, Blk.marked ?_, ?_⟩
    · simp [zcells_len]; omega
    · rw [zeroCells_z]
      have := Blk.new w2.drew e (l.map u8 ++ [u8 x] ++ zcells (grownCap w2 (l.length + 1) old e - (l.length + 1)))
      simpa using this
    · rw [List.take_left' (by simp)]; simp
  rcases hst with ⟨rfl, rfl⟩ | ⟨g, cs, rfl, hg, hlc, hk, htk⟩
  · have hr := run_append_nil (P := P) w2 t ty e i (.int .u8 0) ht hi hz ⟨w.heap.size, 0, none⟩ 1 1 [u8 x] (by rw [hsize]; rfl) hcell (by omega) (by omega) (by rw [hby]; omega)
    exact ⟨_, _, hr, grown 0, fun a ha => ((hbel a ha).drew).alloc (by show B ≤ w2.heap.size; omega) _⟩
  · by_cases hroom : l.length + 1 ≤ cs.length
    · have hr := run_append_room_cells (P := P) (w := w2) t ty e i ht hi g 0 l.length cs.length ⟨w.heap.size, 0, none⟩ 1 1 [u8 x] (by rw [hsize]; rfl) hcell (by intro u hu; simp only [List.mem_cons, List.not_mem_nil, or_false] at hu; subst hu; rfl) hroom
        (fun j hj => by simp at hj; subst hj; rw [hsize, hk.cell, List.getElem?_eq_getElem (by omega)]; rfl)
        (fun j hj => by simp at hj; subst hj; rw [hsize]; exact hk.frozen (by omega))
      refine ⟨_, _, hr, .inr ⟨g, cs.set l.length (u8 x), by simp, hg, by simp; omega, ?_, ?_⟩, fun a ha => ?_⟩
      · rw [hsize, Nat.mul_one, Nat.zero_add]
        exact hk.set_ _ _
      · rw [List.length_append, List.length_singleton, List.map_append, ← htk, List.take_set]
        exact take_set_last cs l.length (by omega) (u8 x)
      · rw [hsize, Nat.mul_one, Nat.zero_add]
        exact (hbel a ha).setCell (p := ⟨g, l.length, none⟩) hg _
    · have hr := run_append_grow (P := P) w2 t ty e i (.int .u8 0) ht hi hz ⟨g, 0, none⟩ l.length cs.length (l.map u8) (by simp [hsize]) (fun j u hu => by
          rw [List.getElem?_map, Option.map_eq_some_iff] at hu
          obtain ⟨c, hc, rfl⟩ := hu
          rw [show (⟨g, 0, none⟩ : Addr).add j = ⟨g, j, none⟩ by unfold Addr.add; split <;> simp_all, hk.cell]
          exact take_at htk hc) ⟨w.heap.size, 0, none⟩ 1 1 [u8 x] (by rw [hsize]; rfl) hcell (by omega) (by omega) (by rw [hby]; exact growslice_fits (by omega) (by omega))
      rw [show (l.map u8).toArray ++ [u8 x].toArray = (l.map u8 ++ [u8 x]).toArray by simp] at hr
      exact ⟨_, _, hr, grown cs.length, fun a ha => ((hbel a ha).drew).alloc (by show B ≤ w2.heap.size; omega) _⟩
end
end Go.Proofs.YtgifmpobokaejaaGreatDoor


/-
  Layer 4, walks: a byte, shown. No condition.
-/
namespace Go.Proofs.YtgifmpobokaejaaGreatDoor
open Go.RowKit
attribute [local go_sem ↓] Go.wp_at_zero Go.wp_at_succ
attribute [local go_sem] rowAt_ptr rowOf_drew rowOf_drewN rowOf_alloc_past rowOf_new
theorem bs_part (s : List UInt8) (a b : Nat) : (bs s).extract a b = bs ((s.drop a).take (b - a)) := by
  apply ByteArray.ext
  simp [List.extract]
theorem dig_cut {n : Nat} (h : n < 16) : (bs digL).extract n (n + 1) = bs [dig n] := by
  rw [bs_part, show n + 1 - n = 1 by omega, ← List.getElem_cons_drop (show n < digL.length from h)]
  have e : dig n = digL[n]'h := by unfold dig; rw [List.getD_eq_getElem?_getD, List.getElem?_eq_getElem (show n < digL.length from h)]; rfl
  rw [e]
  rfl
end Go.Proofs.YtgifmpobokaejaaGreatDoor

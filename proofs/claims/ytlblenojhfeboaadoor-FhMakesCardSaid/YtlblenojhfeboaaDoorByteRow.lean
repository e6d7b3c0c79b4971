/-
  A row of bytes of the call's own; behind its last cell a mark may lie, as '[]byte(s)' leaves it. No condition but sizes.
-/
import Derived.Test.YtlblenojhfeboaaDoorBytes
import Derived.Test.YtlblenojhfeboaaDoorCells
import Derived.ArgAppend
import Derived.Laws.IdiomStrings
namespace Go.Proofs.YtlblenojhfeboaaDoor
open Go.RowKit

/-- block g is just these cells; a mark may lie behind them -/
def BlkM (w : World) (g : Nat) (t : TypeId) (cs : List Value) : Prop := ∃ m : Nat × Nat, (m = (0, 0) ∨ cs.length ≤ m.1) ∧ w.heap[g]? = some (.cells cs.toArray t m)
section
variable {w w' : World} {g : Nat} {t : TypeId} {cs : List Value}
theorem BlkM.lt (h : BlkM w g t cs) : g < w.heap.size := by
  obtain ⟨m, _, h⟩ := h
  rcases Nat.lt_or_ge g w.heap.size with hlt | hge
  · exact hlt
  · rw [Array.getElem?_eq_none hge] at h; cases h
theorem BlkM.cell (h : BlkM w g t cs) (i : Nat) : w.cell? ⟨g, i, none⟩ = cs[i]? := by
  obtain ⟨m, _, h⟩ := h
  rw [cell_of_row w g i _ t m h]; simp
theorem BlkM.frozen (h : BlkM w g t cs) {i : Nat} (hi : i < cs.length) : w.frozen? ⟨g, i, none⟩ = false := by
  obtain ⟨m, hm, h⟩ := h
  obtain ⟨m1, m2⟩ := m
  simp only [World.frozen?, h]
  rcases hm with hm | hm
  · injection hm with h1 h2; subst h1; subst h2; simp
  · simp; intro h3; exfalso; simp at hm; omega
theorem Blk.marked (h : Blk w g t cs) : BlkM w g t cs := ⟨(0, 0), .inl rfl, h⟩
theorem BlkM.alloc (h : BlkM w g t cs) (o : Obj) : BlkM (w.alloc o) g t cs := by
  have hl := h.lt
  obtain ⟨m, hm, h⟩ := h
  exact ⟨m, hm, (Below.heap_alloc w o g hl).trans h⟩
theorem BlkM.drew (h : BlkM w g t cs) : BlkM w.drew g t cs := h
theorem BlkM.set_ (h : BlkM w g t cs) (i : Nat) (u : Value) : BlkM (w.setCell ⟨g, i, none⟩ u) g t (cs.set i u) := by
  obtain ⟨m, hm, h⟩ := h
  refine ⟨m, by simpa using hm, ?_⟩
  simp [World.setCell, Array.getElem?_modify, h]
theorem BlkM.below {B : Nat} (h : BlkM w g t cs) (hb : Below B w w') (hg : g < B) : BlkM w' g t cs := by
  obtain ⟨m, hm, h⟩ := h
  exact ⟨m, hm, (hb.block g hg).trans h⟩
theorem BlkM.stays (h : BlkM w g t cs) (hb : Below w.heap.size w w') : BlkM w' g t cs := h.below hb h.lt

/-- a value that is a row of these bytes, of the call's own from B on -/
def RowB (w : World) (B : Nat) (e : TypeId) (v : Value) (l : List UInt8) : Prop :=
  (v = .slice none 0 0 ∧ l = []) ∨ ∃ g cs, v = .slice (some ⟨g, 0, none⟩) l.length cs.length ∧ B ≤ g ∧ l.length ≤ cs.length ∧ BlkM w g e cs ∧ cs.take l.length = l.map u8
variable {B : Nat} {e : TypeId} {v : Value} {l : List UInt8}
theorem RowB.none_ : RowB w B e (.slice none 0 0) [] := .inl ⟨rfl, rfl⟩
theorem RowB.stays (h : RowB w B e v l) (hb : Below w.heap.size w w') : RowB w' B e v l := by
  rcases h with h | ⟨g, cs, hv, hB, hl, hk, ht⟩
  · exact .inl h
  · exact .inr ⟨g, cs, hv, hB, hl, hk.stays hb, ht⟩
theorem RowB.len (h : RowB w B e v l) : ∃ A c, v = .slice A l.length c := by
  rcases h with ⟨rfl, rfl⟩ | ⟨g, cs, rfl, -⟩ <;> exact ⟨_, _, rfl⟩
theorem take_at {cs : List Value} {l : List UInt8} (ht : cs.take l.length = l.map u8) {i : Nat} {x : UInt8} (hx : l[i]? = some x) : cs[i]? = some (u8 x) := by
  have hi : i < l.length := (List.getElem?_eq_some_iff.1 hx).1
  have : (cs.take l.length)[i]? = some (u8 x) := by rw [ht, List.getElem?_map, hx]; rfl
  rw [List.getElem?_take, if_pos hi] at this
  exact this

theorem take_set_last (cs : List Value) (n : Nat) (h : n < cs.length) (x : Value) : (cs.take (n + 1)).set n x = cs.take n ++ [x] := by
  have hl : (cs.take n).length = n := by simp; omega
  rw [List.take_add_one, List.getElem?_eq_getElem h]
  simp only [Option.toList_some]
  rw [List.set_append_right _ _ (by omega), hl, Nat.sub_self]
  rfl

variable {P : Program}
/-- '[]byte(s)' is such a row -/
theorem RowB.of_string (w : World) (src dst : TypeId) (l : List UInt8) (hs : P.underlying src = some .string) (hd : P.underlying dst = some (.slice e)) (he : P.underlying e = some (.int .u8)) :
    ∃ v W', (convert src dst (.string (bs l))).run P w = .ok v W' ∧ RowB W' w.heap.size e v l ∧ Below w.heap.size w W' := by
  refine ⟨_, _, run_bytes_of_string w src dst e (bs l) hs hd he, .inr ⟨w.heap.size, l.map u8 ++ zcells (grownCap w l.length 0 e - l.length), ?_, Nat.le_refl _, by simp, ?_, by simp⟩, ((Below.refl _ _).drew).alloc (Nat.le_refl _) _⟩
  · have := grownCap_ge w l.length 0 e
    rw [bs_size]
    simp [zcells_len]
    omega
  · refine ⟨((bytesRow (bs l) (grownCap w (bs l).size 0 e)).size, (bytesRow (bs l) (grownCap w (bs l).size 0 e)).size + 1), .inr ?_, ?_⟩
    · simp [bytesRow, zcells_len, bs_size]
    · rw [show (l.map u8 ++ zcells (grownCap w l.length 0 e - l.length)).toArray = bytesRow (bs l) (grownCap w (bs l).size 0 e) by
        apply Array.ext'
        simp [bytesRow, zcells, u8, bs_size]]
      exact heap_alloc_new w.drew _

/-- string(b[:n]) -/
theorem RowB.string (h : RowB w B e v l) (src dst : TypeId) (hs : P.underlying src = some (.slice e)) (he : P.underlying e = some (.int .u8)) (hd : P.underlying dst = some .string) :
    (convert src dst v).run P w = .ok (.string (bs l)) w := by
  rcases h with ⟨rfl, rfl⟩ | ⟨g, cs, rfl, hB, hl, hk, ht⟩
  · exact run_convert_bytes_nil w src e hs he 0 0 dst hd
  · rw [run_convert_bytes_arg (P := P) w src e hs he g 0 l.length cs.length (l.map fun b => (b.toNat : Int)) (by simp) (fun i hi => by
      rw [Nat.zero_add, hk.cell, take_at ht (List.getElem?_eq_getElem hi)]
      simp [u8, hi]) dst hd, strOf]
theorem RowB.prefix_ (h : RowB w B e v l) {n : Nat} (hn : n ≤ l.length) : ∃ A c, v = .slice A l.length c ∧ RowB w B e (.slice A n c) (l.take n) := by
  have hm : (l.take n).length = n := by simp; omega
  rcases h with ⟨rfl, rfl⟩ | ⟨g, cs, rfl, hB, hl, hk, ht⟩
  · obtain rfl : n = 0 := by simpa using hn
    exact ⟨none, 0, rfl, .inl ⟨rfl, rfl⟩⟩
  · refine ⟨_, _, rfl, .inr ⟨g, cs, by rw [hm], hB, by omega, hk, ?_⟩⟩
    rw [hm, List.map_take, ← ht, List.take_take, Nat.min_eq_left hn]

/-- a byte is stored into the row -/
theorem RowB.store (h : RowB w B e v l) {i : Nat} (hi : i < l.length) (x : UInt8) : ∃ g c, v = .slice (some ⟨g, 0, none⟩) l.length c ∧ l.length ≤ c ∧ B ≤ g ∧ (w.cell? ⟨g, i, none⟩ = some (u8 l[i])) ∧ w.frozen? ⟨g, i, none⟩ = false ∧ RowB (w.setCell ⟨g, i, none⟩ (u8 x)) B e v (l.set i x) := by
  rcases h with ⟨rfl, rfl⟩ | ⟨g, cs, rfl, hB, hl, hk, ht⟩
  · simp at hi
  · refine ⟨g, cs.length, rfl, hl, hB, ?_, hk.frozen (by omega), .inr ⟨g, cs.set i (u8 x), by simp, hB, by simpa using hl, hk.set_ i _, ?_⟩⟩
    · rw [hk.cell]; exact take_at ht (List.getElem?_eq_getElem hi)
    · rw [List.length_set, List.take_set, ht, List.map_set]

/-- 'append(b, x)': the one byte lies in a new row -/
theorem RowB.append (t ty : TypeId) (i : TypeInfo) (ht : P.underlying t = some (.slice e)) (hi : P.info? e = some i) (hz : i.zero = some (.int .u8 0)) (hsize : i.size = 1) (hby : i.bytes = 1)
    (h : RowB w B e v l) (hB : B ≤ w.heap.size) (x : UInt8) (hl : l.length ≤ 1000000000) :
    ∃ v' w', (Builtin.append_ #[t, t] ty #[v, .slice (some ⟨w.heap.size, 0, none⟩) 1 1]).run P (w.alloc (.cells #[u8 x] e)) = .ok v' w' ∧ (RowB w' B e v' (l ++ [x]) ∧ ∀ a, Below B a w → Below B a w') := by
  have hone : Blk (w.alloc (.cells #[u8 x] e)) w.heap.size e [u8 x] := Blk.new w e [u8 x]
  have hcell : ∀ j u, [u8 x][j]? = some u → (w.alloc (.cells #[u8 x] e)).cell? ((⟨w.heap.size, 0, none⟩ : Addr).add j) = some u := fun j u hu => by
    rw [show (⟨w.heap.size, 0, none⟩ : Addr).add j = ⟨w.heap.size, j, none⟩ by unfold Addr.add; split <;> simp_all, hone.cell, hu]
  have hs : (w.alloc (.cells #[u8 x] e)).heap.size = w.heap.size + 1 := by simp
  have hbel : ∀ a, Below B a w → Below B a (w.alloc (.cells #[u8 x] e)) := fun a h => h.alloc hB _
  have hsz : w.heap.size ≤ (w.alloc (.cells #[u8 x] e)).heap.size := by omega
  have hst : RowB (w.alloc (.cells #[u8 x] e)) B e v l := h.stays ((Below.refl _ _).alloc (Nat.le_refl _) _)
  generalize w.alloc (.cells #[u8 x] e) = w2 at *
  have grown : ∀ (old : Nat), RowB (w2.drew.alloc (.cells ((l.map u8 ++ [u8 x]).toArray ++ Builtin.zeroCells (Value.int .u8 0).cells (grownCap w2 (l.length + 1) old e - (l.length + 1))) e)) B e (.slice (some ⟨w2.heap.size, 0, none⟩) (l.length + 1) (grownCap w2 (l.length + 1) old e)) (l ++ [x]) := fun old => by
    have hge := grownCap_ge w2 (l.length + 1) old e
    refine .inr ⟨w2.heap.size, l.map u8 ++ [u8 x] ++ zcells (grownCap w2 (l.length + 1) old e - (l.length + 1)), ?_, by omega, by simp, Blk.marked ?_, ?_⟩
    · simp [zcells_len]; omega
    · rw [zeroCells_z]
      have := Blk.new w2.drew e (l.map u8 ++ [u8 x] ++ zcells (grownCap w2 (l.length + 1) old e - (l.length + 1)))
      simpa using this
    · rw [List.take_left' (by simp)]; simp
  rcases hst with ⟨rfl, rfl⟩ | ⟨g, cs, rfl, hg, hlc, hk, htk⟩
  · have hr := run_append_nil (P := P) w2 t ty e i (.int .u8 0) ht hi hz ⟨w.heap.size, 0, none⟩ 1 1 [u8 x] (by rw [hsize]; rfl) hcell (by omega) (by omega) (by rw [hby]; omega)
    exact ⟨_, _, hr, grown 0, fun a ha => ((hbel a ha).drew).alloc (by show B ≤ w2.heap.size; omega) _⟩
  · by_cases hroom : l.length + 1 ≤ cs.length
    · have hr := run_append_room_cells (P := P) (w := w2) t ty e i ht hi g 0 l.length cs.length ⟨w.heap.size, 0, none⟩ 1 1 [u8 x] (by rw [hsize]; rfl) hcell (by intro u hu; simp only [List.mem_cons, List.not_mem_nil, or_false] at hu; subst hu; rfl) hroom
        (fun j hj => by simp at hj; subst hj; rw [hsize, hk.cell, List.getElem?_eq_getElem (by omega)]; rfl)
        (fun j hj => by simp at hj; subst hj; rw [hsize]; exact hk.frozen (by omega))
      refine ⟨_, _, hr, .inr ⟨g, cs.set l.length (u8 x), by simp, hg, by simp; omega, ?_, ?_⟩, fun a ha => ?_⟩
      · rw [hsize, Nat.mul_one, Nat.zero_add]
        exact hk.set_ _ _
      · rw [List.length_append, List.length_singleton, List.map_append, ← htk, List.take_set]
        exact take_set_last cs l.length (by omega) (u8 x)
      · rw [hsize, Nat.mul_one, Nat.zero_add]
        exact (hbel a ha).setCell (p := ⟨g, l.length, none⟩) hg _
    · have hr := run_append_grow (P := P) w2 t ty e i (.int .u8 0) ht hi hz ⟨g, 0, none⟩ l.length cs.length (l.map u8) (by simp [hsize]) (fun j u hu => by
          rw [List.getElem?_map, Option.map_eq_some_iff] at hu
          obtain ⟨c, hc, rfl⟩ := hu
          rw [show (⟨g, 0, none⟩ : Addr).add j = ⟨g, j, none⟩ by unfold Addr.add; split <;> simp_all, hk.cell]
          exact take_at htk hc) ⟨w.heap.size, 0, none⟩ 1 1 [u8 x] (by rw [hsize]; rfl) hcell (by omega) (by omega) (by rw [hby]; exact growslice_fits (by omega) (by omega))
      rw [show (l.map u8).toArray ++ [u8 x].toArray = (l.map u8 ++ [u8 x]).toArray by simp] at hr
      exact ⟨_, _, hr, grown cs.length, fun a ha => ((hbel a ha).drew).alloc (by show B ≤ w2.heap.size; omega) _⟩
end
end Go.Proofs.YtlblenojhfeboaaDoor

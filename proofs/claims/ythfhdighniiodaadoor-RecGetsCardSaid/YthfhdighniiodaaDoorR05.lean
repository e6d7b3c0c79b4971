/-
  A result that lies in memory; rows of a new block. No condition.
-/
import Derived.Test.YthfhdighniiodaaDoorR04
import Derived.Deep.MidRow
import Derived.Maps.AppendAt
import Derived.Deep.AppendLies
import Derived.Test.YthfhdighniiodaaDoorR01
import Derived.Test.YthfhdighniiodaaDoorR03
namespace Go.Proofs.YthfhdighniiodaaDoor
open Go.RowKit

/-- a return of one result that lies in memory: a whole struct's cells -/
theorem ret_cells {P : Program} {fn : Func} {R : Ending → World → Prop} {a : Act} {w : World} {p : Tmp} {ty : TypeId} {d : TypeDesc} (b o : Nat) (cs : List Value) (hres : fn.results = #[.cell p ty]) (hu : P.underlying ty = some d) (hd : d.isRow = true)
    (hi : (P.info? ty).map (·.size) = some cs.length) (hp : a.tmps.getD p undef = .pointer (some ⟨b, o, none⟩)) (hc : w.rangeAt b o cs) (hdef : a.defers = []) (hR : R (.returned (.agg cs.toArray)) w) : bodyPost P fn R .ret a w := by
  refine bodyPost_ret (v := .agg cs.toArray) ?_ hdef hR
  have hl := run_loadVar_mid (P := P) w b o ty cs d hc hu hd hi
  rw [Array.getD_eq_getD_getElem?] at hp
  simp [results, hres, hp, asAddr, hl]

theorem flat_get {sz : Nat} : ∀ (rows : List (List Value)), (∀ r ∈ rows, r.length = sz) → ∀ i r, rows[i]? = some r → ∀ j u, r[j]? = some u → rows.flatten[i * sz + j]? = some u
  | [], _, i, r, h, _, _, _ => by simp at h
  | r0 :: rows, hl, 0, r, h, j, u, hu => by
    obtain rfl : r0 = r := by simpa using h
    have hj : j < r0.length := (List.getElem?_eq_some_iff.1 hu).1
    rw [List.flatten_cons, Nat.zero_mul, Nat.zero_add, List.getElem?_append_left hj, hu]
  | r0 :: rows, hl, i + 1, r, h, j, u, hu => by
    have h0 : r0.length = sz := hl r0 (by simp)
    have ih := flat_get rows (fun r hr => hl r (by simp [hr])) i r (by simpa using h) j u hu
    rw [List.flatten_cons, List.getElem?_append_right (by rw [h0, Nat.succ_mul]; omega), h0, show (i + 1) * sz + j - sz = i * sz + j by rw [Nat.succ_mul]; omega]
    exact ih
theorem At.fresh (w : World) (T : TypeId) (sz b : Nat) (rows : List (List Value)) (h : ∀ r ∈ rows, r.length = sz) (hb : b = w.heap.size) : At (w.alloc (.cells rows.flatten.toArray T)) sz (some ⟨b, 0, none⟩) rows := fun i r hr => by
  subst hb
  refine ⟨w.heap.size, 0, rfl, by simp, fun j u hu => ?_⟩
  have := range_new w rows.flatten T (i * sz + j) u (flat_get rows h i r hr j u hu)
  simpa [Nat.add_assoc] using this
theorem Blk.setCells_ {w : World} {g : Nat} {T : TypeId} : ∀ (cs pre zs : List Value), zs.length = cs.length → Blk w g T (pre ++ zs) → Blk (w.setCells g pre.length cs) g T (pre ++ cs)
  | [], pre, zs, h, hb => by
    obtain rfl : zs = [] := List.eq_nil_of_length_eq_zero h
    exact hb
  | c :: cs, pre, z :: zs, h, hb => by
    rw [World.setCells]
    have h1 := hb.set_ pre.length c
    rw [show (pre ++ z :: zs).set pre.length c = (pre ++ [c]) ++ zs by simp] at h1
    have := Blk.setCells_ cs (pre ++ [c]) zs (by simpa using h) h1
    rw [show (pre ++ [c]).length = pre.length + 1 by simp] at this
    rw [show pre ++ c :: cs = pre ++ [c] ++ cs by simp]
    exact this
theorem Blk.whole {w : World} {g : Nat} {T : TypeId} {old cs : List Value} (h : Blk w g T old) (hl : old.length = cs.length) : Blk (w.setCells g 0 cs) g T cs := Blk.setCells_ cs [] old hl h
theorem Blk.farCells {g b : Nat} {T : TypeId} {cs : List Value} (hg : g ≠ b) : ∀ (vs : List Value) (o : Nat) (w : World), Blk w g T cs → Blk (w.setCells b o vs) g T cs
  | [], _, _, h => h
  | v :: vs, o, w, h => by
    rw [World.setCells]
    exact Blk.farCells hg vs (o + 1) _ (h.far (p := ⟨b, o, none⟩) hg v)
theorem Blk.there {w : World} {g : Nat} {T : TypeId} {cs : List Value} (h : Blk w g T cs) (o n : Nat) (hn : o + n ≤ cs.length) : w.there g o n := fun j hj => by
  exact ⟨by rw [h.cell, List.getElem?_eq_getElem (by omega)]; rfl, h.frozen _⟩
theorem Below.setCells {B : Nat} {a : World} {b : Nat} (hb : B ≤ b) : ∀ (vs : List Value) (o : Nat) (w : World), Below B a w → Below B a (w.setCells b o vs)
  | [], _, _, h => h
  | v :: vs, o, w, h => by
    rw [World.setCells]
    exact Below.setCells hb vs (o + 1) _ (h.setCell (p := ⟨b, o, none⟩) hb v)
theorem Blk.range {w : World} {g : Nat} {T : TypeId} {cs : List Value} (h : Blk w g T cs) : w.rangeAt g 0 cs := fun j v hv => by
  rw [h.cell]; simpa using hv
/-- a whole struct is stored into a block -/
theorem wpList_store_whole {P : Program} {ops : Array Oper} {rest : List Oper} {op : Oper} {a : Act} {w : World} {Q : Exit → Act → World → Prop} (hgd : op.guard = none) (T : TypeId) (x y : Operand) (ho : op.op = .store T x y)
    (b : Nat) (cs old : List Value) {T' : TypeId} (hB : Blk w b T' old) (hl : old.length = cs.length) (hx : a.eval x = .pointer (some ⟨b, 0, none⟩)) (hy : a.eval y = .agg cs.toArray) (hi : (P.info? T).map (·.size) = some cs.length)
    (h1 : ∀ v ∈ cs, v.oneCell' = true) (h : wpList P ops Q rest (a.put op.dst undef) (w.setCells b 0 cs)) : wpList P ops Q (op :: rest) a w :=
  wpList_store_mid hgd T x y ho b 0 cs.toArray hx hy (hB.there 0 _ (by simp [hl])) (by simpa using hi) (all_oneCell_toArray h1) (by simpa using h)
/-- .. into a new block -/
theorem wpList_store_new {P : Program} {ops : Array Oper} {rest : List Oper} {op : Oper} {a : Act} {w : World} {Q : Exit → Act → World → Prop} (hgd : op.guard = none) (T : TypeId) (x y : Operand) (ho : op.op = .store T x y)
    (cs zs : List Value) (w0 : World) (T' : TypeId) (hw : w = w0.alloc (.cells zs.toArray T')) (hl : zs.length = cs.length) (hx : a.eval x = .pointer (some ⟨w0.heap.size, 0, none⟩)) (hy : a.eval y = .agg cs.toArray) (hi : (P.info? T).map (·.size) = some cs.length)
    (h1 : ∀ v ∈ cs, v.oneCell' = true) (h : wpList P ops Q rest (a.put op.dst undef) (w0.alloc (.cells cs.toArray T'))) : wpList P ops Q (op :: rest) a w := by
  subst hw
  refine wpList_store_whole hgd T x y ho w0.heap.size cs zs (Blk.new _ _ _) hl hx hy hi h1 ?_
  have := setCells_new w0 T' cs [] zs hl
  simp only [List.nil_append, List.length_nil] at this
  rw [this]
  exact h

/-- two results, the first a whole struct's cells -/
theorem ret_cells2 {P : Program} {fn : Func} {R : Ending → World → Prop} {a : Act} {w : World} {p q : Tmp} {ty : TypeId} {d : TypeDesc} (b o : Nat) (cs : List Value) (v : Value) (hres : fn.results = #[.cell p ty, .tmp q]) (hu : P.underlying ty = some d) (hd : d.isRow = true)
    (hi : (P.info? ty).map (·.size) = some cs.length) (hp : a.tmps.getD p undef = .pointer (some ⟨b, o, none⟩)) (hq : a.tmps.getD q undef = v) (hc : w.rangeAt b o cs) (hdef : a.defers = []) (hR : R (.returned (.tuple #[.agg cs.toArray, v])) w) : bodyPost P fn R .ret a w := by
  refine bodyPost_ret (v := .tuple #[.agg cs.toArray, v]) ?_ hdef hR
  have hl := run_loadVar_mid (P := P) w b o ty cs d hc hu hd hi
  rw [Array.getD_eq_getD_getElem?] at hp hq
  simp [results, hres, hp, hq, asAddr, hl]
theorem range_at (w : World) (C : List Value) (T : TypeId) (b : Nat) (hb : b = w.heap.size) : (w.alloc (.cells C.toArray T)).rangeAt b 0 C := by subst hb; exact range_new w C T
theorem chain2_blks (w : World) (a b : List Value) (S T : TypeId) : Blk ((w.alloc (.cells a.toArray S)).alloc (.cells b.toArray T)) w.heap.size S a ∧ Blk ((w.alloc (.cells a.toArray S)).alloc (.cells b.toArray T)) (w.heap.size + 1) T b ∧
    Below w.heap.size w ((w.alloc (.cells a.toArray S)).alloc (.cells b.toArray T)) ∧ ((w.alloc (.cells a.toArray S)).alloc (.cells b.toArray T)).heap.size = w.heap.size + 1 + 1 := by
  have b0 := Blk.new w S a
  have B0 : Below w.heap.size w (w.alloc (.cells a.toArray S)) := (Below.refl _ _).alloc (Nat.le_refl _) _
  have e0 : (w.alloc (.cells a.toArray S)).heap.size = w.heap.size + 1 := by simp
  generalize w.alloc (.cells a.toArray S) = w0 at *
  have b1 := Blk.new w0 T b
  rw [e0] at b1
  exact ⟨b0.alloc _, b1, B0.alloc B0.size _, by simp [e0]⟩
theorem chain3_blks (w : World) (a b c : List Value) (S T U : TypeId) : Blk (((w.alloc (.cells a.toArray S)).alloc (.cells b.toArray T)).alloc (.cells c.toArray U)) w.heap.size S a ∧ Blk (((w.alloc (.cells a.toArray S)).alloc (.cells b.toArray T)).alloc (.cells c.toArray U)) (w.heap.size + 1) T b ∧
    Blk (((w.alloc (.cells a.toArray S)).alloc (.cells b.toArray T)).alloc (.cells c.toArray U)) (w.heap.size + 1 + 1) U c ∧ Below w.heap.size w (((w.alloc (.cells a.toArray S)).alloc (.cells b.toArray T)).alloc (.cells c.toArray U)) ∧
    (((w.alloc (.cells a.toArray S)).alloc (.cells b.toArray T)).alloc (.cells c.toArray U)).heap.size = w.heap.size + 1 + 1 + 1 := by
  obtain ⟨h1, h2, h3, h4⟩ := chain2_blks w a b S T
  generalize (w.alloc (.cells a.toArray S)).alloc (.cells b.toArray T) = w1 at *
  have h5 := Blk.new w1 U c
  rw [h4] at h5
  exact ⟨h1.alloc _, h2.alloc _, h5, h3.alloc h3.size _, by simp [h4]⟩
/-- some cells of a block are set -/
def setAt : List Value → Nat → List Value → List Value
  | l, _, [] => l
  | l, o, c :: cs => setAt (l.set o c) (o + 1) cs
theorem setAt_len : ∀ (cs l : List Value) (o : Nat), (setAt l o cs).length = l.length
  | [], _, _ => rfl
  | c :: cs, l, o => by rw [setAt, setAt_len cs]; simp
theorem Blk.sets {g : Nat} {T : TypeId} : ∀ (cs l : List Value) (o : Nat) (w : World), Blk w g T l → Blk (w.setCells g o cs) g T (setAt l o cs)
  | [], _, _, _, h => h
  | c :: cs, l, o, w, h => by
    rw [World.setCells, setAt]
    exact Blk.sets cs _ (o + 1) _ (h.set_ o c)
theorem Below.setWhole {B : Nat} {a w : World} {b : Nat} (h : Below B a w) (hb : B ≤ b) (cs : List Value) : Below B a (w.setCells b 0 cs) := Below.setCells hb cs 0 w h
/-- a struct is stored into the midst of a block -/
theorem wpList_store_part {P : Program} {ops : Array Oper} {rest : List Oper} {op : Oper} {a : Act} {w : World} {Q : Exit → Act → World → Prop} (hgd : op.guard = none) (T : TypeId) (x y : Operand) (ho : op.op = .store T x y)
    (b o : Nat) (cs old : List Value) {T' : TypeId} (hB : Blk w b T' old) (hl : o + cs.length ≤ old.length) (hx : a.eval x = .pointer (some ⟨b, o, none⟩)) (hy : a.eval y = .agg cs.toArray) (hi : (P.info? T).map (·.size) = some cs.length)
    (h1 : ∀ v ∈ cs, v.oneCell' = true) (h : wpList P ops Q rest (a.put op.dst undef) (w.setCells b o cs)) : wpList P ops Q (op :: rest) a w :=
  wpList_store_mid hgd T x y ho b o cs.toArray hx hy (hB.there o _ (by simpa using hl)) (by simpa using hi) (all_oneCell_toArray h1) (by simpa using h)
end Go.Proofs.YthfhdighniiodaaDoor

/-
  A row of structs (or of other elements of some cells) of the call's own: how one is put behind it, and how it is read. Conditions: sizes.
-/
namespace Go.Proofs.YthfhdighniiodaaDoor
open Go.RowKit

/-- v is a slice of these rows, each of sz cells, in blocks from B on -/
def RowS (w : World) (B : Nat) (e : TypeId) (sz : Nat) (v : Value) (rows : List (List Value)) : Prop :=
  (∀ r ∈ rows, r.length = sz) ∧ w.ownsRow B e sz v rows.length rows.flatten
section
variable {w w' : World} {B : Nat} {e : TypeId} {sz : Nat} {v : Value} {rows : List (List Value)}
theorem RowS.none_ : RowS w B e sz (.slice none 0 0) [] := ⟨by simp, World.ownsRow_nil _ _ _ _⟩
theorem RowS.at_ (h : RowS w B e sz v rows) : ∃ A c, v = .slice A rows.length c ∧ At w sz A rows := by
  obtain ⟨hl, hown⟩ := h
  have hlt := hown.lt
  have hcells := fun g hg => hown.cells (g := g) hg
  rcases hown.2 with ⟨rfl, h0⟩ | ⟨g, cap, cur, rfl, _⟩
  · refine ⟨none, 0, by rw [h0], ?_⟩
    rw [List.eq_nil_of_length_eq_zero h0]
    exact At.nil
  · refine ⟨_, _, rfl, fun i r hr => ⟨g, 0, rfl, (hlt g rfl).2, fun j u hu => ?_⟩⟩
    have := hcells g rfl (i * sz + j) u (flat_get rows hl i r hr j u hu)
    rw [Addr.add_mid, ← Nat.add_assoc] at this
    exact this
theorem RowS.stays (h : RowS w B e sz v rows) (hb : Below w.heap.size w w') : RowS w' B e sz v rows :=
  ⟨h.1, ownsRow_touch h.2 (Touch.of_below hb (fun _ => False)) fun _ _ hf => hf⟩
theorem RowS.touch {F : Nat → Prop} (h : RowS w B e sz v rows) (ht : Touch F w w') (hn : ∀ k, v.ownBlock = some k → ¬ F k) : RowS w' B e sz v rows :=
  ⟨h.1, ownsRow_touch h.2 ht hn⟩
theorem RowS.lt (h : RowS w B e sz v rows) : ∀ k, v.ownBlock = some k → B ≤ k ∧ k < w.heap.size := h.2.lt
theorem RowS.base {C : Nat} (h : RowS w B e sz v rows) (hC : C ≤ B) : RowS w C e sz v rows := ⟨h.1, h.2.1, by
  rcases h.2.2 with h | ⟨g, cap, cur, hv, hb, hr⟩
  · exact .inl h
  · exact .inr ⟨g, cap, cur, hv, Nat.le_trans hC hb, hr⟩⟩
theorem RowS.alloc (h : RowS w B e sz v rows) (o : Obj) : RowS (w.alloc o) B e sz v rows := h.stays ((Below.refl _ _).alloc (Nat.le_refl _) o)

variable {P : Program}
/-- 'append(l, x)': the one element lies in a new row -/
theorem RowS.append (t ty : TypeId) (i : TypeInfo) {z : Value} {bytes : Nat} (ht : P.underlying t = some (.slice e)) (hi : P.info? e = some i) (hz : i.zero = some z) (hsize : i.size = sz) (hby : i.bytes = bytes)
    (hzs : z.cells.size = sz) (h0 : 0 < sz) (hb : bytes ≤ 4096) (h : RowS w B e sz v rows) (hB : B ≤ w.heap.size) (r : List Value) (hr : r.length = sz) (h1 : ∀ u ∈ r, u.oneCell' = true) (hl : rows.length ≤ 1000000000) :
    ∃ v' w', (Builtin.append_ #[t, t] ty #[v, .slice (some ⟨w.heap.size, 0, none⟩) 1 1]).run P (w.alloc (.cells r.toArray e)) = .ok v' w' ∧
      (RowS w' B e sz v' (rows ++ [r]) ∧ ∀ a, Below B a w → Below B a w') := by
  have hone : Blk (w.alloc (.cells r.toArray e)) w.heap.size e r := Blk.new w e r
  have hcell : ∀ j u, r[j]? = some u → (w.alloc (.cells r.toArray e)).cell? ((⟨w.heap.size, 0, none⟩ : Addr).add j) = some u := fun j u hu => by
    rw [Addr.add_mid, Nat.zero_add, hone.cell, hu]
  obtain ⟨v', w', hrun, hown, hgrow, _, hat⟩ := run_append_own_at (P := P) (w := w.alloc (.cells r.toArray e)) B t ty e i z sz bytes ht hi hz hsize hby hzs h0 v rows.length rows.flatten (h.2.alloc _) ⟨w.heap.size, 0, none⟩ 1 1 r
    (by simpa using hr) hcell h1 (by unfold maxLen; omega) (Nat.le_trans (Nat.mul_le_mul (show rows.length + 1 ≤ 1000000001 by omega) hb) (by omega)) (by simp; omega)
  refine ⟨v', w', hrun, ⟨fun q hq => ?_, ?_⟩, fun a ha => ?_⟩
  · rcases List.mem_append.1 hq with hq | hq
    · exact h.1 q hq
    · simp at hq; subst hq; exact hr
  · rw [List.length_append, List.flatten_append]
    simpa using hown
  · exact (ha.alloc hB _).grown hgrow (by simp; omega) fun k hk => (h.2.lt k hk).1
end
end Go.Proofs.YthfhdighniiodaaDoor


/-
  Plain laws of lists: a search up to a number of elements. No condition.
-/
namespace Go.Proofs.YthfhdighniiodaaDoor
variable {α : Type}

theorem take_next (l : List α) (k : Nat) (hk : k < l.length) : l.take (k + 1) = l.take k ++ [l[k]] := List.take_succ_eq_append_getElem hk
/-- among the first N some one is so, or there are more than N -/
def over (p : α → Bool) (N : Nat) (l : List α) : Bool := (l.take N).any p || decide (N < l.length)
theorem over_yes {p : α → Bool} {N : Nat} {l : List α} {k : Nat} (hk : k < l.length) (h7 : k < N) (h : p l[k] = true) : over p N l = true := by
  have h1 : l[k] ∈ l.take N := by
    have : (l.take N)[k]? = some l[k] := by rw [List.getElem?_take, if_pos h7]; exact List.getElem?_eq_getElem hk
    exact List.mem_of_getElem? this
  unfold over; rw [List.any_eq_true.2 ⟨_, h1, h⟩]; rfl
theorem over_step {p : α → Bool} {l : List α} {k : Nat} (hk : k < l.length) (hn : (l.take k).any p = false) (h : p l[k] = false) : (l.take (k + 1)).any p = false := by
  rw [take_next _ _ hk, List.any_append, hn]; simp [h]
theorem over_end {p : α → Bool} {N : Nat} {l : List α} {k : Nat} (hk : k ≤ l.length) (hkN : k ≤ N) (hn : (l.take k).any p = false) (he : ¬ (k < l.length ∧ k < N)) : over p N l = decide ((N : Int) < (l.length : Int)) := by
  unfold over
  have : (l.take N).any p = false := by
    rcases Nat.lt_or_ge k N with h | h
    · rw [List.take_of_length_le (by omega)]
      rw [List.take_of_length_le (by omega)] at hn
      exact hn
    · obtain rfl : k = N := by omega
      exact hn
  rw [this, Bool.false_or]
  exact decide_eq_decide.2 (by omega)
theorem over_no {p : α → Bool} {N : Nat} {l : List α} (h : over p N l = false) : l.length ≤ N ∧ ∀ x ∈ l, p x = false := by
  unfold over at h
  rw [Bool.or_eq_false_iff] at h
  obtain ⟨h1, h2⟩ := h
  have hl : l.length ≤ N := by simpa using h2
  refine ⟨hl, fun t ht => ?_⟩
  rw [List.take_of_length_le hl] at h1
  simpa using List.any_eq_false.1 h1 t ht
end Go.Proofs.YthfhdighniiodaaDoor


/-
  Layer 17 in plain words: the changes that make a cache; rows of structures in memory. No condition.
-/
namespace Go.Proofs.YthfhdighniiodaaDoor
open Go.RowKit

def attr0 : Attr := ⟨0, 0, 0, 0, 0, 0, 0, 0, 0, 0⟩
def change0 : Change := ⟨0, 0, 0, [], [], [], attr0, 0, 0⟩
def hChange (h : Held) : Change := ⟨1, h.epoch, h.serial, h.up, [], [], attr0, 0, 0⟩
def fChange (f : Cached) : Change := ⟨3, 0, 0, f.up, [], [], f.attr, 0, 0⟩
def nChange (n : Known) : Change := ⟨6, 0, 0, n.dir, n.name, n.up, attr0, 0, 0⟩
def bChange (b : Placed) : Change := ⟨8, 0, 0, b.up, [], [], attr0, b.no, b.slot⟩

/-- the k-th row of a slice that came in -/
theorem rowCell {α : Type} {w : World} {sz : Nat} {A : Option Addr} {l : List α} {vals : α → List Value} (hA : At w sz A (l.map vals)) {k : Nat} (hk : k < l.length) :
    ∃ b off, A = some ⟨b, off, none⟩ ∧ b < w.heap.size ∧ ∀ j u, (vals l[k])[j]? = some u → w.cell? ⟨b, off + k * sz + j, none⟩ = some u := by
  obtain ⟨b, off, rfl, hb, hc⟩ := hA.getD (k := k) (by simpa using hk)
  exact ⟨b, off, rfl, hb, fun j u hu => hc j u (by simpa using hu)⟩
/-- a slice of structures of the call's own -/
abbrev RowL {α : Type} (vals : α → List Value) (w : World) (B : Nat) (e : TypeId) (sz : Nat) (v : Value) (l : List α) : Prop := RowS w B e sz v (l.map vals)
theorem map_snoc {α : Type} (vals : α → List Value) (l : List α) (x : α) : l.map vals ++ [vals x] = (l ++ [x]).map vals := by simp
theorem snoc_next {α β : Type} (pre : List β) (f : α → β) (l : List α) (k : Nat) (hk : k < l.length) : (pre ++ (l.take k).map f) ++ [f l[k]] = pre ++ (l.take (k + 1)).map f := by
  rw [take_next _ _ hk, List.map_append, List.append_assoc]; rfl
end Go.Proofs.YthfhdighniiodaaDoor

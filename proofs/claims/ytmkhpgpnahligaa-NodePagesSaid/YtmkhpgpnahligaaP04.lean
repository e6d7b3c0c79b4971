/-
  Memory words for objects that are written: which blocks a call may have changed; a block that is known whole; a row that grows. No condition.
-/
import Derived.Test.YtmkhpgpnahligaaP01
import Derived.Deep.AppendLies
import Derived.Lib.AppendStr
import Derived.Maps.AppendAt
import Derived.Deep.MidRow
import Derived.Test.YtmkhpgpnahligaaProg
import Derived.Test.YtmkhpgpnahligaaP02
import Derived.Deep.Light
namespace Go.Proofs.Ytmkhpgpnahligaa
open Go.RowKit

/-- all blocks that were there are as they were, but those of F -/
structure Touch (F : Nat → Prop) (w w' : World) : Prop where
  os : w'.os = w.os
  tape : w'.tape = w.tape
  output : w'.output = w.output
  size : w.heap.size ≤ w'.heap.size
  block : ∀ k, k < w.heap.size → ¬ F k → w'.heap[k]? = w.heap[k]?

theorem Touch.refl (F : Nat → Prop) (w : World) : Touch F w w := ⟨rfl, rfl, rfl, Nat.le_refl _, fun _ _ _ => rfl⟩
theorem Touch.of_below {w w' : World} (h : Below w.heap.size w w') (F : Nat → Prop) : Touch F w w' := ⟨h.os, h.tape, h.output, h.size, fun k hk _ => h.block k hk⟩
theorem Touch.of_grown {w w' : World} {row : Option Nat} (h : w.grownBy w' row) {F : Nat → Prop} (hF : ∀ k, row = some k → F k) : Touch F w w' :=
  ⟨h.os, h.tape, h.output, h.size, fun k hk hn => h.block k hk (fun e => hn (hF k e.symm))⟩
theorem Touch.mono {F G : Nat → Prop} {w w' : World} (h : Touch F w w') (hFG : ∀ k, k < w.heap.size → F k → G k) : Touch G w w' :=
  ⟨h.os, h.tape, h.output, h.size, fun k hk hn => h.block k hk (fun hf => hn (hFG k hk hf))⟩
/-- one behind the other: the second may change what is new, too -/
theorem Touch.trans {F G : Nat → Prop} {a b c : World} (h : Touch F a b) (k : Touch G b c) (hG : ∀ i, i < a.heap.size → G i → F i) : Touch F a c :=
  ⟨k.os.trans h.os, k.tape.trans h.tape, k.output.trans h.output, Nat.le_trans h.size k.size, fun i hi hn =>
    (k.block i (Nat.lt_of_lt_of_le hi h.size) (fun hg => hn (hG i hi hg))).trans (h.block i hi hn)⟩
theorem Touch.then_ {F : Nat → Prop} {a b c : World} (h : Touch F a b) (k : Touch F b c) : Touch F a c := h.trans k fun _ _ hg => hg
theorem Touch.alloc {F : Nat → Prop} {a b : World} (h : Touch F a b) (o : Obj) : Touch F a (b.alloc o) :=
  h.trans (Touch.of_below ((Below.refl _ _).alloc (Nat.le_refl _) o) F) fun _ _ hg => hg
theorem Touch.drew {F : Nat → Prop} {a b : World} (h : Touch F a b) : Touch F a b.drew := ⟨h.os, h.tape, h.output, h.size, h.block⟩
theorem Touch.drewN {F : Nat → Prop} {a b : World} (h : Touch F a b) (n : Nat) : Touch F a (b.drewN n) := ⟨h.os, h.tape, h.output, h.size, h.block⟩
theorem Touch.setCell {F : Nat → Prop} {a b : World} (h : Touch F a b) {p : Addr} (hp : F p.block ∨ a.heap.size ≤ p.block) (u : Value) : Touch F a (b.setCell p u) :=
  ⟨h.os, h.tape, h.output, by simpa [World.setCell] using h.size, fun i hi hn => (Below.heap_setCell b p u i (by
    rintro rfl
    rcases hp with hp | hp
    · exact hn hp
    · omega)).trans (h.block i hi hn)⟩
theorem Touch.below {F : Nat → Prop} {B : Nat} {w w' : World} (h : Touch F w w') (hF : ∀ k, k < w.heap.size → F k → B ≤ k) (hB : B ≤ w.heap.size) : Below B w w' :=
  ⟨h.os, h.tape, h.output, h.size, fun k hk => h.block k (by omega) (fun hf => by have := hF k (by omega) hf; omega)⟩
theorem Touch.cell {F : Nat → Prop} {w w' : World} (h : Touch F w w') {p : Addr} (hp : p.block < w.heap.size) (hn : ¬ F p.block) : w'.cell? p = w.cell? p := World.cell?_of_block (h.block p.block hp hn)
theorem Touch.row {F : Nat → Prop} {w w' : World} (h : Touch F w w') {b : Nat} (hb : b < w.heap.size) (hn : ¬ F b) (o n : Nat) : rowOf w' b o n = rowOf w b o n := by
  simp only [rowOf, h.block b hb hn]

/-- block g is just these cells of element type t, none frozen -/
def Blk (w : World) (g : Nat) (t : TypeId) (cs : List Value) : Prop := w.heap[g]? = some (.cells cs.toArray t (0, 0))
section
variable {w w' : World} {g : Nat} {t : TypeId} {cs : List Value}
theorem Blk.lt (h : Blk w g t cs) : g < w.heap.size := by
  rcases Nat.lt_or_ge g w.heap.size with hlt | hge
  · exact hlt
  · unfold Blk at h; rw [Array.getElem?_eq_none hge] at h; cases h
theorem Blk.cell (h : Blk w g t cs) (i : Nat) : w.cell? ⟨g, i, none⟩ = cs[i]? := by rw [cell_of_row w g i _ t (0, 0) h]; simp
theorem Blk.frozen (h : Blk w g t cs) (i : Nat) : w.frozen? ⟨g, i, none⟩ = false := by
  unfold Blk at h
  simp [World.frozen?, h]
theorem Blk.new (w : World) (t : TypeId) (cs : List Value) : Blk (w.alloc (.cells cs.toArray t)) w.heap.size t cs := heap_alloc_new w _
theorem Blk.drew (h : Blk w g t cs) : Blk w.drew g t cs := h
theorem Blk.drewN (h : Blk w g t cs) (n : Nat) : Blk (w.drewN n) g t cs := h
theorem Blk.alloc (h : Blk w g t cs) (o : Obj) : Blk (w.alloc o) g t cs := (Below.heap_alloc w o g h.lt).trans h
theorem Blk.set_ (h : Blk w g t cs) (i : Nat) (u : Value) : Blk (w.setCell ⟨g, i, none⟩ u) g t (cs.set i u) := by
  unfold Blk at h ⊢
  simp [World.setCell, Array.getElem?_modify, h]
theorem Blk.far (h : Blk w g t cs) {p : Addr} (hp : g ≠ p.block) (u : Value) : Blk (w.setCell p u) g t cs := (Below.heap_setCell w p u g hp).trans h
theorem Blk.touch {F : Nat → Prop} (h : Blk w g t cs) (hb : Touch F w w') (hn : ¬ F g) : Blk w' g t cs := (hb.block g h.lt hn).trans h
theorem Blk.below {B : Nat} (h : Blk w g t cs) (hb : Below B w w') (hg : g < B) : Blk w' g t cs := (hb.block g hg).trans h
theorem Blk.stays (h : Blk w g t cs) (hb : Below w.heap.size w w') : Blk w' g t cs := h.below hb h.lt
theorem Blk.grown {row : Option Nat} (h : Blk w g t cs) (hb : w.grownBy w' row) (hg : row ≠ some g) : Blk w' g t cs := (hb.block g h.lt (fun e => hg e.symm)).trans h
theorem Blk.ne_ {g' : Nat} {t' : TypeId} {cs' : List Value} (h : Blk w g t cs) (h' : Blk w g' t' cs') (hne : t ≠ t') : g ≠ g' := by
  rintro rfl
  unfold Blk at h h'
  rw [h] at h'
  injection h' with h'
  injection h' with _ ht
  exact hne ht
theorem Blk.inj {cs' : List Value} (h : Blk w g t cs) (h' : Blk w g t cs') : cs = cs' := by
  unfold Blk at h h'
  rw [h] at h'
  injection h' with h'
  injection h' with hc
  simpa using hc
theorem Blk.own_ne {base : Nat} {e : TypeId} {size n : Nat} {v : Value} {xs : List Value} (h : w.ownsRow base e size v n xs) (hg : Blk w g t cs) (hne : e ≠ t) : v.ownBlock ≠ some g := by
  rcases h.2 with ⟨rfl, _⟩ | ⟨g', cap, cur, rfl, _, hh, _⟩
  · simp [Value.ownBlock]
  · intro he
    have : g' = g := by simpa [Value.ownBlock] using he
    subst this
    unfold Blk at hg
    rw [hh] at hg
    injection hg with hg
    injection hg with _ ht
    exact hne ht
theorem Blk.row (h : Blk w g t cs) (o n : Nat) (hn : o + n ≤ cs.length) : rowOf w g o n = some ((cs.drop o).take n).toArray := by
  unfold Blk at h
  unfold rowOf
  simp only [h]
  rw [if_pos (by simpa using hn)]
  simp
end
theorem At.touch {w w' : World} {sz : Nat} {A : Option Addr} {rows : List (List Value)} {F : Nat → Prop} (h : At w sz A rows) (hb : Touch F w w') (hn : ∀ b off, A = some ⟨b, off, none⟩ → ¬ F b) : At w' sz A rows := by
  intro i r hr
  obtain ⟨b, off, hA, hlt, hc⟩ := h i r hr
  exact ⟨b, off, hA, Nat.lt_of_lt_of_le hlt hb.size, fun j u hu => (hb.cell (p := ⟨b, _, none⟩) hlt (hn b off hA)).trans (hc j u hu)⟩
theorem ownsRow_touch {w w' : World} {base : Nat} {e : TypeId} {size n : Nat} {v : Value} {xs : List Value} {F : Nat → Prop} (h : w.ownsRow base e size v n xs) (hb : Touch F w w') (hn : ∀ k, v.ownBlock = some k → ¬ F k) : w'.ownsRow base e size v n xs := by
  obtain ⟨h1, h2⟩ := h
  refine ⟨h1, ?_⟩
  rcases h2 with h2 | ⟨g, cap, cur, hv, hg, hh, r⟩
  · exact Or.inl h2
  · have hlt : g < w.heap.size := by
      rcases Nat.lt_or_ge g w.heap.size with h | h
      · exact h
      · rw [Array.getElem?_eq_none h] at hh; cases hh
    exact Or.inr ⟨g, cap, cur, hv, hg, by rw [hb.block g hlt (hn g (by rw [hv]; rfl))]; exact hh, r⟩

end Go.Proofs.Ytmkhpgpnahligaa

/-
  A result that lies in memory; rows of a new block. No condition.
-/
namespace Go.Proofs.Ytmkhpgpnahligaa
open Go.RowKit

/-- a return of one result that lies in memory: a whole struct's cells -/
theorem ret_cells {P : Program} {fn : Func} {R : Ending → World → Prop} {a : Act} {w : World} {p : Tmp} {ty : TypeId} {d : TypeDesc} (b o : Nat) (cs : List Value) (hres : fn.results = #[.cell p ty]) (hu : P.underlying ty = some d) (hd : d.isRow = true)
    (hi : (P.info? ty).map (·.size) = some cs.length) (hp : a.tmps.getD p undef = .pointer (some ⟨b, o, none⟩)) (hc : w.rangeAt b o cs) (hdef : a.defers = []) (hR : R (.returned (.agg cs.toArray)) w) : bodyPost P fn R .ret a w := by
  refine bodyPost_ret (v := .agg cs.toArray) ?_ hdef hR
  have hl := run_loadVar_mid (P := P) w b o ty cs d hc hu hd hi
  rw [Array.getD_eq_getD_getElem?] at hp
  simp [results, hres, hp, asAddr, hl]

theorem flat_get {sz : Nat} : ∀ (rows : List (List Value)), (∀ r ∈ rows, r.length = sz) → ∀ i r, rows[i]? = some r → ∀ j u, r[j]? = some u → rows.flatten[i * sz + j]? = some u
  | [], _, i, r, h, _, _, _ => by simp at h
  | r0 :: rows, hl, 0, r, h, j, u, hu => by
    obtain rfl : r0 = r := by simpa using h
    have hj : j < r0.length := (List.getElem?_eq_some_iff.1 hu).1
    rw [List.flatten_cons, Nat.zero_mul, Nat.zero_add, List.getElem?_append_left hj, hu]
  | r0 :: rows, hl, i + 1, r, h, j, u, hu => by
    have h0 : r0.length = sz := hl r0 (by simp)
    have ih := flat_get rows (fun r hr => hl r (by simp [hr])) i r (by simpa using h) j u hu
    rw [List.flatten_cons, List.getElem?_append_right (by rw [h0, Nat.succ_mul]; omega), h0, show (i + 1) * sz + j - sz = i * sz + j by rw [Nat.succ_mul]; omega]
    exact ih
theorem At.fresh (w : World) (T : TypeId) (sz b : Nat) (rows : List (List Value)) (h : ∀ r ∈ rows, r.length = sz) (hb : b = w.heap.size) : At (w.alloc (.cells rows.flatten.toArray T)) sz (some ⟨b, 0, none⟩) rows := fun i r hr => by
  subst hb
  refine ⟨w.heap.size, 0, rfl, by simp, fun j u hu => ?_⟩
  have := range_new w rows.flatten T (i * sz + j) u (flat_get rows h i r hr j u hu)
  simpa [Nat.add_assoc] using this
theorem Blk.setCells_ {w : World} {g : Nat} {T : TypeId} : ∀ (cs pre zs : List Value), zs.length = cs.length → Blk w g T (pre ++ zs) → Blk (w.setCells g pre.length cs) g T (pre ++ cs)
  | [], pre, zs, h, hb => by
    obtain rfl : zs = [] := List.eq_nil_of_length_eq_zero h
    exact hb
  | c :: cs, pre, z :: zs, h, hb => by
    rw [World.setCells]
    have h1 := hb.set_ pre.length c
    rw [show (pre ++ z :: zs).set pre.length c = (pre ++ [c]) ++ zs by simp] at h1
    have := Blk.setCells_ cs (pre ++ [c]) zs (by simpa using h) h1
    rw [show (pre ++ [c]).length = pre.length + 1 by simp] at this
    rw [show pre ++ c :: cs = pre ++ [c] ++ cs by simp]
    exact this
theorem Blk.whole {w : World} {g : Nat} {T : TypeId} {old cs : List Value} (h : Blk w g T old) (hl : old.length = cs.length) : Blk (w.setCells g 0 cs) g T cs := Blk.setCells_ cs [] old hl h
theorem Blk.farCells {g b : Nat} {T : TypeId} {cs : List Value} (hg : g ≠ b) : ∀ (vs : List Value) (o : Nat) (w : World), Blk w g T cs → Blk (w.setCells b o vs) g T cs
  | [], _, _, h => h
  | v :: vs, o, w, h => by
    rw [World.setCells]
    exact Blk.farCells hg vs (o + 1) _ (h.far (p := ⟨b, o, none⟩) hg v)
theorem Blk.there {w : World} {g : Nat} {T : TypeId} {cs : List Value} (h : Blk w g T cs) (o n : Nat) (hn : o + n ≤ cs.length) : w.there g o n := fun j hj => by
  exact ⟨by rw [h.cell, List.getElem?_eq_getElem (by omega)]; rfl, h.frozen _⟩
theorem Below.setCells {B : Nat} {a : World} {b : Nat} (hb : B ≤ b) : ∀ (vs : List Value) (o : Nat) (w : World), Below B a w → Below B a (w.setCells b o vs)
  | [], _, _, h => h
  | v :: vs, o, w, h => by
    rw [World.setCells]
    exact Below.setCells hb vs (o + 1) _ (h.setCell (p := ⟨b, o, none⟩) hb v)
theorem Blk.range {w : World} {g : Nat} {T : TypeId} {cs : List Value} (h : Blk w g T cs) : w.rangeAt g 0 cs := fun j v hv => by
  rw [h.cell]; simpa using hv
/-- a whole struct is stored into a block -/
theorem wpList_store_whole {P : Program} {ops : Array Oper} {rest : List Oper} {op : Oper} {a : Act} {w : World} {Q : Exit → Act → World → Prop} (hgd : op.guard = none) (T : TypeId) (x y : Operand) (ho : op.op = .store T x y)
    (b : Nat) (cs old : List Value) {T' : TypeId} (hB : Blk w b T' old) (hl : old.length = cs.length) (hx : a.eval x = .pointer (some ⟨b, 0, none⟩)) (hy : a.eval y = .agg cs.toArray) (hi : (P.info? T).map (·.size) = some cs.length)
    (h1 : ∀ v ∈ cs, v.oneCell' = true) (h : wpList P ops Q rest (a.put op.dst undef) (w.setCells b 0 cs)) : wpList P ops Q (op :: rest) a w :=
  wpList_store_mid hgd T x y ho b 0 cs.toArray hx hy (hB.there 0 _ (by simp [hl])) (by simpa using hi) (all_oneCell_toArray h1) (by simpa using h)
/-- .. into a new block -/
theorem wpList_store_new {P : Program} {ops : Array Oper} {rest : List Oper} {op : Oper} {a : Act} {w : World} {Q : Exit → Act → World → Prop} (hgd : op.guard = none) (T : TypeId) (x y : Operand) (ho : op.op = .store T x y)
    (cs zs : List Value) (w0 : World) (T' : TypeId) (hw : w = w0.alloc (.cells zs.toArray T')) (hl : zs.length = cs.length) (hx : a.eval x = .pointer (some ⟨w0.heap.size, 0, none⟩)) (hy : a.eval y = .agg cs.toArray) (hi : (P.info? T).map (·.size) = some cs.length)
    (h1 : ∀ v ∈ cs, v.oneCell' = true) (h : wpList P ops Q rest (a.put op.dst undef) (w0.alloc (.cells cs.toArray T'))) : wpList P ops Q (op :: rest) a w := by
  subst hw
  refine wpList_store_whole hgd T x y ho w0.heap.size cs zs (Blk.new _ _ _) hl hx hy hi h1 ?_
  have := setCells_new w0 T' cs [] zs hl
  simp only [List.nil_append, List.length_nil] at this
  rw [this]
  exact h

/-- two results, the first a whole struct's cells -/
theorem ret_cells2 {P : Program} {fn : Func} {R : Ending → World → Prop} {a : Act} {w : World} {p q : Tmp} {ty : TypeId} {d : TypeDesc} (b o : Nat) (cs : List Value) (v : Value) (hres : fn.results = #[.cell p ty, .tmp q]) (hu : P.underlying ty = some d) (hd : d.isRow = true)
    (hi : (P.info? ty).map (·.size) = some cs.length) (hp : a.tmps.getD p undef = .pointer (some ⟨b, o, none⟩)) (hq : a.tmps.getD q undef = v) (hc : w.rangeAt b o cs) (hdef : a.defers = []) (hR : R (.returned (.tuple #[.agg cs.toArray, v])) w) : bodyPost P fn R .ret a w := by
  refine bodyPost_ret (v := .tuple #[.agg cs.toArray, v]) ?_ hdef hR
  have hl := run_loadVar_mid (P := P) w b o ty cs d hc hu hd hi
  rw [Array.getD_eq_getD_getElem?] at hp hq
  simp [results, hres, hp, hq, asAddr, hl]
theorem range_at (w : World) (C : List Value) (T : TypeId) (b : Nat) (hb : b = w.heap.size) : (w.alloc (.cells C.toArray T)).rangeAt b 0 C := by subst hb; exact range_new w C T
theorem chain2_blks (w : World) (a b : List Value) (S T : TypeId) : Blk ((w.alloc (.cells a.toArray S)).alloc (.cells b.toArray T)) w.heap.size S a ∧ Blk ((w.alloc (.cells a.toArray S)).alloc (.cells b.toArray T)) (w.heap.size + 1) T b ∧
    Below w.heap.size w ((w.alloc (.cells a.toArray S)).alloc (.cells b.toArray T)) ∧ ((w.alloc (.cells a.toArray S)).alloc (.cells b.toArray T)).heap.size = w.heap.size + 1 + 1 := by
  have b0 := Blk.new w S a
  have B0 : Below w.heap.size w (w.alloc (.cells a.toArray S)) := (Below.refl _ _).alloc (Nat.le_refl _) _
  have e0 : (w.alloc (.cells a.toArray S)).heap.size = w.heap.size + 1 := by simp
  generalize w.alloc (.cells a.toArray S) = w0 at *
  have b1 := Blk.new w0 T b
  rw [e0] at b1
  exact ⟨b0.alloc _, b1, B0.alloc B0.size _, by simp [e0]⟩
theorem chain3_blks (w : World) (a b c : List Value) (S T U : TypeId) : Blk (((w.alloc (.cells a.toArray S)).alloc (.cells b.toArray T)).alloc (.cells c.toArray U)) w.heap.size S a ∧ Blk (((w.alloc (.cells a.toArray S)).alloc (.cells b.toArray T)).alloc (.cells c.toArray U)) (w.heap.size + 1) T b ∧
    Blk (((w.alloc (.cells a.toArray S)).alloc (.cells b.toArray T)).alloc (.cells c.toArray U)) (w.heap.size + 1 + 1) U c ∧ Below w.heap.size w (((w.alloc (.cells a.toArray S)).alloc (.cells b.toArray T)).alloc (.cells c.toArray U)) ∧
    (((w.alloc (.cells a.toArray S)).alloc (.cells b.toArray T)).alloc (.cells c.toArray U)).heap.size = w.heap.size + 1 + 1 + 1 := by
  obtain ⟨h1, h2, h3, h4⟩ := chain2_blks w a b S T
  generalize (w.alloc (.cells a.toArray S)).alloc (.cells b.toArray T) = w1 at *
  have h5 := Blk.new w1 U c
  rw [h4] at h5
  exact ⟨h1.alloc _, h2.alloc _, h5, h3.alloc h3.size _, by simp [h4]⟩
/-- some cells of a block are set -/
def setAt : List Value → Nat → List Value → List Value
  | l, _, [] => l
  | l, o, c :: cs => setAt (l.set o c) (o + 1) cs
theorem setAt_len : ∀ (cs l : List Value) (o : Nat), (setAt l o cs).length = l.length
  | [], _, _ => rfl
  | c :: cs, l, o => by rw [setAt, setAt_len cs]; simp
theorem Blk.sets {g : Nat} {T : TypeId} : ∀ (cs l : List Value) (o : Nat) (w : World), Blk w g T l → Blk (w.setCells g o cs) g T (setAt l o cs)
  | [], _, _, _, h => h
  | c :: cs, l, o, w, h => by
    rw [World.setCells, setAt]
    exact Blk.sets cs _ (o + 1) _ (h.set_ o c)
theorem Below.setWhole {B : Nat} {a w : World} {b : Nat} (h : Below B a w) (hb : B ≤ b) (cs : List Value) : Below B a (w.setCells b 0 cs) := Below.setCells hb cs 0 w h
/-- a struct is stored into the midst of a block -/
theorem wpList_store_part {P : Program} {ops : Array Oper} {rest : List Oper} {op : Oper} {a : Act} {w : World} {Q : Exit → Act → World → Prop} (hgd : op.guard = none) (T : TypeId) (x y : Operand) (ho : op.op = .store T x y)
    (b o : Nat) (cs old : List Value) {T' : TypeId} (hB : Blk w b T' old) (hl : o + cs.length ≤ old.length) (hx : a.eval x = .pointer (some ⟨b, o, none⟩)) (hy : a.eval y = .agg cs.toArray) (hi : (P.info? T).map (·.size) = some cs.length)
    (h1 : ∀ v ∈ cs, v.oneCell' = true) (h : wpList P ops Q rest (a.put op.dst undef) (w.setCells b o cs)) : wpList P ops Q (op :: rest) a w :=
  wpList_store_mid hgd T x y ho b o cs.toArray hx hy (hB.there o _ (by simpa using hl)) (by simpa using hi) (all_oneCell_toArray h1) (by simpa using h)
end Go.Proofs.Ytmkhpgpnahligaa


/-
  Layer 8, walks: which letters a procedure's results have (written by wip/tools/genfields8.py). No condition.
-/
namespace Go.Proofs.Ytmkhpgpnahligaa
open Go.RowKit
attribute [local go_sem ↓] Go.wp_at_zero Go.wp_at_succ
attribute [local go_sem] rowAt_ptr rowOf_drew rowOf_drewN rowOf_alloc_past rowOf_new

def lettersP : List (List UInt8) := [[], [97], [119], [104, 97, 68], [97, 120], [97, 100], [97, 101, 100], [119, 99, 115, 118], [104, 97, 119], [104, 97, 119], [104, 97, 119], [104, 97, 119], [119], [119], [119, 87], [97, 87], [97, 118, 108, 101], [97, 118, 112, 101], [97, 110], [97, 110], [97, 110], [119, 118]]
def lettersQ : List (List UInt8) := [[], [], [119], [68], [97], [97], [97], [119], [119], [119], [119], [119], [119], [119], [119, 87], [97, 87], [97], [97], [97], [97], [97], [119]]
def lettersPQ (fine : Bool) : List (List UInt8) := if fine then lettersP else lettersQ
/-- the letters of a procedure's results -/
def pFields (p : Int) (fine : Bool) : List UInt8 := if p < 0 then [] else (lettersPQ fine).getD p.toNat []
theorem pFields_cases (p : Int) : p < 0 ∨ 22 ≤ p ∨ p = 0 ∨ p = 1 ∨ p = 2 ∨ p = 3 ∨ p = 4 ∨ p = 5 ∨ p = 6 ∨ p = 7 ∨ p = 8 ∨ p = 9 ∨ p = 10 ∨ p = 11 ∨ p = 12 ∨ p = 13 ∨ p = 14 ∨ p = 15 ∨ p = 16 ∨ p = 17 ∨ p = 18 ∨ p = 19 ∨ p = 20 ∨ p = 21 := by omega
theorem pFields_low {p : Int} {fine : Bool} (h : p < 0) : pFields p fine = [] := by simp [pFields, h]
theorem pFields_high {p : Int} {fine : Bool} (h : 22 ≤ p) : pFields p fine = [] := by
  have h1 : ¬ p < 0 := by omega
  have h2 : (lettersPQ fine).length ≤ p.toNat := by
    have : (lettersPQ fine).length = 22 := by cases fine <;> rfl
    omega
  simp [pFields, h1, List.getD, List.getElem?_eq_none h2]

set_option maxHeartbeats 1600000 in
theorem refused_any (p : Int) (w : World) : Calls Try.prog 29 #[.int .i64 p] w fun e w' => e = .returned (.string (bs (pFields p false))) ∧ Below w.heap.size w w' := by
  rcases pFields_cases p with hlo | hhi | rfl | rfl | rfl | rfl | rfl | rfl | rfl | rfl | rfl | rfl | rfl | rfl | rfl | rfl | rfl | rfl | rfl | rfl | rfl | rfl | rfl | rfl
  · rw [pFields_low hlo]
    go_enter Try.func29, Try.ntmps29
    go_wp2
    all_goals first
      | (go_ret; exact ⟨rfl, Below.refl _ _⟩)
      | (exfalso; omega)
  · rw [pFields_high hhi]
    have hlo : ¬ p < 0 := by omega
    go_enter Try.func29, Try.ntmps29
    go_wp2
    all_goals first
      | (go_ret; exact ⟨rfl, Below.refl _ _⟩)
      | (exfalso; omega)
  all_goals
    go_enter Try.func29, Try.ntmps29
    go_wp2
    go_ret
    exact ⟨rfl, Below.refl _ _⟩

set_option maxHeartbeats 1600000 in
theorem replyFieldsT_any (p : Int) (w : World) : Calls Try.prog 13 #[.int .i64 p, .bool true] w fun e w' => e = .returned (.string (bs (pFields p true))) ∧ Below w.heap.size w w' := by
  rcases pFields_cases p with hlo | hhi | rfl | rfl | rfl | rfl | rfl | rfl | rfl | rfl | rfl | rfl | rfl | rfl | rfl | rfl | rfl | rfl | rfl | rfl | rfl | rfl | rfl | rfl
  · rw [pFields_low hlo]
    go_enter Try.func13, Try.ntmps13
    go_wp2
    all_goals first
      | (go_ret; exact ⟨rfl, Below.refl _ _⟩)
      | (exfalso; omega)
  · rw [pFields_high hhi]
    go_enter Try.func13, Try.ntmps13
    go_wp2
    all_goals first
      | (go_ret; exact ⟨rfl, Below.refl _ _⟩)
      | (exfalso; omega)
  all_goals
    go_enter Try.func13, Try.ntmps13
    go_wp2
    go_ret
    exact ⟨rfl, Below.refl _ _⟩

theorem replyFields_any (p : Int) (fine : Bool) (w : World) : Calls Try.prog 13 #[.int .i64 p, .bool fine] w fun e w' => e = .returned (.string (bs (pFields p fine))) ∧ Below w.heap.size w w' := by
  cases fine
  · have hr := refused_any p w
    generalize pFields p false = l at *
    go_enter Try.func13, Try.ntmps13
    go_wp2_with fail
    refine hr.mono ?_
    rintro e w1 ⟨rfl, hb1⟩
    go_wp2
    go_ret
    exact ⟨rfl, hb1⟩
  · exact replyFieldsT_any p w
end Go.Proofs.Ytmkhpgpnahligaa

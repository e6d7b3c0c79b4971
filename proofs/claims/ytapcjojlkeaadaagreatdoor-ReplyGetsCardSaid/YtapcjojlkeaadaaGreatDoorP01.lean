/-
  Memory words for all walks: a slice whose rows of cells are known; what a region that draws its order keeps. No condition.
-/
import Derived.WalkKit
import Derived.WalkSpells
import Derived.WalkLawsBesides
import Derived.Deep.RegionHeld3
import Derived.Deep.DrawnRows
import Derived.Deep.MidRow
import Derived.Deep.Draws
import Derived.BigQuiet
import Derived.Deep.QuietTactic
import Derived.Deep.LoopGhost
import Derived.Lib.Hide
import Derived.Deep.AppendLies
import Derived.Lib.AppendStr
import Derived.Maps.AppendAt
namespace Go.Proofs.YtapcjojlkeaadaaGreatDoor
open Go.RowKit

theorem below_then {w W W' : World} (h : Below w.heap.size w W) (hb : Below W.heap.size W W') : Below w.heap.size w W' := h.trans (hb.mono h.size)
theorem bdN {B : Nat} {a w : World} (h : Below B a w) (n : Nat) : Below B a (w.drewN n) := ⟨h.os, h.tape, h.output, h.size, h.block⟩
theorem below_new {w W : World} (o : Obj) (hb : Below (w.alloc o).heap.size (w.alloc o) W) : Below w.heap.size w W :=
  below_then ((Below.refl _ _).alloc (Nat.le_refl _) o) hb

theorem ret_int {k : IntKind} {a b : Int} (h : a = b) : Ending.returned (.int k a) = .returned (.int k b) := by rw [h]
theorem ret_bool {a b : Bool} (h : a = b) : Ending.returned (.bool a) = .returned (.bool b) := by rw [h]

/-- a slice's address and rows of cells ('sz' cells an element), all below the heap's end -/
def At (w : World) (sz : Nat) (A : Option Addr) (rows : List (List Value)) : Prop :=
  ∀ i r, rows[i]? = some r → ∃ b off, A = some ⟨b, off, none⟩ ∧ b < w.heap.size ∧ ∀ j u, r[j]? = some u → w.cell? ⟨b, off + i * sz + j, none⟩ = some u

theorem At.below {w w' : World} {sz : Nat} {A : Option Addr} {rows : List (List Value)} (h : At w sz A rows) (hb : Below w.heap.size w w') : At w' sz A rows := by
  intro i r hr
  obtain ⟨b, off, hA, hlt, hc⟩ := h i r hr
  exact ⟨b, off, hA, Nat.lt_of_lt_of_le hlt hb.size, fun j u hu => (hb.cell (p := ⟨b, _, none⟩) hlt).trans (hc j u hu)⟩
theorem At.alloc {w : World} {sz : Nat} {A : Option Addr} {rows : List (List Value)} (h : At w sz A rows) (o : Obj) : At (w.alloc o) sz A rows :=
  h.below ((Below.refl _ _).alloc (Nat.le_refl _) o)
theorem At.drew {w : World} {sz : Nat} {A : Option Addr} {rows : List (List Value)} (h : At w sz A rows) : At w.drew sz A rows := h
theorem At.nil {w : World} {sz : Nat} {A : Option Addr} : At w sz A [] := fun i r h => by simp at h
theorem At.getD {w : World} {sz : Nat} {A : Option Addr} {rows : List (List Value)} (h : At w sz A rows) {k : Nat} (hk : k < rows.length) :
    ∃ b off, A = some ⟨b, off, none⟩ ∧ b < w.heap.size ∧ ∀ j u, rows[k][j]? = some u → w.cell? ⟨b, off + k * sz + j, none⟩ = some u := h k _ (List.getElem?_eq_getElem hk)

theorem At.range {w : World} {sz : Nat} {A : Option Addr} {rows : List (List Value)} (h : At w sz A rows) {k : Nat} (hk : k < rows.length) :
    ∃ b off, A = some ⟨b, off, none⟩ ∧ b < w.heap.size ∧ w.rangeAt b (off + k * sz) rows[k] := h.getD hk

section
variable {P : Program}
theorem setCells_new (w : World) (T : TypeId) : ∀ (cs : List Value) (pre zs : List Value), zs.length = cs.length →
    (w.alloc (.cells (pre ++ zs).toArray T)).setCells w.heap.size pre.length cs = w.alloc (.cells (pre ++ cs).toArray T)
  | [], pre, zs, h => by
    have : zs = [] := List.eq_nil_of_length_eq_zero h
    subst this; rfl
  | c :: cs, pre, z :: zs, h => by
    rw [World.setCells, World.setCell_alloc_at _ _ _ _ _ rfl]
    have e : (pre ++ z :: zs).toArray.setIfInBounds pre.length c = ((pre ++ [c]) ++ zs).toArray := by simp
    rw [e]
    have := setCells_new w T cs (pre ++ [c]) zs (by simpa using h)
    rw [show (pre ++ [c]).length = pre.length + 1 by simp] at this
    rw [this]; simp

/-- 'x := v' of a struct: a new variable, and the value stored into it. -/
theorem wpList_new_struct {ops : Array Oper} {rest : List Oper} {o1 o2 : Oper} {a : Act} {w : World} {Q : Exit → Act → World → Prop} (h1 : o1.guard = none) (h2 : o2.guard = none) (T : TypeId) (ho1 : o1.op = .alloc T) (x y : Operand) (ho2 : o2.op = .store T x y)
    (C : List Value) {Z : Array Value} {n : Nat} (hinfo : (P.info? T).map (fun i => (i.zero, i.size)) = some (some (.agg Z), n)) (hsz : C.length = n) (hZ : Z.size = n) (hone : ∀ v ∈ C, v.oneCell' = true)
    (hx : (a.put o1.dst (.pointer (some ⟨w.heap.size, 0, none⟩))).eval x = .pointer (some ⟨w.heap.size, 0, none⟩)) (hy : (a.put o1.dst (.pointer (some ⟨w.heap.size, 0, none⟩))).eval y = .agg C.toArray)
    (h : wpList P ops Q rest ((a.put o1.dst (.pointer (some ⟨w.heap.size, 0, none⟩))).put o2.dst undef) (w.alloc (.cells C.toArray T))) : wpList P ops Q (o1 :: o2 :: rest) a w := by
  obtain ⟨i, hi, hzi, hsi⟩ : ∃ i, P.info? T = some i ∧ i.zero = some (.agg Z) ∧ i.size = n := by
    cases hq : P.info? T with
    | none => rw [hq] at hinfo; cases hinfo
    | some i => rw [hq] at hinfo; simp at hinfo; exact ⟨i, rfl, hinfo.1, hinfo.2⟩
  refine wpList_plain h1 fun K hK => ?_
  have hrun : (Instr.alloc T true (.tuple #[])).run P w = .ok (.pointer (some ⟨w.heap.size, 0, none⟩)) (w.alloc (.cells Z T)) := by
    simp [Instr.alloc, zeroValue, typeInfo, hi, hzi, newVar, newRow, Value.cells, go_sem]
  unfold Oper.wp execOp
  simp only [ho1, Sem.run_bind, Sem.run_pure, Result.andThen_ok, hrun]
  refine hK _ _ ?_
  refine wpList_store_mid h2 T x y ho2 w.heap.size 0 C.toArray hx hy ?_ (by simp [hi, hsi, hsz]) (all_oneCell_toArray hone) ?_
  · intro j hj
    rw [World.cell?_alloc_at _ _ _ _ rfl, World.frozen?_alloc_at _ _ _ _ rfl]
    simp at hj
    simp
    omega
  · have := setCells_new w T C [] Z.toList (by simp; omega)
    simp only [List.nil_append, List.length_nil, Array.toArray_toList] at this
    simpa [this] using h
end
theorem range_new (w : World) (C : List Value) (T : TypeId) : (w.alloc (.cells C.toArray T)).rangeAt w.heap.size 0 C := fun j v hv => by
  rw [World.cell?_alloc_at _ _ _ _ rfl]; simpa using hv

/-- n cells of a block, from an offset on -/
def rowOf (w : World) (b o n : Nat) : Option (Array Value) :=
  match w.heap[b]? with
  | some (.cells C _ _) => if o + n ≤ C.size then some (C.extract o (o + n)) else none
  | _ => none
def rowAt (w : World) (n : Nat) : Value → Option (Array Value)
  | .pointer (some ⟨b, o, none⟩) => rowOf w b o n
  | _ => none
theorem rowAt_ptr (w : World) (n b o : Nat) : rowAt w n (.pointer (some ⟨b, o, none⟩)) = rowOf w b o n := rfl

theorem rowOf_range {w : World} {b o n : Nat} {cs : Array Value} (h : rowOf w b o n = some cs) : w.rangeAt b o cs.toList ∧ cs.size = n := by
  unfold rowOf at h
  split at h
  · rename_i C T fr hb
    split at h
    · rename_i hle
      obtain rfl : C.extract o (o + n) = cs := by simpa using h
      refine ⟨fun j v hv => ?_, by simp; omega⟩
      simp only [World.cell?, hb]
      simp only [Array.toList_extract, List.extract_eq_take_drop, List.getElem?_take, List.getElem?_drop] at hv
      split at hv
      · simpa using hv
      · cases hv
    · cases h
  · cases h
theorem rowOf_of {w : World} {b o n : Nat} {cs : List Value} (h : w.rangeAt b o cs) (hn : cs.length = n) (h0 : 0 < n) : rowOf w b o n = some cs.toArray := by
  have h1 := h 0 cs[0] (List.getElem?_eq_getElem (by omega))
  unfold World.cell? at h1
  split at h1
  · rename_i C T fr hb
    have hc : ∀ j v, cs[j]? = some v → C[o + j]? = some v := fun j v hv => by
      have := h j v hv
      simpa [World.cell?, hb] using this
    have hlast := hc (n - 1) cs[n - 1] (List.getElem?_eq_getElem (by omega))
    have hsz : o + (n - 1) < C.size := (Array.getElem?_eq_some_iff.1 hlast).1
    simp only at hb
    simp only [rowOf, hb]
    rw [if_pos (by omega)]
    congr 1
    apply Array.ext
    · simp; omega
    · intro i h2 h3
      simp at h3
      have := hc i cs[i] (List.getElem?_eq_getElem h3)
      have e := (Array.getElem?_eq_some_iff.1 this).2
      simpa using e
  · cases h1

theorem rowOf_drew (w : World) (b o n : Nat) : rowOf w.drew b o n = rowOf w b o n := rfl
theorem rowOf_drewN (w : World) (b o n k : Nat) : rowOf (w.drewN k) b o n = rowOf w b o n := rfl
theorem rowOf_alloc_at (w : World) (C : Array Value) (T : TypeId) (b n : Nat) (hb : b = w.heap.size) (hn : C.size = n) : rowOf (w.alloc (.cells C T)) b 0 n = some C := by
  subst hb hn
  simp only [rowOf, heap_alloc_new]
  simp
theorem rowOf_alloc_past (w : World) (ob : Obj) (b o n : Nat) (hb : b < w.heap.size) : rowOf (w.alloc ob) b o n = rowOf w b o n := by
  simp only [rowOf, Below.heap_alloc w ob b hb]
theorem rowOf_below {B : Nat} {w w' : World} (h : Below B w w') {b : Nat} (hb : b < B) (o n : Nat) : rowOf w' b o n = rowOf w b o n := by
  simp only [rowOf, h.block b hb]

theorem ex_load {P : Program} {ρ : Operand → Value} {w : World} {dst : Option Tmp} {ty : TypeId} {pos : String} {after : Array Edge} {g : Option (Nat × Bool)} {x : Operand} (T n : Nat) {d : TypeDesc}
    (hu : P.underlying T = some d) (hd : d.isRow = true) (hi : (P.info? T).map (·.size) = some n) (h : (rowAt w n (ρ x)).isSome = true) :
    (execOp ρ ⟨dst, .load T x, ty, pos, after, g⟩).run P w = .ok (.value (.agg ((rowAt w n (ρ x)).getD #[]))) w := by
  cases hr : rowAt w n (ρ x) with
  | none => rw [hr] at h; cases h
  | some cs =>
    cases hx : ρ x with
    | pointer p =>
      rw [hx] at hr
      match p, hr with
      | some ⟨b, o, none⟩, hr =>
        have hr' : rowOf w b o n = some cs := hr
        obtain ⟨h1, h2⟩ := rowOf_range hr'
        have := run_loadAt_mid (P := P) w b o T cs.toList d h1 hu hd (by rw [hi]; simp [h2])
        unfold execOp
        simp only [hx, Sem.run_bind, Sem.run_pure, Result.andThen_ok, this, Array.toArray_toList, Option.getD_some]
    | _ => rw [hx] at hr; cases hr

theorem rowOf_new (w : World) (C : Array Value) (T : TypeId) (b o n : Nat) (hb : b = w.heap.size) (hn : o + n ≤ C.size) : rowOf (w.alloc (.cells C T)) b o n = some (C.extract o (o + n)) := by
  subst hb
  simp only [rowOf, heap_alloc_new]
  rw [if_pos hn]
theorem cell_past (w : World) (ob : Obj) (b o : Nat) (h : b < w.heap.size) : (w.alloc ob).cell? ⟨b, o, none⟩ = w.cell? ⟨b, o, none⟩ := World.cell?_of_block (Below.heap_alloc w ob b h)
theorem frozen_past (w : World) (ob : Obj) (b o : Nat) (h : b < w.heap.size) : (w.alloc ob).frozen? ⟨b, o, none⟩ = w.frozen? ⟨b, o, none⟩ := by
  simp only [World.frozen?, Below.heap_alloc w ob b h]

/-- what holds of every world that a region that draws its order comes through: all blocks of w are as they were -/
abbrev Stb (w W : World) : Prop := (∀ b o, b < w.heap.size → W.cell? ⟨b, o, none⟩ = w.cell? ⟨b, o, none⟩) ∧ (∀ b o n, b < w.heap.size → rowOf W b o n = rowOf w b o n) ∧ Below w.heap.size w W
theorem Stb.of {w W : World} (h : Below w.heap.size w W) : Stb w W := ⟨fun _ _ hb => h.cell hb, fun _ _ _ hb => rowOf_below h hb _ _, h⟩
theorem Stb.start {w : World} : Stb w w.drew := Stb.of (Below.refl _ _).drew
theorem Stb.below {w W : World} (h : Stb w W) : Below w.heap.size w W := h.2.2
theorem Stb.call {w W W' : World} (h : Stb w W) (hb : Below W.heap.size W W') : Stb w W' := Stb.of (below_then h.2.2 hb)
theorem Stb.alloc {w W : World} (h : Stb w W) (o : Obj) : Stb w (W.alloc o) := Stb.of (h.2.2.alloc h.2.2.size o)
theorem At.stb {w W : World} {sz : Nat} {A : Option Addr} {rows : List (List Value)} (h : At w sz A rows) (hs : Stb w W) : At W sz A rows := h.below hs.2.2

end Go.Proofs.YtapcjojlkeaadaaGreatDoor

/-
  Memory words for objects that are written: which blocks a call may have changed; a block that is known whole; a row that grows. No condition.
-/
namespace Go.Proofs.YtapcjojlkeaadaaGreatDoor
open Go.RowKit

/-- all blocks that were there are as they were, but those of F -/
structure Touch (F : Nat → Prop) (w w' : World) : Prop where
  os : w'.os = w.os
  tape : w'.tape = w.tape
  output : w'.output = w.output
  size : w.heap.size ≤ w'.heap.size
  block : ∀ k, k < w.heap.size → ¬ F k → w'.heap[k]? = w.heap[k]?

theorem Touch.refl (F : Nat → Prop) (w : World) : Touch F w w := ⟨rfl, rfl, rfl, Nat.le_refl _, fun _ _ _ => rfl⟩
theorem Touch.of_below {w w' : World} (h : Below w.heap.size w w') (F : Nat → Prop) : Touch F w w' := ⟨h.os, h.tape, h.output, h.size, fun k hk _ => h.block k hk⟩
theorem Touch.of_grown {w w' : World} {row : Option Nat} (h : w.grownBy w' row) {F : Nat → Prop} (hF : ∀ k, row = some k → F k) : Touch F w w' :=
  ⟨h.os, h.tape, h.output, h.size, fun k hk hn => h.block k hk (fun e => hn (hF k e.symm))⟩
theorem Touch.mono {F G : Nat → Prop} {w w' : World} (h : Touch F w w') (hFG : ∀ k, k < w.heap.size → F k → G k) : Touch G w w' :=
  ⟨h.os, h.tape, h.output, h.size, fun k hk hn => h.block k hk (fun hf => hn (hFG k hk hf))⟩
/-- one behind the other: the second may change what is new, too -/
theorem Touch.trans {F G : Nat → Prop} {a b c : World} (h : Touch F a b) (k : Touch G b c) (hG : ∀ i, i < a.heap.size → G i → F i) : Touch F a c :=
  ⟨k.os.trans h.os, k.tape.trans h.tape, k.output.trans h.output, Nat.le_trans h.size k.size, fun i hi hn =>
    (k.block i (Nat.lt_of_lt_of_le hi h.size) (fun hg => hn (hG i hi hg))).trans (h.block i hi hn)⟩
theorem Touch.then_ {F : Nat → Prop} {a b c : World} (h : Touch F a b) (k : Touch F b c) : Touch F a c := h.trans k fun _ _ hg => hg
theorem Touch.alloc {F : Nat → Prop} {a b : World} (h : Touch F a b) (o : Obj) : Touch F a (b.alloc o) :=
  h.trans (Touch.of_below ((Below.refl _ _).alloc (Nat.le_refl _) o) F) fun _ _ hg => hg
theorem Touch.drew {F : Nat → Prop} {a b : World} (h : Touch F a b) : Touch F a b.drew := ⟨h.os, h.tape, h.output, h.size, h.block⟩
theorem Touch.drewN {F : Nat → Prop} {a b : World} (h : Touch F a b) (n : Nat) : Touch F a (b.drewN n) := ⟨h.os, h.tape, h.output, h.size, h.block⟩
theorem Touch.setCell {F : Nat → Prop} {a b : World} (h : Touch F a b) {p : Addr} (hp : F p.block ∨ a.heap.size ≤ p.block) (u : Value) : Touch F a (b.setCell p u) :=
  ⟨h.os, h.tape, h.output, by simpa [World.setCell] using h.size, fun i hi hn => (Below.heap_setCell b p u i (by
    rintro rfl
    rcases hp with hp | hp
    · exact hn hp
    · omega)).trans (h.block i hi hn)⟩
theorem Touch.below {F : Nat → Prop} {B : Nat} {w w' : World} (h : Touch F w w') (hF : ∀ k, k < w.heap.size → F k → B ≤ k) (hB : B ≤ w.heap.size) : Below B w w' :=
  ⟨h.os, h.tape, h.output, h.size, fun k hk => h.block k (by omega) (fun hf => by have := hF k (by omega) hf; omega)⟩
theorem Touch.cell {F : Nat → Prop} {w w' : World} (h : Touch F w w') {p : Addr} (hp : p.block < w.heap.size) (hn : ¬ F p.block) : w'.cell? p = w.cell? p := World.cell?_of_block (h.block p.block hp hn)
theorem Touch.row {F : Nat → Prop} {w w' : World} (h : Touch F w w') {b : Nat} (hb : b < w.heap.size) (hn : ¬ F b) (o n : Nat) : rowOf w' b o n = rowOf w b o n := by
  simp only [rowOf, h.block b hb hn]

/-- block g is just these cells of element type t, none frozen -/
def Blk (w : World) (g : Nat) (t : TypeId) (cs : List Value) : Prop := w.heap[g]? = some (.cells cs.toArray t (0, 0))
section
variable {w w' : World} {g : Nat} {t : TypeId} {cs : List Value}
theorem Blk.lt (h : Blk w g t cs) : g < w.heap.size := by
  rcases Nat.lt_or_ge g w.heap.size with hlt | hge
  · exact hlt
  · unfold Blk at h; rw [Array.getElem?_eq_none hge] at h; cases h
theorem Blk.cell (h : Blk w g t cs) (i : Nat) : w.cell? ⟨g, i, none⟩ = cs[i]? := by rw [cell_of_row w g i _ t (0, 0) h]; simp
theorem Blk.frozen (h : Blk w g t cs) (i : Nat) : w.frozen? ⟨g, i, none⟩ = false := by
  unfold Blk at h
  simp [World.frozen?, h]
theorem Blk.new (w : World) (t : TypeId) (cs : List Value) : Blk (w.alloc (.cells cs.toArray t)) w.heap.size t cs := heap_alloc_new w _
theorem Blk.drew (h : Blk w g t cs) : Blk w.drew g t cs := h
theorem Blk.drewN (h : Blk w g t cs) (n : Nat) : Blk (w.drewN n) g t cs := h
theorem Blk.alloc (h : Blk w g t cs) (o : Obj) : Blk (w.alloc o) g t cs := (Below.heap_alloc w o g h.lt).trans h
theorem Blk.set_ (h : Blk w g t cs) (i : Nat) (u : Value) : Blk (w.setCell ⟨g, i, none⟩ u) g t (cs.set i u) := by
  unfold Blk at h ⊢
  simp [World.setCell, Array.getElem?_modify, h]
theorem Blk.far (h : Blk w g t cs) {p : Addr} (hp : g ≠ p.block) (u : Value) : Blk (w.setCell p u) g t cs := (Below.heap_setCell w p u g hp).trans h
theorem Blk.touch {F : Nat → Prop} (h : Blk w g t cs) (hb : Touch F w w') (hn : ¬ F g) : Blk w' g t cs := (hb.block g h.lt hn).trans h
theorem Blk.below {B : Nat} (h : Blk w g t cs) (hb : Below B w w') (hg : g < B) : Blk w' g t cs := (hb.block g hg).trans h
theorem Blk.stays (h : Blk w g t cs) (hb : Below w.heap.size w w') : Blk w' g t cs := h.below hb h.lt
theorem Blk.grown {row : Option Nat} (h : Blk w g t cs) (hb : w.grownBy w' row) (hg : row ≠ some g) : Blk w' g t cs := (hb.block g h.lt (fun e => hg e.symm)).trans h
theorem Blk.ne_ {g' : Nat} {t' : TypeId} {cs' : List Value} (h : Blk w g t cs) (h' : Blk w g' t' cs') (hne : t ≠ t') : g ≠ g' := by
  rintro rfl
  unfold Blk at h h'
  rw [h] at h'
  injection h' with h'
  injection h' with _ ht
  exact hne ht
theorem Blk.inj {cs' : List Value} (h : Blk w g t cs) (h' : Blk w g t cs') : cs = cs' := by
  unfold Blk at h h'
  rw [h] at h'
  injection h' with h'
  injection h' with hc
  simpa using hc
theorem Blk.own_ne {base : Nat} {e : TypeId} {size n : Nat} {v : Value} {xs : List Value} (h : w.ownsRow base e size v n xs) (hg : Blk w g t cs) (hne : e ≠ t) : v.ownBlock ≠ some g := by
  rcases h.2 with ⟨rfl, _⟩ | ⟨g', cap, cur, rfl, _, hh, _⟩
  · simp [Value.ownBlock]
  · intro he
    have : g' = g := by simpa [Value.ownBlock] using he
    subst this
    unfold Blk at hg
    rw [hh] at hg
    injection hg with hg
    injection hg with _ ht
    exact hne ht
theorem Blk.row (h : Blk w g t cs) (o n : Nat) (hn : o + n ≤ cs.length) : rowOf w g o n = some ((cs.drop o).take n).toArray := by
  unfold Blk at h
  unfold rowOf
  simp only [h]
  rw [if_pos (by simpa using hn)]
  simp
end
theorem At.touch {w w' : World} {sz : Nat} {A : Option Addr} {rows : List (List Value)} {F : Nat → Prop} (h : At w sz A rows) (hb : Touch F w w') (hn : ∀ b off, A = some ⟨b, off, none⟩ → ¬ F b) : At w' sz A rows := by
  intro i r hr
  obtain ⟨b, off, hA, hlt, hc⟩ := h i r hr
  exact ⟨b, off, hA, Nat.lt_of_lt_of_le hlt hb.size, fun j u hu => (hb.cell (p := ⟨b, _, none⟩) hlt (hn b off hA)).trans (hc j u hu)⟩
theorem ownsRow_touch {w w' : World} {base : Nat} {e : TypeId} {size n : Nat} {v : Value} {xs : List Value} {F : Nat → Prop} (h : w.ownsRow base e size v n xs) (hb : Touch F w w') (hn : ∀ k, v.ownBlock = some k → ¬ F k) : w'.ownsRow base e size v n xs := by
  obtain ⟨h1, h2⟩ := h
  refine ⟨h1, ?_⟩
  rcases h2 with h2 | ⟨g, cap, cur, hv, hg, hh, r⟩
  · exact Or.inl h2
  · have hlt : g < w.heap.size := by
      rcases Nat.lt_or_ge g w.heap.size with h | h
      · exact h
      · rw [Array.getElem?_eq_none h] at hh; cases hh
    exact Or.inr ⟨g, cap, cur, hv, hg, by rw [hb.block g hlt (hn g (by rw [hv]; rfl))]; exact hh, r⟩

end Go.Proofs.YtapcjojlkeaadaaGreatDoor

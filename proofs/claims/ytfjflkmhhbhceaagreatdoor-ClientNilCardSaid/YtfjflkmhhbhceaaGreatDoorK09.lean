/-
  Two structs of numbers, truths and texts held against each other by '==', whole. No condition.
-/
import Derived.Test.YtfjflkmhhbhceaaGreatDoorK03
import Derived.DeepKeys
import Derived.Test.YtfjflkmhhbhceaaGreatDoorK07
import Derived.Laws.RangeString
import Derived.Maps.AppendAt
import Derived.Deep.AppendLies
import Derived.Lib.SliceRun
import Derived.ArgAppend
import Derived.Laws.IdiomStrings
namespace Go.Proofs.YtfjflkmhhbhceaaGreatDoor
open Go.RowKit

inductive Leaf where
  | i (k : IntKind)
  | b
  | s
def Leaf.fits : Leaf → Value → Bool
  | .i k, .int k' _ => decide (k' = k)
  | .b, .bool _ => true
  | .s, .string _ => true
  | _, _ => false
def fits : List Leaf → List Value → Bool
  | [], [] => true
  | l :: ls, v :: vs => l.fits v && fits ls vs
  | _, _ => false
def leafsF (f : TypeId → Option (List Leaf)) : List Field → Nat → Option (List Leaf)
  | [], _ => some []
  | x :: xs, off =>
    if x.name = "_" ∨ x.offset ≠ off then none
    else match f x.type with
      | none => none
      | some l => match leafsF f xs (off + l.length) with
        | none => none
        | some r => some (l ++ r)
/-- the cells of a type of numbers, truths and texts, and of structs of such -/
def leafs (P : Program) : Nat → TypeId → Option (List Leaf)
  | 0, _ => none
  | d + 1, t =>
    match P.underlying t with
    | some .bool => some [.b]
    | some (.int k) => some [.i k]
    | some .string => some [.s]
    | some (.struct fs) =>
      if P.stoodInHeld t = true then none
      else match leafsF (leafs P d) fs.toList 0 with
        | none => none
        | some l => if P.cellsOf t = l.length then some l else none
    | _ => none
def isStruct (P : Program) (t : TypeId) : Bool := match P.underlying t with | some (.struct _) => true | _ => false
def valOf (P : Program) (t : TypeId) (xs : List Value) : Value := if isStruct P t then .agg xs.toArray else xs.headD undef

theorem fits_len : ∀ {ls : List Leaf} {xs : List Value}, fits ls xs = true → xs.length = ls.length
  | [], [], _ => rfl
  | [], _ :: _, h => by simp [fits] at h
  | _ :: _, [], h => by simp [fits] at h
  | _ :: _, _ :: _, h => by
    simp only [fits, Bool.and_eq_true] at h
    simp [fits_len h.2]
theorem fits_split : ∀ {a b : List Leaf} {xs : List Value}, fits (a ++ b) xs = true → fits a (xs.take a.length) = true ∧ fits b (xs.drop a.length) = true
  | [], _, _, h => ⟨rfl, by simpa using h⟩
  | _ :: _, _, [], h => by simp [fits] at h
  | _ :: a, b, _ :: xs, h => by
    simp only [List.cons_append, fits, Bool.and_eq_true] at h
    have := fits_split h.2
    simp only [List.length_cons, List.take_succ_cons, List.drop_succ_cons, fits, Bool.and_eq_true]
    exact ⟨⟨h.1, this.1⟩, this.2⟩
def EqOk (P : Program) (d : Nat) (t : TypeId) (ls : List Leaf) : Prop :=
  ∀ (w : World) (xs ys : List Value), fits ls xs = true → fits ls ys = true → ∃ r : Bool, (Op.equalIn d t (valOf P t xs) (valOf P t ys)).run P w = .ok r w ∧ (r = true ↔ xs = ys)

theorem leafs_len {P : Program} {d : Nat} {t : TypeId} {ls : List Leaf} (h : leafs P d t = some ls) : (isStruct P t = true → P.cellsOf t = ls.length) ∧ (isStruct P t = false → ls.length = 1) := by
  cases d with
  | zero => simp [leafs] at h
  | succ d =>
    unfold leafs at h
    unfold isStruct
    cases hu : P.underlying t with
    | none => simp [hu] at h
    | some k =>
      cases k <;> simp only [hu] at h <;> try (cases h; done)
      all_goals first
        | (split at h
           · cases h
           · split at h
             · cases h
             · split at h
               · rename_i hc
                 cases h
                 exact ⟨fun _ => hc, (fun h => by cases h)⟩
               · cases h)
        | (cases h; exact ⟨(fun h => by cases h), fun _ => rfl⟩)

theorem run_partL {P : Program} (w : World) {d : Nat} {t : TypeId} {ls : List Leaf} (h : leafs P d t = some ls) (xs : List Value) (off : Nat) (hf : fits ls ((xs.drop off).take ls.length) = true) :
    (part t xs.toArray off).run P w = .ok (valOf P t ((xs.drop off).take ls.length)) w := by
  obtain ⟨h1, h2⟩ := leafs_len h
  have hl := fits_len hf
  unfold valOf
  cases hs : isStruct P t with
  | true =>
    have hc := h1 hs
    unfold isStruct at hs
    split at hs
    · rename_i fs hu
      obtain ⟨i, hi⟩ := info_of_underlying hu
      simp [part, isAgg, run_underlying hu, run_sizeOf w hi, hc, List.extract]
    · cases hs
  | false =>
    have hc := h2 hs
    rw [hc] at hl ⊢
    obtain ⟨v, hv⟩ : ∃ v, (xs.drop off).take 1 = [v] := by
      cases hx : (xs.drop off).take 1 with
      | nil => rw [hx] at hl; cases hl
      | cons v r =>
        rw [hx] at hl
        cases r with
        | nil => exact ⟨v, rfl⟩
        | cons _ _ => simp at hl
    have hget : xs.toArray[off]? = some v := by
      have : ((xs.drop off).take 1)[0]? = some v := by rw [hv]; rfl
      simpa using this
    have hp : P.plainKey t = true := by
      cases d with
      | zero => simp [leafs] at h
      | succ d =>
        unfold leafs at h
        unfold Program.plainKey
        unfold isStruct at hs
        cases hu : P.underlying t with
        | none => simp [hu] at h
        | some k => cases k <;> simp_all
    rw [hv]
    exact run_part_plain w hp hget

theorem eqFieldsL {P : Program} (d e : Nat) (IH : ∀ t ls, leafs P d t = some ls → EqOk P (e + d) t ls) (xs ys : List Value) : ∀ (fs : List Field) (off : Nat) (ls : List Leaf), leafsF (leafs P d) fs off = some ls →
    fits ls (xs.drop off) = true → fits ls (ys.drop off) = true → ∀ w : World, ∃ r : Bool, (Op.eqFields (e + d) xs.toArray ys.toArray fs).run P w = .ok r w ∧ (r = true ↔ xs.drop off = ys.drop off)
  | [], off, ls, h, hx, hy, w => by
    simp only [leafsF, Option.some.injEq] at h
    subst h
    have hx := fits_len hx
    have hy := fits_len hy
    refine ⟨true, by simp [Op.eqFields], ?_⟩
    rw [List.eq_nil_of_length_eq_zero hx, List.eq_nil_of_length_eq_zero hy]
    simp
  | f :: fs, off, ls, h, hx, hy, w => by
    unfold leafsF at h
    split at h
    · cases h
    · rename_i hn
      have hn1 : f.name ≠ "_" := fun hh => hn (.inl hh)
      have hn2 : f.offset = off := Classical.not_not.1 fun hh => hn (.inr hh)
      split at h
      · cases h
      · rename_i l hl
        split at h
        · cases h
        · rename_i r hr
          cases h
          have sx := fits_split hx
          have sy := fits_split hy
          rw [List.drop_drop] at sx sy
          obtain ⟨b, hb, hbe⟩ := IH _ _ hl w _ _ sx.1 sy.1
          obtain ⟨c, hc, hce⟩ := eqFieldsL d e IH xs ys fs _ r hr sx.2 sy.2 w
          have p1 := run_partL w hl xs off sx.1
          have p2 := run_partL w hl ys off sy.1
          have cut : xs.drop off = ys.drop off ↔ (xs.drop off).take l.length = (ys.drop off).take l.length ∧ xs.drop (off + l.length) = ys.drop (off + l.length) := by
            rw [← List.drop_drop, ← List.drop_drop]
            constructor
            · intro h; rw [h]; exact ⟨rfl, rfl⟩
            · rintro ⟨h1, h2⟩
              rw [← List.take_append_drop l.length (xs.drop off), h1, h2, List.take_append_drop]
          cases b with
          | false =>
            refine ⟨false, by simp [Op.eqFields, hn1, hn2, p1, p2, hb], ?_⟩
            rw [cut, ← hbe]
            simp
          | true =>
            refine ⟨c, by simp [Op.eqFields, hn1, hn2, p1, p2, hb, hc], ?_⟩
            rw [cut, ← hbe, ← hce]
            simp

theorem equalInL {P : Program} (e : Nat) : ∀ (d : Nat) (t : TypeId) (ls : List Leaf), leafs P d t = some ls → EqOk P (e + d) t ls
  | 0, _, _, h => by simp [leafs] at h
  | d + 1, t, ls, h => by
    intro w xs ys hx hy
    have IH := equalInL (P := P) e d
    have lx := fits_len hx
    have ly := fits_len hy
    unfold leafs at h
    cases hu : P.underlying t with
    | none => simp [hu] at h
    | some k =>
      cases k <;> simp only [hu] at h <;> try (cases h; done)
      case struct fs =>
        split at h
        · cases h
        · rename_i hst
          split at h
          · cases h
          · rename_i l hl
            split at h
            · cases h
              have hs : isStruct P t = true := by simp [isStruct, hu]
              obtain ⟨r, hr, hre⟩ := eqFieldsL d e IH xs ys fs.toList 0 ls hl (by simpa using hx) (by simpa using hy) w
              refine ⟨r, ?_, by simpa using hre⟩
              unfold valOf
              rw [hs, if_pos rfl, if_pos rfl]
              have hf : P.fieldsOf t = fs := by simp [Program.fieldsOf, hu]
              rw [show e + (d + 1) = (e + d) + 1 by omega, run_equalIn_struct w (e + d) t xs.toArray ys.toArray (by rw [hf]; exact hu) (by simpa using hst), hf]
              exact hr
            · cases h
      all_goals
        cases h
        have hs : isStruct P t = false := by simp [isStruct, hu]
        obtain ⟨x, rfl⟩ : ∃ x, xs = [x] := by
          match xs, lx with
          | [x], _ => exact ⟨x, rfl⟩
        obtain ⟨y, rfl⟩ : ∃ y, ys = [y] := by
          match ys, ly with
          | [y], _ => exact ⟨y, rfl⟩
        simp only [fits, Bool.and_true] at hx hy
        unfold valOf
        rw [hs]
        rw [show e + (d + 1) = (e + d) + 1 by omega]
        cases x <;> simp only [Leaf.fits, Bool.false_eq_true, decide_eq_true_eq] at hx
        cases y <;> simp only [Leaf.fits, Bool.false_eq_true, decide_eq_true_eq] at hy
      case bool => exact ⟨_, run_equalIn_bool' w (e + d) t _ _ hu, by simp⟩
      case int =>
        subst hx; subst hy
        exact ⟨_, run_equalIn_int w (e + d) t _ _ _ _ hu, by simp⟩
      case string =>
        refine ⟨_, run_equalIn_string w (e + d) t _ _ hu, ?_⟩
        rw [beq_iff_eq, ByteArray.toList_eq, ByteArray.toList_eq]
        constructor
        · intro h
          congr 2
          exact ByteArray.ext (Array.toList_inj.1 h)
        · intro h
          simp only [List.cons.injEq, Value.string.injEq, and_true] at h
          rw [h]

/-- the same cells -/
theorem eql_same {P : Program} {t : TypeId} {ls : List Leaf} (h : leafs P 8 t = some ls) (hs : isStruct P t = true) (w : World) (xs ys : List Value) (hx : fits ls xs = true) (he : xs = ys) :
    (binOp .eql t (.agg xs.toArray) (.agg ys.toArray)).run P w = .ok (.bool true) w := by
  subst he
  obtain ⟨r, hr, hre⟩ := equalInL (P := P) 9992 8 t ls h w xs xs hx hx
  unfold valOf at hr
  rw [hs, if_pos rfl] at hr
  rw [run_eql_struct, hr, hre.2 rfl]
  rfl
theorem eql_other {P : Program} {t : TypeId} {ls : List Leaf} (h : leafs P 8 t = some ls) (hs : isStruct P t = true) (w : World) (xs ys : List Value) (hx : fits ls xs = true) (hy : fits ls ys = true) (he : xs ≠ ys) :
    (binOp .eql t (.agg xs.toArray) (.agg ys.toArray)).run P w = .ok (.bool false) w := by
  obtain ⟨r, hr, hre⟩ := equalInL (P := P) 9992 8 t ls h w xs ys hx hy
  unfold valOf at hr
  rw [hs, if_pos rfl, if_pos rfl] at hr
  cases r with
  | true => exact absurd (hre.1 rfl) he
  | false => rw [run_eql_struct, hr]; rfl
theorem neq_same {P : Program} {t : TypeId} {ls : List Leaf} (h : leafs P 8 t = some ls) (hs : isStruct P t = true) (w : World) (xs ys : List Value) (hx : fits ls xs = true) (he : xs = ys) :
    (binOp .neq t (.agg xs.toArray) (.agg ys.toArray)).run P w = .ok (.bool false) w := by
  subst he
  obtain ⟨r, hr, hre⟩ := equalInL (P := P) 9992 8 t ls h w xs xs hx hx
  unfold valOf at hr
  rw [hs, if_pos rfl] at hr
  rw [run_neq_struct, hr, hre.2 rfl]
  rfl
theorem neq_other {P : Program} {t : TypeId} {ls : List Leaf} (h : leafs P 8 t = some ls) (hs : isStruct P t = true) (w : World) (xs ys : List Value) (hx : fits ls xs = true) (hy : fits ls ys = true) (he : xs ≠ ys) :
    (binOp .neq t (.agg xs.toArray) (.agg ys.toArray)).run P w = .ok (.bool true) w := by
  obtain ⟨r, hr, hre⟩ := equalInL (P := P) 9992 8 t ls h w xs ys hx hy
  unfold valOf at hr
  rw [hs, if_pos rfl, if_pos rfl] at hr
  cases r with
  | true => exact absurd (hre.1 rfl) he
  | false => rw [run_neq_struct, hr]; rfl
end Go.Proofs.YtfjflkmhhbhceaaGreatDoor

/-
  A text that is ranged over, its iterator anywhere in memory: plain letters alone (below 128). No other condition.
-/
namespace Go.Proofs.YtfjflkmhhbhceaaGreatDoor
open Go.RowKit

/-- block b is the iterator of a text, at a place -/
def Itr (w : World) (b : Nat) (l : List UInt8) (pos : Nat) : Prop := w.heap[b]? = some (.stringIter (bs l) pos)
/-- an iterator is set to a place -/
def _root_.Go.World.setIter (w : World) (b : Nat) (l : List UInt8) (pos : Nat) : World := { w with heap := w.heap.setIfInBounds b (.stringIter (bs l) pos) }
section
variable {w w' : World} {b : Nat} {l : List UInt8} {pos : Nat}
theorem Itr.lt (h : Itr w b l pos) : b < w.heap.size := by
  rcases Nat.lt_or_ge b w.heap.size with hlt | hge
  · exact hlt
  · unfold Itr at h; rw [Array.getElem?_eq_none hge] at h; cases h
theorem Itr.new (w : World) (l : List UInt8) : Itr (w.iter (bs l) 0) w.heap.size l 0 := World.iter_heap w (bs l) 0
theorem Itr.below {B : Nat} (h : Itr w b l pos) (hb : Below B w w') (hg : b < B) : Itr w' b l pos := (hb.block b hg).trans h
theorem Itr.stays (h : Itr w b l pos) (hb : Below w.heap.size w w') : Itr w' b l pos := h.below hb h.lt
theorem Itr.touch {F : Nat → Prop} (h : Itr w b l pos) (hb : Touch F w w') (hn : ¬ F b) : Itr w' b l pos := (hb.block b h.lt hn).trans h
theorem Itr.set_ (h : Itr w b l pos) (p : Nat) : Itr (w.setIter b l p) b l p := by
  have hl := h.lt
  unfold Itr World.setIter
  simp [hl]
theorem heap_setIter (w : World) (b : Nat) (l : List UInt8) (p k : Nat) (h : k ≠ b) : (w.setIter b l p).heap[k]? = w.heap[k]? := by
  unfold World.setIter
  simp [Ne.symm h]
theorem Below.setIter {B : Nat} {a : World} (h : Below B a w) (hb : B ≤ b) (l : List UInt8) (p : Nat) : Below B a (w.setIter b l p) :=
  ⟨h.os, h.tape, h.output, by have := h.size; simpa [World.setIter] using this, fun k hk => (heap_setIter w b l p k (by omega)).trans (h.block k hk)⟩
theorem Blk.farIter {g : Nat} {T : TypeId} {cs : List Value} (h : Blk w g T cs) (hg : g ≠ b) (l : List UInt8) (p : Nat) : Blk (w.setIter b l p) g T cs := (heap_setIter w b l p g hg).trans h
theorem Touch.setIter {F : Nat → Prop} {a : World} (h : Touch F a w) (hb : F b ∨ a.heap.size ≤ b) (l : List UInt8) (p : Nat) : Touch F a (w.setIter b l p) :=
  ⟨h.os, h.tape, h.output, by have := h.size; simpa [World.setIter] using this, fun k hk hn => (heap_setIter w b l p k (fun e => by subst e; rcases hb with hb | hb; exact hn hb; omega)).trans (h.block k hk hn)⟩
variable {P : Program}
theorem run_next_itr (h : Itr w b l pos) (hp : pos < l.length) (ha : l[pos].toNat < 128) (ty : TypeId) :
    (Instr.next (.pointer (some ⟨b, 0, none⟩)) true ty).run P w = .ok (.tuple #[.bool true, .int .i64 pos, .int .i32 l[pos].toNat]) (w.setIter b l (pos + 1)) := by
  have hd := decode_ascii (bs l) pos hp ha
  have hs : pos < (bs l).size := hp
  unfold Itr at h
  simp only [Instr.next, getObj, setObj, Sem.run_bind, Sem.run, h, Result.andThen, hs, if_true, hd]
  simp [goInt, World.setIter, bs_get]
theorem run_next_itr_end (h : Itr w b l pos) (hp : ¬ pos < l.length) (ty : TypeId) :
    (Instr.next (.pointer (some ⟨b, 0, none⟩)) true ty).run P w = .ok (.tuple #[.bool false]) w := by
  have hs : ¬ pos < (bs l).size := hp
  unfold Itr at h
  simp [Instr.next, getObj, Sem.run, h, hs]
end
end Go.Proofs.YtfjflkmhhbhceaaGreatDoor


/-
  A row of structs (or of other elements of some cells) of the call's own: how one is put behind it, and how it is read. Conditions: sizes.
-/
namespace Go.Proofs.YtfjflkmhhbhceaaGreatDoor
open Go.RowKit

/-- v is a slice of these rows, each of sz cells, in blocks from B on -/
def RowS (w : World) (B : Nat) (e : TypeId) (sz : Nat) (v : Value) (rows : List (List Value)) : Prop :=
  (∀ r ∈ rows, r.length = sz) ∧ w.ownsRow B e sz v rows.length rows.flatten
section
variable {w w' : World} {B : Nat} {e : TypeId} {sz : Nat} {v : Value} {rows : List (List Value)}
theorem RowS.none_ : RowS w B e sz (.slice none 0 0) [] := ⟨by simp, World.ownsRow_nil _ _ _ _⟩
theorem RowS.at_ (h : RowS w B e sz v rows) : ∃ A c, v = .slice A rows.length c ∧ At w sz A rows := by
  obtain ⟨hl, hown⟩ := h
  have hlt := hown.lt
  have hcells := fun g hg => hown.cells (g := g) hg
  rcases hown.2 with ⟨rfl, h0⟩ | ⟨g, cap, cur, rfl, _⟩
  · refine ⟨none, 0, by rw [h0], ?_⟩
    rw [List.eq_nil_of_length_eq_zero h0]
    exact At.nil
  · refine ⟨_, _, rfl, fun i r hr => ⟨g, 0, rfl, (hlt g rfl).2, fun j u hu => ?_⟩⟩
    have := hcells g rfl (i * sz + j) u (flat_get rows hl i r hr j u hu)
    rw [Addr.add_mid, ← Nat.add_assoc] at this
    exact this
theorem RowS.stays (h : RowS w B e sz v rows) (hb : Below w.heap.size w w') : RowS w' B e sz v rows :=
  ⟨h.1, ownsRow_touch h.2 (Touch.of_below hb (fun _ => False)) fun _ _ hf => hf⟩
theorem RowS.touch {F : Nat → Prop} (h : RowS w B e sz v rows) (ht : Touch F w w') (hn : ∀ k, v.ownBlock = some k → ¬ F k) : RowS w' B e sz v rows :=
  ⟨h.1, ownsRow_touch h.2 ht hn⟩
theorem RowS.lt (h : RowS w B e sz v rows) : ∀ k, v.ownBlock = some k → B ≤ k ∧ k < w.heap.size := h.2.lt
theorem RowS.base {C : Nat} (h : RowS w B e sz v rows) (hC : C ≤ B) : RowS w C e sz v rows := ⟨h.1, h.2.1, by
  rcases h.2.2 with h | ⟨g, cap, cur, hv, hb, hr⟩
  · exact .inl h
  · exact .inr ⟨g, cap, cur, hv, Nat.le_trans hC hb, hr⟩⟩
theorem RowS.alloc (h : RowS w B e sz v rows) (o : Obj) : RowS (w.alloc o) B e sz v rows := h.stays ((Below.refl _ _).alloc (Nat.le_refl _) o)

variable {P : Program}
/-- 'append(l, x)': the one element lies in a new row -/
theorem RowS.append (t ty : TypeId) (i : TypeInfo) {z : Value} {bytes : Nat} (ht : P.underlying t = some (.slice e)) (hi : P.info? e = some i) (hz : i.zero = some z) (hsize : i.size = sz) (hby : i.bytes = bytes)
    (hzs : z.cells.size = sz) (h0 : 0 < sz) (hb : bytes ≤ 4096) (h : RowS w B e sz v rows) (hB : B ≤ w.heap.size) (r : List Value) (hr : r.length = sz) (h1 : ∀ u ∈ r, u.oneCell' = true) (hl : rows.length ≤ 1000000000) :
    ∃ v' w', (Builtin.append_ #[t, t] ty #[v, .slice (some ⟨w.heap.size, 0, none⟩) 1 1]).run P (w.alloc (.cells r.toArray e)) = .ok v' w' ∧
      (RowS w' B e sz v' (rows ++ [r]) ∧ ∀ a, Below B a w → Below B a w') := by
  have hone : Blk (w.alloc (.cells r.toArray e)) w.heap.size e r := Blk.new w e r
  have hcell : ∀ j u, r[j]? = some u → (w.alloc (.cells r.toArray e)).cell? ((⟨w.heap.size, 0, none⟩ : Addr).add j) = some u := fun j u hu => by
    rw [Addr.add_mid, Nat.zero_add, hone.cell, hu]
  obtain ⟨v', w', hrun, hown, hgrow, _, hat⟩ := run_append_own_at (P := P) (w := w.alloc (.cells r.toArray e)) B t ty e i z sz bytes ht hi hz hsize hby hzs h0 v rows.length rows.flatten (h.2.alloc _) ⟨w.heap.size, 0, none⟩ 1 1 r
    (by simpa using hr) hcell h1 (by unfold maxLen; omega) (Nat.le_trans (Nat.mul_le_mul (show rows.length + 1 ≤ 1000000001 by omega) hb) (by omega)) (by simp; omega)
  refine ⟨v', w', hrun, ⟨fun q hq => ?_, ?_⟩, fun a ha => ?_⟩
  · rcases List.mem_append.1 hq with hq | hq
    · exact h.1 q hq
    · simp at hq; subst hq; exact hr
  · rw [List.length_append, List.flatten_append]
    simpa using hown
  · exact (ha.alloc hB _).grown hgrow (by simp; omega) fun k hk => (h.2.lt k hk).1
end
end Go.Proofs.YtfjflkmhhbhceaaGreatDoor


/-
  A row of structs of the call's own: one of them is stored anew; some are cleared. Conditions: sizes.
-/
namespace Go.Proofs.YtfjflkmhhbhceaaGreatDoor
open Go.RowKit

theorem size_setCells_ (b : Nat) : ∀ (vs : List Value) (o : Nat) (w : World), (w.setCells b o vs).heap.size = w.heap.size
  | [], _, _ => rfl
  | v :: vs, o, w => by rw [World.setCells, size_setCells_ b vs]; simp [World.setCell]
theorem setAt_mid : ∀ (r m a b : List Value), m.length = r.length → setAt (a ++ (m ++ b)) a.length r = a ++ (r ++ b)
  | [], m, a, b, h => by
    obtain rfl : m = [] := List.eq_nil_of_length_eq_zero h
    rfl
  | c :: r, [], a, b, h => by simp at h
  | c :: r, x :: m, a, b, h => by
    rw [setAt]
    have e : (a ++ (x :: m ++ b)).set a.length c = (a ++ [c]) ++ (m ++ b) := by simp
    rw [e]
    have := setAt_mid r m (a ++ [c]) b (by simpa using h)
    rw [List.length_append, List.length_singleton] at this
    rw [this]
    simp
theorem Touch.setRow {F : Nat → Prop} {g : Nat} (hg : F g) : ∀ (cs : List Value) (o : Nat) {a b : World}, Touch F a b → Touch F a (b.setCells g o cs)
  | [], _, _, _, h => h
  | c :: cs, o, _, _, h => by
    rw [World.setCells]
    exact Touch.setRow hg cs (o + 1) (h.setCell (.inl hg) c)
section
variable {w w' : World} {B : Nat} {e : TypeId} {sz : Nat}
theorem ownsRow_sets {base size n g cap : Nat} : ∀ (cs xs : List Value) (o : Nat) {w : World}, w.ownsRow base e size (.slice (some ⟨g, 0, none⟩) n cap) n xs → (w.setCells g o cs).ownsRow base e size (.slice (some ⟨g, 0, none⟩) n cap) n (setAt xs o cs)
  | [], _, _, _, h => h
  | c :: cs, xs, o, _, h => by
    rw [World.setCells, setAt]
    exact ownsRow_sets cs _ (o + 1) (h.stored o c).1
/-- one row is stored anew -/
theorem RowS.put {g n cap : Nat} {pre post : List (List Value)} {m r : List Value} (h : RowS w B e sz (.slice (some ⟨g, 0, none⟩) n cap) (pre ++ m :: post)) (hr : r.length = sz) (hn : n = (pre ++ m :: post).length) :
    RowS (w.setCells g (pre.length * sz) r) B e sz (.slice (some ⟨g, 0, none⟩) n cap) (pre ++ r :: post) := by
  obtain ⟨hl, hown⟩ := h
  have hm : m.length = sz := hl m (by simp)
  have hlp : ∀ q ∈ pre, q.length = sz := fun q hq => hl q (by simp [hq])
  have hpl : pre.flatten.length = pre.length * sz := by
    clear hown hl hn
    induction pre with
    | nil => simp
    | cons q pre ih =>
      rw [List.flatten_cons, List.length_append, hlp q (by simp), ih (fun q hq => hlp q (List.mem_cons_of_mem _ hq)), List.length_cons, Nat.succ_mul]
      omega
  refine ⟨fun q hq => ?_, ?_⟩
  · rcases List.mem_append.1 hq with hq | hq
    · exact hlp q hq
    · rcases List.mem_cons.1 hq with rfl | hq
      · exact hr
      · exact hl q (by simp [hq])
  · rw [← hn] at hown
    have := ownsRow_sets r _ (pre.length * sz) hown
    have e1 : (pre ++ r :: post).length = n := by rw [hn]; simp
    have e2 : setAt (pre ++ m :: post).flatten (pre.length * sz) r = (pre ++ r :: post).flatten := by
      rw [List.flatten_append, List.flatten_cons, ← hpl, setAt_mid r m _ _ (by omega), List.flatten_append, List.flatten_cons]
    rw [e2] at this
    rw [e1]
    exact this
/-- the first rows of a row are a row -/
theorem RowS.prefix_ {A : Option Addr} {n c : Nat} {pre post : List (List Value)} (h : RowS w B e sz (.slice A n c) (pre ++ post)) : RowS w B e sz (.slice A pre.length c) pre := by
  obtain ⟨hl, hx, hown⟩ := h
  have hlp : ∀ q ∈ pre, q.length = sz := fun q hq => hl q (by simp [hq])
  have hpl : pre.flatten.length = pre.length * sz := by
    clear hown hl hx
    induction pre with
    | nil => simp
    | cons q pre ih =>
      rw [List.flatten_cons, List.length_append, hlp q (by simp), ih (fun q hq => hlp q (List.mem_cons_of_mem _ hq)), List.length_cons, Nat.succ_mul]
      omega
  refine ⟨hlp, hpl, ?_⟩
  rcases hown with ⟨hv, h0⟩ | ⟨g, cap, cur, hv, hb, hg, hn, hc, hs, ht⟩
  · left
    have h1 : pre.length = 0 := by simp only [List.length_append] at h0; omega
    injection hv with hv1 hv2 hv3
    subst hv1 hv3
    exact ⟨by rw [h1], h1⟩
  · right
    injection hv with hv1 hv2 hv3
    subst hv1 hv3
    refine ⟨g, c, cur, rfl, hb, hg, by simp only [List.length_append] at hn; omega, hc, hs, ?_⟩
    have h1 : pre.length * sz ≤ (pre ++ post).length * sz := Nat.mul_le_mul_right _ (by simp)
    have h2 : (cur.toList.take ((pre ++ post).length * sz)).take (pre.length * sz) = cur.toList.take (pre.length * sz) := by rw [List.take_take, Nat.min_eq_left h1]
    rw [← h2, ht, List.flatten_append, ← hpl, List.take_left']
    rfl
theorem setAt_out : ∀ (cs l : List Value) (o : Nat), l.length ≤ o → setAt l o cs = l
  | [], _, _, _ => rfl
  | c :: cs, l, o, h => by
    rw [setAt, List.set_eq_of_length_le h]
    exact setAt_out cs l (o + 1) (by omega)
/-- a row stays, whatever is stored behind it in its block -/
theorem RowS.behind {g n cap : Nat} {rows : List (List Value)} (h : RowS w B e sz (.slice (some ⟨g, 0, none⟩) n cap) rows) (hn : n = rows.length) (cs : List Value) : RowS (w.setCells g (rows.length * sz) cs) B e sz (.slice (some ⟨g, 0, none⟩) n cap) rows := by
  obtain ⟨hl, hown⟩ := h
  refine ⟨hl, ?_⟩
  subst hn
  have hx := hown.1
  have := ownsRow_sets cs _ (rows.length * sz) hown
  rwa [setAt_out _ _ _ (by omega)] at this
theorem RowS.rows {A : Option Addr} {n c : Nat} {rows : List (List Value)} (h : RowS w B e sz (.slice A n c) rows) : At w sz A rows := by
  obtain ⟨A', c', hv, hA⟩ := h.at_
  injection hv with h1 h2 h3
  subst h1
  exact hA
/-- rows ahead of a place stay, whatever is stored from there on -/
theorem At.prefix_ {g : Nat} {pre post : List (List Value)} (h : At w sz (some ⟨g, 0, none⟩) (pre ++ post)) (hl : ∀ r ∈ pre, r.length = sz) (cs : List Value) : At (w.setCells g (pre.length * sz) cs) sz (some ⟨g, 0, none⟩) pre := by
  intro i r hi
  have hip : i < pre.length := (List.getElem?_eq_some_iff.1 hi).1
  have hi2 : (pre ++ post)[i]? = some r := by rw [List.getElem?_append_left hip]; exact hi
  obtain ⟨b, off, hA, hb, hc⟩ := h i r hi2
  injection hA with hA
  injection hA with hg ho _
  subst hg ho
  refine ⟨g, 0, rfl, by rw [size_setCells_]; exact hb, fun j u hj => ?_⟩
  have hjl : j < r.length := (List.getElem?_eq_some_iff.1 hj).1
  rw [hl r (List.mem_of_getElem? hi)] at hjl
  have hlt : i * sz + j < pre.length * sz := by
    have : (i + 1) * sz ≤ pre.length * sz := Nat.mul_le_mul_right _ hip
    rw [Nat.succ_mul] at this
    omega
  rw [World.cell?_setCells_out g cs _ w _ (fun _ _ => .inl (by show 0 + i * sz + j < _; omega))]
  exact hc j u hj
variable {P : Program}
/-- a struct is stored where cells lie -/
theorem wpList_store_there {ops : Array Oper} {rest : List Oper} {op : Oper} {a : Act} {w : World} {Q : Exit → Act → World → Prop} (hgd : op.guard = none) (T : TypeId) (x y : Operand) (ho : op.op = .store T x y)
    (b o : Nat) (cs : List Value) (ht : w.there b o cs.length) (hx : a.eval x = .pointer (some ⟨b, o, none⟩)) (hy : a.eval y = .agg cs.toArray) (hi : (P.info? T).map (·.size) = some cs.length)
    (h1 : ∀ v ∈ cs, v.oneCell' = true) (h : wpList P ops Q rest (a.put op.dst undef) (w.setCells b o cs)) : wpList P ops Q (op :: rest) a w :=
  wpList_store_mid hgd T x y ho b o cs.toArray hx hy (by simpa using ht) (by simpa using hi) (all_oneCell_toArray h1) (by simpa using h)
/-- 'clear(s)' of n > 0 elements of sz cells each -/
theorem run_clear_rows (w : World) (t e ty : TypeId) (z : Value) (ht : P.underlying t = some (.slice e)) (hv : ∀ w, (zeroValue e).run P w = .ok z w) (hz : z.cells.size = sz) (h0 : 0 < sz) (h1 : ∀ u ∈ z.cells.toList, u.oneCell' = true) (b o n c : Nat) (hn : 0 < n)
    (hc : ∀ j, j < n * sz → (w.cell? ⟨b, o + j, none⟩).isSome = true) (hf : ∀ j, j < n * sz → w.frozen? ⟨b, o + j, none⟩ = false) :
    (Builtin.clear_ #[t] ty #[.slice (some ⟨b, o, none⟩) n c]).run P w = .ok (.tuple #[]) (w.setCells b o (Builtin.zeroCells z.cells n).toList) := by
  have hl : (Builtin.zeroCells z.cells n).toList.length = n * sz := by rw [Array.length_toList, size_zeroCells, hz]
  have hst := run_storeCells_cells (P := P) b o (Builtin.zeroCells z.cells n).toList 0 w (by rw [hl]; simpa using hc) (by rw [hl]; simpa using hf) (by
    intro v hv'
    simp only [Builtin.zeroCells, Array.toList_map, List.mem_map] at hv'
    obtain ⟨i, hi, rfl⟩ := hv'
    have hlt : i % z.cells.size < z.cells.size := Nat.mod_lt _ (by omega)
    rw [getElem!_pos z.cells _ hlt]
    exact h1 _ (by simp))
  simp only [Nat.add_zero] at hst
  obtain ⟨m, rfl⟩ : ∃ m, n = m + 1 := ⟨n - 1, by omega⟩
  simp [Builtin.clear_, run_underlying ht, hv, hst]
end
end Go.Proofs.YtfjflkmhhbhceaaGreatDoor


/-
  A row of bytes of the call's own; behind its last cell a mark may lie, as '[]byte(s)' leaves it. No condition but sizes.
-/
namespace Go.Proofs.YtfjflkmhhbhceaaGreatDoor
open Go.RowKit

/-- block g is just these cells; a mark may lie behind them -/
def BlkM (w : World) (g : Nat) (t : TypeId) (cs : List Value) : Prop := ∃ m : Nat × Nat, (m = (0, 0) ∨ cs.length ≤ m.1) ∧ w.heap[g]? = some (.cells cs.toArray t m)
section
variable {w w' : World} {g : Nat} {t : TypeId} {cs : List Value}
theorem BlkM.lt (h : BlkM w g t cs) : g < w.heap.size := by
  obtain ⟨m, _, h⟩ := h
  rcases Nat.lt_or_ge g w.heap.size with hlt | hge
  · exact hlt
  · rw [Array.getElem?_eq_none hge] at h; cases h
theorem BlkM.cell (h : BlkM w g t cs) (i : Nat) : w.cell? ⟨g, i, none⟩ = cs[i]? := by
  obtain ⟨m, _, h⟩ := h
  rw [cell_of_row w g i _ t m h]; simp
theorem BlkM.frozen (h : BlkM w g t cs) {i : Nat} (hi : i < cs.length) : w.frozen? ⟨g, i, none⟩ = false := by
  obtain ⟨m, hm, h⟩ := h
  obtain ⟨m1, m2⟩ := m
  simp only [World.frozen?, h]
  rcases hm with hm | hm
  · injection hm with h1 h2; subst h1; subst h2; simp
  · simp; intro h3; exfalso; simp at hm; omega
theorem Blk.marked (h : Blk w g t cs) : BlkM w g t cs := ⟨(0, 0), .inl rfl, h⟩
theorem BlkM.alloc (h : BlkM w g t cs) (o : Obj) : BlkM (w.alloc o) g t cs := by
  have hl := h.lt
  obtain ⟨m, hm, h⟩ := h
  exact ⟨m, hm, (Below.heap_alloc w o g hl).trans h⟩
theorem BlkM.drew (h : BlkM w g t cs) : BlkM w.drew g t cs := h
theorem BlkM.set_ (h : BlkM w g t cs) (i : Nat) (u : Value) : BlkM (w.setCell ⟨g, i, none⟩ u) g t (cs.set i u) := by
  obtain ⟨m, hm, h⟩ := h
  refine ⟨m, by simpa using hm, ?_⟩
  simp [World.setCell, Array.getElem?_modify, h]
theorem BlkM.below {B : Nat} (h : BlkM w g t cs) (hb : Below B w w') (hg : g < B) : BlkM w' g t cs := by
  obtain ⟨m, hm, h⟩ := h
  exact ⟨m, hm, (hb.block g hg).trans h⟩
theorem BlkM.stays (h : BlkM w g t cs) (hb : Below w.heap.size w w') : BlkM w' g t cs := h.below hb h.lt

/-- a value that is a row of these bytes, of the call's own from B on -/
def RowB (w : World) (B : Nat) (e : TypeId) (v : Value) (l : List UInt8) : Prop :=
  (v = .slice none 0 0 ∧ l = []) ∨ ∃ g cs, v = .slice (some ⟨g, 0, none⟩) l.length cs.length ∧ B ≤ g ∧ l.length ≤ cs.length ∧ BlkM w g e cs ∧ cs.take l.length = l.map u8
variable {B : Nat} {e : TypeId} {v : Value} {l : List UInt8}
theorem RowB.none_ : RowB w B e (.slice none 0 0) [] := .inl ⟨rfl, rfl⟩
theorem RowB.stays (h : RowB w B e v l) (hb : Below w.heap.size w w') : RowB w' B e v l := by
  rcases h with h | ⟨g, cs, hv, hB, hl, hk, ht⟩
  · exact .inl h
  · exact .inr ⟨g, cs, hv, hB, hl, hk.stays hb, ht⟩
theorem RowB.len (h : RowB w B e v l) : ∃ A c, v = .slice A l.length c := by
  rcases h with ⟨rfl, rfl⟩ | ⟨g, cs, rfl, -⟩ <;> exact ⟨_, _, rfl⟩
theorem take_at {cs : List Value} {l : List UInt8} (ht : cs.take l.length = l.map u8) {i : Nat} {x : UInt8} (hx : l[i]? = some x) : cs[i]? = some (u8 x) := by
  have hi : i < l.length := (List.getElem?_eq_some_iff.1 hx).1
  have : (cs.take l.length)[i]? = some (u8 x) := by rw [ht, List.getElem?_map, hx]; rfl
  rw [List.getElem?_take, if_pos hi] at this
  exact this

theorem take_set_last (cs : List Value) (n : Nat) (h : n < cs.length) (x : Value) : (cs.take (n + 1)).set n x = cs.take n ++ [x] := by
  have hl : (cs.take n).length = n := by simp; omega
  rw [List.take_add_one, List.getElem?_eq_getElem h]
  simp only [Option.toList_some]
  rw [List.set_append_right _ _ (by omega), hl, Nat.sub_self]
  rfl

variable {P : Program}
/-- '[]byte(s)' is such a row -/
theorem RowB.of_string (w : World) (src dst : TypeId) (l : List UInt8) (hs : P.underlying src = some .string) (hd : P.underlying dst = some (.slice e)) (he : P.underlying e = some (.int .u8)) :
    ∃ v W', (convert src dst (.string (bs l))).run P w = .ok v W' ∧ RowB W' w.heap.size e v l ∧ Below w.heap.size w W' := by
  refine ⟨_, _, run_bytes_of_string w src dst e (bs l) hs hd he, .inr ⟨w.heap.size, l.map u8 ++ zcells (grownCap w l.length 0 e - l.length), ?_, Nat.le_refl _, by simp, ?_, by simp⟩, ((Below.refl _ _).drew).alloc (Nat.le_refl _) _⟩
  · have := grownCap_ge w l.length 0 e
    rw [bs_size]
    simp [zcells_len]
    omega
  · refine ⟨((bytesRow (bs l) (grownCap w (bs l).size 0 e)).size, (bytesRow (bs l) (grownCap w (bs l).size 0 e)).size + 1), .inr ?_, ?_⟩
    · simp [bytesRow, zcells_len, bs_size]
    · rw [show (l.map u8 ++ zcells (grownCap w l.length 0 e - l.length)).toArray = bytesRow (bs l) (grownCap w (bs l).size 0 e) by
        apply Array.ext'
        simp [bytesRow, zcells, u8, bs_size]]
      exact heap_alloc_new w.drew _

/-- string(b[:n]) -/
theorem RowB.string (h : RowB w B e v l) (src dst : TypeId) (hs : P.underlying src = some (.slice e)) (he : P.underlying e = some (.int .u8)) (hd : P.underlying dst = some .string) :
    (convert src dst v).run P w = .ok (.string (bs l)) w := by
  rcases h with ⟨rfl, rfl⟩ | ⟨g, cs, rfl, hB, hl, hk, ht⟩
  · exact run_convert_bytes_nil w src e hs he 0 0 dst hd
  · rw [run_convert_bytes_arg (P := P) w src e hs he g 0 l.length cs.length (l.map fun b => (b.toNat : Int)) (by simp) (fun i hi => by
      rw [Nat.zero_add, hk.cell, take_at ht (List.getElem?_eq_getElem hi)]
      simp [u8, hi]) dst hd, strOf]
theorem RowB.prefix_ (h : RowB w B e v l) {n : Nat} (hn : n ≤ l.length) : ∃ A c, v = .slice A l.length c ∧ RowB w B e (.slice A n c) (l.take n) := by
  have hm : (l.take n).length = n := by simp; omega
  rcases h with ⟨rfl, rfl⟩ | ⟨g, cs, rfl, hB, hl, hk, ht⟩
  · obtain rfl : n = 0 := by simpa using hn
    exact ⟨none, 0, rfl, .inl ⟨rfl, rfl⟩⟩
  · refine ⟨_, _, rfl, .inr ⟨g, cs, by rw [hm], hB, by omega, hk, ?_⟩⟩
    rw [hm, List.map_take, ← ht, List.take_take, Nat.min_eq_left hn]

/-- a byte is stored into the row -/
theorem RowB.store (h : RowB w B e v l) {i : Nat} (hi : i < l.length) (x : UInt8) : ∃ g c, v = .slice (some ⟨g, 0, none⟩) l.length c ∧ l.length ≤ c ∧ B ≤ g ∧ (w.cell? ⟨g, i, none⟩ = some (u8 l[i])) ∧ w.frozen? ⟨g, i, none⟩ = false ∧ RowB (w.setCell ⟨g, i, none⟩ (u8 x)) B e v (l.set i x) := by
  rcases h with ⟨rfl, rfl⟩ | ⟨g, cs, rfl, hB, hl, hk, ht⟩
  · simp at hi
  · refine ⟨g, cs.length, rfl, hl, hB, ?_, hk.frozen (by omega), .inr ⟨g, cs.set i (u8 x), by simp, hB, by simpa using hl, hk.set_ i _, ?_⟩⟩
    · rw [hk.cell]; exact take_at ht (List.getElem?_eq_getElem hi)
    · rw [List.length_set, List.take_set, ht, List.map_set]

/-- 'append(b, x)': the one byte lies in a new row -/
theorem RowB.append (t ty : TypeId) (i : TypeInfo) (ht : P.underlying t = some (.slice e)) (hi : P.info? e = some i) (hz : i.zero = some (.int .u8 0)) (hsize : i.size = 1) (hby : i.bytes = 1)
    (h : RowB w B e v l) (hB : B ≤ w.heap.size) (x : UInt8) (hl : l.length ≤ 1000000000) :
    ∃ v' w', (Builtin.append_ #[t, t] ty #[v, .slice (some ⟨w.heap.size, 0, none⟩) 1 1]).run P (w.alloc (.cells #[u8 x] e)) = .ok v' w' ∧ (RowB w' B e v' (l ++ [x]) ∧ ∀ a, Below B a w → Below B a w') := by
  have hone : Blk (w.alloc (.cells #[u8 x] e)) w.heap.size e [u8 x] := Blk.new w e [u8 x]
  have hcell : ∀ j u, [u8 x][j]? = some u → (w.alloc (.cells #[u8 x] e)).cell? ((⟨w.heap.size, 0, none⟩ : Addr).add j) = some u := fun j u hu => by
    rw [show (⟨w.heap.size, 0, none⟩ : Addr).add j = ⟨w.heap.size, j, none⟩ by unfold Addr.add; split <;> simp_all, hone.cell, hu]
  have hs : (w.alloc (.cells #[u8 x] e)).heap.size = w.heap.size + 1 := by simp
  have hbel : ∀ a, Below B a w → Below B a (w.alloc (.cells #[u8 x] e)) := fun a h => h.alloc hB _
  have hsz : w.heap.size ≤ (w.alloc (.cells #[u8 x] e)).heap.size := by omega
  have hst : RowB (w.alloc (.cells #[u8 x] e)) B e v l := h.stays ((Below.refl _ _).alloc (Nat.le_refl _) _)
  generalize w.alloc (.cells #[u8 x] e) = w2 at *
  have grown : ∀ (old : Nat), RowB (w2.drew.alloc (.cells ((l.map u8 ++ [u8 x]).toArray ++ Builtin.zeroCells (Value.int .u8 0).cells (grownCap w2 (l.length + 1) old e - (l.length + 1))) e)) B e (.slice (some ⟨w2.heap.size, 0, none⟩) (l.length + 1) (grownCap w2 (l.length + 1) old e)) (l ++ [x]) := fun old => by
    have hge := grownCap_ge w2 (l.length + 1) old e
    refine .inr ⟨w2.heap.size, l.map u8 ++ [u8 x] ++ zcells (grownCap w2 (l.length + 1) old e - (l.length + 1)), ?_, by omega, by simp, Blk.marked ?_, ?_⟩
    · simp [zcells_len]; omega
    · rw [zeroCells_z]
      have := Blk.new w2.drew e (l.map u8 ++ [u8 x] ++ zcells (grownCap w2 (l.length + 1) old e - (l.length + 1)))
      simpa using this
    · rw [List.take_left' (by simp)]; simp
  rcases hst with ⟨rfl, rfl⟩ | ⟨g, cs, rfl, hg, hlc, hk, htk⟩
  · have hr := run_append_nil (P := P) w2 t ty e i (.int .u8 0) ht hi hz ⟨w.heap.size, 0, none⟩ 1 1 [u8 x] (by rw [hsize]; rfl) hcell (by omega) (by omega) (by rw [hby]; omega)
    exact ⟨_, _, hr, grown 0, fun a ha => ((hbel a ha).drew).alloc (by show B ≤ w2.heap.size; omega) _⟩
  · by_cases hroom : l.length + 1 ≤ cs.length
    · have hr := run_append_room_cells (P := P) (w := w2) t ty e i ht hi g 0 l.length cs.length ⟨w.heap.size, 0, none⟩ 1 1 [u8 x] (by rw [hsize]; rfl) hcell (by intro u hu; simp only [List.mem_cons, List.not_mem_nil, or_false] at hu; subst hu; rfl) hroom
        (fun j hj => by simp at hj; subst hj; rw [hsize, hk.cell, List.getElem?_eq_getElem (by omega)]; rfl)
        (fun j hj => by simp at hj; subst hj; rw [hsize]; exact hk.frozen (by omega))
      refine ⟨_, _, hr, .inr ⟨g, cs.set l.length (u8 x), by simp, hg, by simp; omega, ?_, ?_⟩, fun a ha => ?_⟩
      · rw [hsize, Nat.mul_one, Nat.zero_add]
        exact hk.set_ _ _
      · rw [List.length_append, List.length_singleton, List.map_append, ← htk, List.take_set]
        exact take_set_last cs l.length (by omega) (u8 x)
      · rw [hsize, Nat.mul_one, Nat.zero_add]
        exact (hbel a ha).setCell (p := ⟨g, l.length, none⟩) hg _
    · have hr := run_append_grow (P := P) w2 t ty e i (.int .u8 0) ht hi hz ⟨g, 0, none⟩ l.length cs.length (l.map u8) (by simp [hsize]) (fun j u hu => by
          rw [List.getElem?_map, Option.map_eq_some_iff] at hu
          obtain ⟨c, hc, rfl⟩ := hu
          rw [show (⟨g, 0, none⟩ : Addr).add j = ⟨g, j, none⟩ by unfold Addr.add; split <;> simp_all, hk.cell]
          exact take_at htk hc) ⟨w.heap.size, 0, none⟩ 1 1 [u8 x] (by rw [hsize]; rfl) hcell (by omega) (by omega) (by rw [hby]; exact growslice_fits (by omega) (by omega))
      rw [show (l.map u8).toArray ++ [u8 x].toArray = (l.map u8 ++ [u8 x]).toArray by simp] at hr
      exact ⟨_, _, hr, grown cs.length, fun a ha => ((hbel a ha).drew).alloc (by show B ≤ w2.heap.size; omega) _⟩
end
end Go.Proofs.YtfjflkmhhbhceaaGreatDoor

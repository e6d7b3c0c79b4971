/-
  Layer 1, what lies in memory: a writer and its row, a reader, the reference's reader. No condition.
-/
import Derived.Test.YtapcjojlkeaadaaGreatDoorProg
import Derived.Test.YtapcjojlkeaadaaGreatDoorP02
import Derived.Test.YtapcjojlkeaadaaGreatDoorP01
import Derived.Deep.MidRow
namespace Go.Proofs.YtapcjojlkeaadaaGreatDoor
open Go.RowKit

/-- a writer at block g: its slice's value, and the bytes that it holds -/
def Wr (w : World) (g : Nat) (sv : Value) (l : List UInt8) : Prop := Blk w g 71 [sv] ∧ w.ownsRow 0 5 1 sv l.length (l.map u8)
/-- the blocks that a writer may change -/
def foot (g : Nat) (sv : Value) (k : Nat) : Prop := k = g ∨ sv.ownBlock = some k
/-- the writer has come to hold these bytes; all else that was there is as it was -/
def MovedTo (g : Nat) (sv sv' : Value) (l : List UInt8) (w w' : World) : Prop := Wr w' g sv' l ∧ (∀ k, sv'.ownBlock = some k → sv.ownBlock = some k ∨ w.heap.size ≤ k) ∧ Touch (foot g sv) w w'
def Moved (g : Nat) (sv : Value) (l : List UInt8) (w w' : World) : Prop := ∃ sv', MovedTo g sv sv' l w w'
theorem Moved.refl {g : Nat} {sv : Value} {l : List UInt8} {w : World} (h : Wr w g sv l) : Moved g sv l w w := ⟨sv, h, fun _ e => .inl e, Touch.refl _ _⟩
theorem Moved.size {g : Nat} {sv : Value} {l : List UInt8} {w w' : World} (h : Moved g sv l w w') : w.heap.size ≤ w'.heap.size := by obtain ⟨_, _, _, h⟩ := h; exact h.size
theorem Wr.row_ne {g : Nat} {sv : Value} {l : List UInt8} {w : World} (h : Wr w g sv l) : sv.ownBlock ≠ some g := Blk.own_ne h.2 h.1 (by decide)
theorem Wr.row_lt {g : Nat} {sv : Value} {l : List UInt8} {w : World} (h : Wr w g sv l) {k : Nat} (hk : sv.ownBlock = some k) : k < w.heap.size := (h.2.lt k hk).2
theorem foot_next {g : Nat} {sv sv1 : Value} {w : World} (hrow : ∀ k, sv1.ownBlock = some k → sv.ownBlock = some k ∨ w.heap.size ≤ k) : ∀ i, i < w.heap.size → foot g sv1 i → foot g sv i := fun i hi hf => by
  rcases hf with rfl | hf
  · exact .inl rfl
  · rcases hrow i hf with h | h
    · exact .inr h
    · omega
theorem MovedTo.next {g : Nat} {sv sv1 sv2 : Value} {l : List UInt8} {w w1 w2 : World} (hrow : ∀ k, sv1.ownBlock = some k → sv.ownBlock = some k ∨ w.heap.size ≤ k) (ht : Touch (foot g sv) w w1) (h : MovedTo g sv1 sv2 l w1 w2) : MovedTo g sv sv2 l w w2 := by
  obtain ⟨hw, hr, ht2⟩ := h
  refine ⟨hw, fun k hk => ?_, ht.trans ht2 (foot_next hrow)⟩
  rcases hr k hk with h | h
  · exact hrow k h
  · exact .inr (Nat.le_trans ht.size h)
theorem Moved.next {g : Nat} {sv sv1 : Value} {l : List UInt8} {w w1 w2 : World} (hrow : ∀ k, sv1.ownBlock = some k → sv.ownBlock = some k ∨ w.heap.size ≤ k) (ht : Touch (foot g sv) w w1) (h : Moved g sv1 l w1 w2) : Moved g sv l w w2 := by
  obtain ⟨sv2, hw, hr, ht2⟩ := h
  refine ⟨sv2, hw, fun k hk => ?_, ht.trans ht2 (foot_next hrow)⟩
  rcases hr k hk with h | h
  · exact hrow k h
  · exact .inr (Nat.le_trans ht.size h)
/-- a block of another kind stands while a writer is written -/
theorem Wr.keeps {g : Nat} {sv : Value} {l : List UInt8} {w w' : World} {k : Nat} {T : TypeId} {cs : List Value} (h : Wr w g sv l) (hb : Blk w k T cs) (h1 : T ≠ 71) (h2 : T ≠ 5) (ht : Touch (foot g sv) w w') : Blk w' k T cs :=
  hb.touch ht fun hf => by
    rcases hf with rfl | hf
    · exact Blk.ne_ h.1 hb (Ne.symm h1) rfl
    · exact Blk.own_ne h.2 hb (Ne.symm h2) hf
/-- a writer stands while what is none of its blocks is changed -/
theorem Wr.touch {g : Nat} {sv : Value} {l : List UInt8} {w w' : World} {F : Nat → Prop} (h : Wr w g sv l) (ht : Touch F w w') (hn : ∀ k, foot g sv k → ¬ F k) : Wr w' g sv l :=
  ⟨h.1.touch ht (hn g (.inl rfl)), ownsRow_touch h.2 ht fun k hk => hn k (.inr hk)⟩
theorem Wr.stays {g : Nat} {sv : Value} {l : List UInt8} {w w' : World} (h : Wr w g sv l) (hb : Below w.heap.size w w') : Wr w' g sv l := h.touch (Touch.of_below hb (fun _ => False)) fun _ _ hf => hf
theorem Wr.alloc {g : Nat} {sv : Value} {l : List UInt8} {w : World} (h : Wr w g sv l) (o : Obj) : Wr (w.alloc o) g sv l := h.stays ((Below.refl _ _).alloc (Nat.le_refl _) o)
theorem wr_row_ne {g : Nat} {sv sv2 : Value} {l : List UInt8} {n : Nat} {xs : List Value} {w W0 w1 : World} (hW : Wr w g sv l) (hb0 : Below w.heap.size w W0) (hgrow : W0.grownBy w1 sv.ownBlock) (hown : w1.ownsRow 0 5 1 sv2 n xs) : Blk w1 g 71 [sv] ∧ sv2.ownBlock ≠ some g := by
  have h1 : Blk w1 g 71 [sv] := (hW.1.stays hb0).grown hgrow hW.row_ne
  exact ⟨h1, Blk.own_ne hown h1 (by decide)⟩
/-- more bytes have been put behind those of a writer, and its field has been set -/
theorem moved_append {g : Nat} {sv sv1 sv2 : Value} {l m : List UInt8} {w wr W0 w1 : World} (hW : Wr wr g sv1 l) (hrow : ∀ k, sv1.ownBlock = some k → sv.ownBlock = some k ∨ w.heap.size ≤ k) (hT : Touch (foot g sv) w wr)
    (hb0 : Below wr.heap.size wr W0) (hgrow : W0.grownBy w1 sv1.ownBlock) (hown : w1.ownsRow 0 5 1 sv2 (l.length + m.length) (l.map u8 ++ m.map u8)) (hat : ∀ k, sv2.ownBlock = some k → sv1.ownBlock = some k ∨ W0.heap.size ≤ k) :
    MovedTo g sv sv2 (l ++ m) w (w1.setCell ⟨g, 0, none⟩ sv2) := by
  obtain ⟨hB, hne⟩ := wr_row_ne hW hb0 hgrow hown
  refine MovedTo.next hrow hT ⟨⟨?_, ?_⟩, ?_, ?_⟩
  · have := hB.set_ 0 sv2
    simpa using this
  · have := ownsRow_setCell_other hown (a := ⟨g, 0, none⟩) hne sv2
    simpa using this
  · intro k hk
    rcases hat k hk with h | h
    · exact .inl h
    · exact .inr (Nat.le_trans hb0.size h)
  · exact ((Touch.of_below hb0 (foot g sv1)).then_ ((Touch.of_grown hgrow fun k hk => .inr hk).mono fun _ _ h => h)).setCell (.inl (.inl rfl)) _
/-- a call on a writer: what it returns, and what the writer holds behind it -/
def Wrote (g : Nat) (sv : Value) (l : List UInt8) (v : Value) (w : World) (e : Ending) (w' : World) : Prop := e = .returned v ∧ Moved g sv l w w'

/-- a reader at block g -/
def Rd (w : World) (g : Nat) (r : Rs) : Prop := Blk w g 77 [.string (bs r.s), .int .i64 r.e] ∧ (r.e ≠ 0 → r.s = [])

theorem num_get (n : Nat) : ∀ (k j : Nat) (h : j < k), (num n k)[j]'(by rw [num_len]; exact h) = UInt8.ofNat (n / 256 ^ (k - 1 - j)) := by
  intro k
  induction k with
  | zero => intro j h; omega
  | succ k ih =>
    intro j h
    match j, h with
    | 0, _ => simp [num_cons]
    | j + 1, h =>
      have := ih j (by omega)
      simp only [num_cons, List.getElem_cons_succ, this]
      congr 3
      omega
theorem num_take (n k m : Nat) (hm : 0 < m) (hmk : m ≤ k) : (num n k).take (k - (m - 1)) = (num n k).take (k - m) ++ [UInt8.ofNat (n / 256 ^ (m - 1))] := by
  have h : k - m < (num n k).length := by rw [num_len]; omega
  have e : k - 1 - (k - m) = m - 1 := by omega
  rw [show k - (m - 1) = k - m + 1 by omega, List.take_succ_eq_append_getElem h, num_get n k (k - m) (by omega), e]
end Go.Proofs.YtapcjojlkeaadaaGreatDoor

/-
  A result that lies in memory; rows of a new block. No condition.
-/
namespace Go.Proofs.YtapcjojlkeaadaaGreatDoor
open Go.RowKit

/-- a return of one result that lies in memory: a whole struct's cells -/
theorem ret_cells {P : Program} {fn : Func} {R : Ending → World → Prop} {a : Act} {w : World} {p : Tmp} {ty : TypeId} {d : TypeDesc} (b o : Nat) (cs : List Value) (hres : fn.results = #[.cell p ty]) (hu : P.underlying ty = some d) (hd : d.isRow = true)
    (hi : (P.info? ty).map (·.size) = some cs.length) (hp : a.tmps.getD p undef = .pointer (some ⟨b, o, none⟩)) (hc : w.rangeAt b o cs) (hdef : a.defers = []) (hR : R (.returned (.agg cs.toArray)) w) : bodyPost P fn R .ret a w := by
  refine bodyPost_ret (v := .agg cs.toArray) ?_ hdef hR
  have hl := run_loadVar_mid (P := P) w b o ty cs d hc hu hd hi
  rw [Array.getD_eq_getD_getElem?] at hp
  simp [results, hres, hp, asAddr, hl]

theorem flat_get {sz : Nat} : ∀ (rows : List (List Value)), (∀ r ∈ rows, r.length = sz) → ∀ i r, rows[i]? = some r → ∀ j u, r[j]? = some u → rows.flatten[i * sz + j]? = some u
  | [], _, i, r, h, _, _, _ => by simp at h
  | r0 :: rows, hl, 0, r, h, j, u, hu => by
    obtain rfl : r0 = r := by simpa using h
    have hj : j < r0.length := (List.getElem?_eq_some_iff.1 hu).1
    rw [List.flatten_cons, Nat.zero_mul, Nat.zero_add, List.getElem?_append_left hj, hu]
  | r0 :: rows, hl, i + 1, r, h, j, u, hu => by
    have h0 : r0.length = sz := hl r0 (by simp)
    have ih := flat_get rows (fun r hr => hl r (by simp [hr])) i r (by simpa using h) j u hu
    rw [List.flatten_cons, List.getElem?_append_right (by rw [h0, Nat.succ_mul]; omega), h0, show (i + 1) * sz + j - sz = i * sz + j by rw [Nat.succ_mul]; omega]
    exact ih
theorem At.fresh (w : World) (T : TypeId) (sz b : Nat) (rows : List (List Value)) (h : ∀ r ∈ rows, r.length = sz) (hb : b = w.heap.size) : At (w.alloc (.cells rows.flatten.toArray T)) sz (some ⟨b, 0, none⟩) rows := fun i r hr => by
  subst hb
  refine ⟨w.heap.size, 0, rfl, by simp, fun j u hu => ?_⟩
  have := range_new w rows.flatten T (i * sz + j) u (flat_get rows h i r hr j u hu)
  simpa [Nat.add_assoc] using this
theorem Blk.setCells_ {w : World} {g : Nat} {T : TypeId} : ∀ (cs pre zs : List Value), zs.length = cs.length → Blk w g T (pre ++ zs) → Blk (w.setCells g pre.length cs) g T (pre ++ cs)
  | [], pre, zs, h, hb => by
    obtain rfl : zs = [] := List.eq_nil_of_length_eq_zero h
    exact hb
  | c :: cs, pre, z :: zs, h, hb => by
    rw [World.setCells]
    have h1 := hb.set_ pre.length c
    rw [show (pre ++ z :: zs).set pre.length c = (pre ++ [c]) ++ zs by simp] at h1
    have := Blk.setCells_ cs (pre ++ [c]) zs (by simpa using h) h1
    rw [show (pre ++ [c]).length = pre.length + 1 by simp] at this
    rw [show pre ++ c :: cs = pre ++ [c] ++ cs by simp]
    exact this
theorem Blk.whole {w : World} {g : Nat} {T : TypeId} {old cs : List Value} (h : Blk w g T old) (hl : old.length = cs.length) : Blk (w.setCells g 0 cs) g T cs := Blk.setCells_ cs [] old hl h
theorem Blk.farCells {g b : Nat} {T : TypeId} {cs : List Value} (hg : g ≠ b) : ∀ (vs : List Value) (o : Nat) (w : World), Blk w g T cs → Blk (w.setCells b o vs) g T cs
  | [], _, _, h => h
  | v :: vs, o, w, h => by
    rw [World.setCells]
    exact Blk.farCells hg vs (o + 1) _ (h.far (p := ⟨b, o, none⟩) hg v)
theorem Blk.there {w : World} {g : Nat} {T : TypeId} {cs : List Value} (h : Blk w g T cs) (o n : Nat) (hn : o + n ≤ cs.length) : w.there g o n := fun j hj => by
  exact ⟨by rw [h.cell, List.getElem?_eq_getElem (by omega)]; rfl, h.frozen _⟩
theorem Below.setCells {B : Nat} {a : World} {b : Nat} (hb : B ≤ b) : ∀ (vs : List Value) (o : Nat) (w : World), Below B a w → Below B a (w.setCells b o vs)
  | [], _, _, h => h
  | v :: vs, o, w, h => by
    rw [World.setCells]
    exact Below.setCells hb vs (o + 1) _ (h.setCell (p := ⟨b, o, none⟩) hb v)
theorem Blk.range {w : World} {g : Nat} {T : TypeId} {cs : List Value} (h : Blk w g T cs) : w.rangeAt g 0 cs := fun j v hv => by
  rw [h.cell]; simpa using hv
/-- a whole struct is stored into a block -/
theorem wpList_store_whole {P : Program} {ops : Array Oper} {rest : List Oper} {op : Oper} {a : Act} {w : World} {Q : Exit → Act → World → Prop} (hgd : op.guard = none) (T : TypeId) (x y : Operand) (ho : op.op = .store T x y)
    (b : Nat) (cs old : List Value) {T' : TypeId} (hB : Blk w b T' old) (hl : old.length = cs.length) (hx : a.eval x = .pointer (some ⟨b, 0, none⟩)) (hy : a.eval y = .agg cs.toArray) (hi : (P.info? T).map (·.size) = some cs.length)
    (h1 : ∀ v ∈ cs, v.oneCell' = true) (h : wpList P ops Q rest (a.put op.dst undef) (w.setCells b 0 cs)) : wpList P ops Q (op :: rest) a w :=
  wpList_store_mid hgd T x y ho b 0 cs.toArray hx hy (hB.there 0 _ (by simp [hl])) (by simpa using hi) (all_oneCell_toArray h1) (by simpa using h)
/-- .. into a new block -/
theorem wpList_store_new {P : Program} {ops : Array Oper} {rest : List Oper} {op : Oper} {a : Act} {w : World} {Q : Exit → Act → World → Prop} (hgd : op.guard = none) (T : TypeId) (x y : Operand) (ho : op.op = .store T x y)
    (cs zs : List Value) (w0 : World) (T' : TypeId) (hw : w = w0.alloc (.cells zs.toArray T')) (hl : zs.length = cs.length) (hx : a.eval x = .pointer (some ⟨w0.heap.size, 0, none⟩)) (hy : a.eval y = .agg cs.toArray) (hi : (P.info? T).map (·.size) = some cs.length)
    (h1 : ∀ v ∈ cs, v.oneCell' = true) (h : wpList P ops Q rest (a.put op.dst undef) (w0.alloc (.cells cs.toArray T'))) : wpList P ops Q (op :: rest) a w := by
  subst hw
  refine wpList_store_whole hgd T x y ho w0.heap.size cs zs (Blk.new _ _ _) hl hx hy hi h1 ?_
  have := setCells_new w0 T' cs [] zs hl
  simp only [List.nil_append, List.length_nil] at this
  rw [this]
  exact h

/-- two results, the first a whole struct's cells -/
theorem ret_cells2 {P : Program} {fn : Func} {R : Ending → World → Prop} {a : Act} {w : World} {p q : Tmp} {ty : TypeId} {d : TypeDesc} (b o : Nat) (cs : List Value) (v : Value) (hres : fn.results = #[.cell p ty, .tmp q]) (hu : P.underlying ty = some d) (hd : d.isRow = true)
    (hi : (P.info? ty).map (·.size) = some cs.length) (hp : a.tmps.getD p undef = .pointer (some ⟨b, o, none⟩)) (hq : a.tmps.getD q undef = v) (hc : w.rangeAt b o cs) (hdef : a.defers = []) (hR : R (.returned (.tuple #[.agg cs.toArray, v])) w) : bodyPost P fn R .ret a w := by
  refine bodyPost_ret (v := .tuple #[.agg cs.toArray, v]) ?_ hdef hR
  have hl := run_loadVar_mid (P := P) w b o ty cs d hc hu hd hi
  rw [Array.getD_eq_getD_getElem?] at hp hq
  simp [results, hres, hp, hq, asAddr, hl]
theorem range_at (w : World) (C : List Value) (T : TypeId) (b : Nat) (hb : b = w.heap.size) : (w.alloc (.cells C.toArray T)).rangeAt b 0 C := by subst hb; exact range_new w C T
theorem chain2_blks (w : World) (a b : List Value) (S T : TypeId) : Blk ((w.alloc (.cells a.toArray S)).alloc (.cells b.toArray T)) w.heap.size S a ∧ Blk ((w.alloc (.cells a.toArray S)).alloc (.cells b.toArray T)) (w.heap.size + 1) T b ∧
    Below w.heap.size w ((w.alloc (.cells a.toArray S)).alloc (.cells b.toArray T)) ∧ ((w.alloc (.cells a.toArray S)).alloc (.cells b.toArray T)).heap.size = w.heap.size + 1 + 1 := by
  have b0 := Blk.new w S a
  have B0 : Below w.heap.size w (w.alloc (.cells a.toArray S)) := (Below.refl _ _).alloc (Nat.le_refl _) _
  have e0 : (w.alloc (.cells a.toArray S)).heap.size = w.heap.size + 1 := by simp
  generalize w.alloc (.cells a.toArray S) = w0 at *
  have b1 := Blk.new w0 T b
  rw [e0] at b1
  exact ⟨b0.alloc _, b1, B0.alloc B0.size _, by simp [e0]⟩
theorem chain3_blks (w : World) (a b c : List Value) (S T U : TypeId) : Blk (((w.alloc (.cells a.toArray S)).alloc (.cells b.toArray T)).alloc (.cells c.toArray U)) w.heap.size S a ∧ Blk (((w.alloc (.cells a.toArray S)).alloc (.cells b.toArray T)).alloc (.cells c.toArray U)) (w.heap.size + 1) T b ∧
    Blk (((w.alloc (.cells a.toArray S)).alloc (.cells b.toArray T)).alloc (.cells c.toArray U)) (w.heap.size + 1 + 1) U c ∧ Below w.heap.size w (((w.alloc (.cells a.toArray S)).alloc (.cells b.toArray T)).alloc (.cells c.toArray U)) ∧
    (((w.alloc (.cells a.toArray S)).alloc (.cells b.toArray T)).alloc (.cells c.toArray U)).heap.size = w.heap.size + 1 + 1 + 1 := by
  obtain ⟨h1, h2, h3, h4⟩ := chain2_blks w a b S T
  generalize (w.alloc (.cells a.toArray S)).alloc (.cells b.toArray T) = w1 at *
  have h5 := Blk.new w1 U c
  rw [h4] at h5
  exact ⟨h1.alloc _, h2.alloc _, h5, h3.alloc h3.size _, by simp [h4]⟩
/-- some cells of a block are set -/
def setAt : List Value → Nat → List Value → List Value
  | l, _, [] => l
  | l, o, c :: cs => setAt (l.set o c) (o + 1) cs
theorem setAt_len : ∀ (cs l : List Value) (o : Nat), (setAt l o cs).length = l.length
  | [], _, _ => rfl
  | c :: cs, l, o => by rw [setAt, setAt_len cs]; simp
theorem Blk.sets {g : Nat} {T : TypeId} : ∀ (cs l : List Value) (o : Nat) (w : World), Blk w g T l → Blk (w.setCells g o cs) g T (setAt l o cs)
  | [], _, _, _, h => h
  | c :: cs, l, o, w, h => by
    rw [World.setCells, setAt]
    exact Blk.sets cs _ (o + 1) _ (h.set_ o c)
theorem Below.setWhole {B : Nat} {a w : World} {b : Nat} (h : Below B a w) (hb : B ≤ b) (cs : List Value) : Below B a (w.setCells b 0 cs) := Below.setCells hb cs 0 w h
/-- a struct is stored into the midst of a block -/
theorem wpList_store_part {P : Program} {ops : Array Oper} {rest : List Oper} {op : Oper} {a : Act} {w : World} {Q : Exit → Act → World → Prop} (hgd : op.guard = none) (T : TypeId) (x y : Operand) (ho : op.op = .store T x y)
    (b o : Nat) (cs old : List Value) {T' : TypeId} (hB : Blk w b T' old) (hl : o + cs.length ≤ old.length) (hx : a.eval x = .pointer (some ⟨b, o, none⟩)) (hy : a.eval y = .agg cs.toArray) (hi : (P.info? T).map (·.size) = some cs.length)
    (h1 : ∀ v ∈ cs, v.oneCell' = true) (h : wpList P ops Q rest (a.put op.dst undef) (w.setCells b o cs)) : wpList P ops Q (op :: rest) a w :=
  wpList_store_mid hgd T x y ho b o cs.toArray hx hy (hB.there o _ (by simpa using hl)) (by simpa using hi) (all_oneCell_toArray h1) (by simpa using h)
end Go.Proofs.YtapcjojlkeaadaaGreatDoor

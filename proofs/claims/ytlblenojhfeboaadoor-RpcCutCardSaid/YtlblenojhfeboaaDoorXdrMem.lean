/-
  Layer 1, what lies in memory: a writer and its row, a reader, the reference's reader. No condition.
-/
import Derived.Test.YtlblenojhfeboaaDoorProg
import Derived.Test.YtlblenojhfeboaaDoorBytes
namespace Go.Proofs.YtlblenojhfeboaaDoor
open Go.RowKit

/-- a writer at block g: its slice's value, and the bytes that it holds -/
def Wr (w : World) (g : Nat) (sv : Value) (l : List UInt8) : Prop := Blk w g 87 [sv] ∧ w.ownsRow 0 5 1 sv l.length (l.map u8)
/-- the blocks that a writer may change -/
def foot (g : Nat) (sv : Value) (k : Nat) : Prop := k = g ∨ sv.ownBlock = some k
/-- the writer has come to hold these bytes; all else that was there is as it was -/
def MovedTo (g : Nat) (sv sv' : Value) (l : List UInt8) (w w' : World) : Prop := Wr w' g sv' l ∧ (∀ k, sv'.ownBlock = some k → sv.ownBlock = some k ∨ w.heap.size ≤ k) ∧ Touch (foot g sv) w w'
def Moved (g : Nat) (sv : Value) (l : List UInt8) (w w' : World) : Prop := ∃ sv', MovedTo g sv sv' l w w'
theorem Moved.refl {g : Nat} {sv : Value} {l : List UInt8} {w : World} (h : Wr w g sv l) : Moved g sv l w w := ⟨sv, h, fun _ e => .inl e, Touch.refl _ _⟩
theorem Moved.size {g : Nat} {sv : Value} {l : List UInt8} {w w' : World} (h : Moved g sv l w w') : w.heap.size ≤ w'.heap.size := by obtain ⟨_, _, _, h⟩ := h; exact h.size
theorem Wr.row_ne {g : Nat} {sv : Value} {l : List UInt8} {w : World} (h : Wr w g sv l) : sv.ownBlock ≠ some g := Blk.own_ne h.2 h.1 (by decide)
theorem Wr.row_lt {g : Nat} {sv : Value} {l : List UInt8} {w : World} (h : Wr w g sv l) {k : Nat} (hk : sv.ownBlock = some k) : k < w.heap.size := (h.2.lt k hk).2
theorem foot_next {g : Nat} {sv sv1 : Value} {w : World} (hrow : ∀ k, sv1.ownBlock = some k → sv.ownBlock = some k ∨ w.heap.size ≤ k) : ∀ i, i < w.heap.size → foot g sv1 i → foot g sv i := fun i hi hf => by
  rcases hf with rfl | hf
  · exact .inl rfl
  · rcases hrow i hf with h | h
    · exact .inr h
    · omega
theorem MovedTo.next {g : Nat} {sv sv1 sv2 : Value} {l : List UInt8} {w w1 w2 : World} (hrow : ∀ k, sv1.ownBlock = some k → sv.ownBlock = some k ∨ w.heap.size ≤ k) (ht : Touch (foot g sv) w w1) (h : MovedTo g sv1 sv2 l w1 w2) : MovedTo g sv sv2 l w w2 := by
  obtain ⟨hw, hr, ht2⟩ := h
  refine ⟨hw, fun k hk => ?_, ht.trans ht2 (foot_next hrow)⟩
  rcases hr k hk with h | h
  · exact hrow k h
  · exact .inr (Nat.le_trans ht.size h)
theorem Moved.next {g : Nat} {sv sv1 : Value} {l : List UInt8} {w w1 w2 : World} (hrow : ∀ k, sv1.ownBlock = some k → sv.ownBlock = some k ∨ w.heap.size ≤ k) (ht : Touch (foot g sv) w w1) (h : Moved g sv1 l w1 w2) : Moved g sv l w w2 := by
  obtain ⟨sv2, hw, hr, ht2⟩ := h
  refine ⟨sv2, hw, fun k hk => ?_, ht.trans ht2 (foot_next hrow)⟩
  rcases hr k hk with h | h
  · exact hrow k h
  · exact .inr (Nat.le_trans ht.size h)
/-- a block of another kind stands while a writer is written -/
theorem Wr.keeps {g : Nat} {sv : Value} {l : List UInt8} {w w' : World} {k : Nat} {T : TypeId} {cs : List Value} (h : Wr w g sv l) (hb : Blk w k T cs) (h1 : T ≠ 87) (h2 : T ≠ 5) (ht : Touch (foot g sv) w w') : Blk w' k T cs :=
  hb.touch ht fun hf => by
    rcases hf with rfl | hf
    · exact Blk.ne_ h.1 hb (Ne.symm h1) rfl
    · exact Blk.own_ne h.2 hb (Ne.symm h2) hf
/-- a writer stands while what is none of its blocks is changed -/
theorem Wr.touch {g : Nat} {sv : Value} {l : List UInt8} {w w' : World} {F : Nat → Prop} (h : Wr w g sv l) (ht : Touch F w w') (hn : ∀ k, foot g sv k → ¬ F k) : Wr w' g sv l :=
  ⟨h.1.touch ht (hn g (.inl rfl)), ownsRow_touch h.2 ht fun k hk => hn k (.inr hk)⟩
theorem Wr.stays {g : Nat} {sv : Value} {l : List UInt8} {w w' : World} (h : Wr w g sv l) (hb : Below w.heap.size w w') : Wr w' g sv l := h.touch (Touch.of_below hb (fun _ => False)) fun _ _ hf => hf
theorem Wr.alloc {g : Nat} {sv : Value} {l : List UInt8} {w : World} (h : Wr w g sv l) (o : Obj) : Wr (w.alloc o) g sv l := h.stays ((Below.refl _ _).alloc (Nat.le_refl _) o)
theorem wr_row_ne {g : Nat} {sv sv2 : Value} {l : List UInt8} {n : Nat} {xs : List Value} {w W0 w1 : World} (hW : Wr w g sv l) (hb0 : Below w.heap.size w W0) (hgrow : W0.grownBy w1 sv.ownBlock) (hown : w1.ownsRow 0 5 1 sv2 n xs) : Blk w1 g 87 [sv] ∧ sv2.ownBlock ≠ some g := by
  have h1 : Blk w1 g 87 [sv] := (hW.1.stays hb0).grown hgrow hW.row_ne
  exact ⟨h1, Blk.own_ne hown h1 (by decide)⟩
/-- more bytes have been put behind those of a writer, and its field has been set -/
theorem moved_append {g : Nat} {sv sv1 sv2 : Value} {l m : List UInt8} {w wr W0 w1 : World} (hW : Wr wr g sv1 l) (hrow : ∀ k, sv1.ownBlock = some k → sv.ownBlock = some k ∨ w.heap.size ≤ k) (hT : Touch (foot g sv) w wr)
    (hb0 : Below wr.heap.size wr W0) (hgrow : W0.grownBy w1 sv1.ownBlock) (hown : w1.ownsRow 0 5 1 sv2 (l.length + m.length) (l.map u8 ++ m.map u8)) (hat : ∀ k, sv2.ownBlock = some k → sv1.ownBlock = some k ∨ W0.heap.size ≤ k) :
    MovedTo g sv sv2 (l ++ m) w (w1.setCell ⟨g, 0, none⟩ sv2) := by
  obtain ⟨hB, hne⟩ := wr_row_ne hW hb0 hgrow hown
  refine MovedTo.next hrow hT ⟨⟨?_, ?_⟩, ?_, ?_⟩
  · have := hB.set_ 0 sv2
    simpa using this
  · have := ownsRow_setCell_other hown (a := ⟨g, 0, none⟩) hne sv2
    simpa using this
  · intro k hk
    rcases hat k hk with h | h
    · exact .inl h
    · exact .inr (Nat.le_trans hb0.size h)
  · exact ((Touch.of_below hb0 (foot g sv1)).then_ ((Touch.of_grown hgrow fun k hk => .inr hk).mono fun _ _ h => h)).setCell (.inl (.inl rfl)) _
/-- a call on a writer: what it returns, and what the writer holds behind it -/
def Wrote (g : Nat) (sv : Value) (l : List UInt8) (v : Value) (w : World) (e : Ending) (w' : World) : Prop := e = .returned v ∧ Moved g sv l w w'

/-- a reader at block g -/
def Rd (w : World) (g : Nat) (r : Rs) : Prop := Blk w g 81 [.string (bs r.s), .int .i64 r.e] ∧ (r.e ≠ 0 → r.s = [])

theorem num_get (n : Nat) : ∀ (k j : Nat) (h : j < k), (num n k)[j]'(by rw [num_len]; exact h) = UInt8.ofNat (n / 256 ^ (k - 1 - j)) := by
  intro k
  induction k with
  | zero => intro j h; omega
  | succ k ih =>
    intro j h
    match j, h with
    | 0, _ => simp [num_cons]
    | j + 1, h =>
      have := ih j (by omega)
      simp only [num_cons, List.getElem_cons_succ, this]
      congr 3
      omega
theorem num_take (n k m : Nat) (hm : 0 < m) (hmk : m ≤ k) : (num n k).take (k - (m - 1)) = (num n k).take (k - m) ++ [UInt8.ofNat (n / 256 ^ (m - 1))] := by
  have h : k - m < (num n k).length := by rw [num_len]; omega
  have e : k - 1 - (k - m) = m - 1 := by omega
  rw [show k - (m - 1) = k - m + 1 by omega, List.take_succ_eq_append_getElem h, num_get n k (k - m) (by omega), e]
end Go.Proofs.YtlblenojhfeboaaDoor

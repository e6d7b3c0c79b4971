/-
  A text that is ranged over, its iterator anywhere in memory: plain letters alone (below 128). No other condition.
-/
import Derived.Test.YtjjlkdmpnpejjaaDoorCells
import Derived.Test.YtjjlkdmpnpejjaaDoorXdrPure
import Derived.Laws.RangeString
namespace Go.Proofs.YtjjlkdmpnpejjaaDoor
open Go.RowKit

/-- block b is the iterator of a text, at a place -/
def Itr (w : World) (b : Nat) (l : List UInt8) (pos : Nat) : Prop := w.heap[b]? = some (.stringIter (bs l) pos)
/-- an iterator is set to a place -/
def _root_.Go.World.setIter (w : World) (b : Nat) (l : List UInt8) (pos : Nat) : World := { w with heap := w.heap.setIfInBounds b (.stringIter (bs l) pos) }
section
variable {w w' : World} {b : Nat} {l : List UInt8} {pos : Nat}
theorem Itr.lt (h : Itr w b l pos) : b < w.heap.size := by
  rcases Nat.lt_or_ge b w.heap.size with hlt | hge
  · exact hlt
  · unfold Itr at h; rw [Array.getElem?_eq_none hge] at h; cases h
theorem Itr.new (w : World) (l : List UInt8) : Itr (w.iter (bs l) 0) w.heap.size l 0 := World.iter_heap w (bs l) 0
theorem Itr.below {B : Nat} (h : Itr w b l pos) (hb : Below B w w') (hg : b < B) : Itr w' b l pos := (hb.block b hg).trans h
theorem Itr.stays (h : Itr w b l pos) (hb : Below w.heap.size w w') : Itr w' b l pos := h.below hb h.lt
theorem Itr.touch {F : Nat → Prop} (h : Itr w b l pos) (hb : Touch F w w') (hn : ¬ F b) : Itr w' b l pos := (hb.block b h.lt hn).trans h
theorem Itr.set_ (h : Itr w b l pos) (p : Nat) : Itr (w.setIter b l p) b l p := by
  have hl := h.lt
  unfold Itr World.setIter
  simp [hl]
theorem heap_setIter (w : World) (b : Nat) (l : List UInt8) (p k : Nat) (h : k ≠ b) : (w.setIter b l p).heap[k]? = w.heap[k]? := by
  unfold World.setIter
  simp [Ne.symm h]
theorem Below.setIter {B : Nat} {a : World} (h : Below B a w) (hb : B ≤ b) (l : List UInt8) (p : Nat) : Below B a (w.setIter b l p) :=
  ⟨h.os, h.tape, h.output, by have := h.size; simpa [World.setIter] using this, fun k hk => (heap_setIter w b l p k (by omega)).trans (h.block k hk)⟩
theorem Blk.farIter {g : Nat} {T : TypeId} {cs : List Value} (h : Blk w g T cs) (hg : g ≠ b) (l : List UInt8) (p : Nat) : Blk (w.setIter b l p) g T cs := (heap_setIter w b l p g hg).trans h
theorem Touch.setIter {F : Nat → Prop} {a : World} (h : Touch F a w) (hb : F b ∨ a.heap.size ≤ b) (l : List UInt8) (p : Nat) : Touch F a (w.setIter b l p) :=
  ⟨h.os, h.tape, h.output, by have := h.size; simpa [World.setIter] using this, fun k hk hn => (heap_setIter w b l p k (fun e => by subst e; rcases hb with hb | hb; exact hn hb; omega)).trans (h.block k hk hn)⟩
variable {P : Program}
theorem run_next_itr (h : Itr w b l pos) (hp : pos < l.length) (ha : l[pos].toNat < 128) (ty : TypeId) :
    (Instr.next (.pointer (some ⟨b, 0, none⟩)) true ty).run P w = .ok (.tuple #[.bool true, .int .i64 pos, .int .i32 l[pos].toNat]) (w.setIter b l (pos + 1)) := by
  have hd := decode_ascii (bs l) pos hp ha
  have hs : pos < (bs l).size := hp
  unfold Itr at h
  simp only [Instr.next, getObj, setObj, Sem.run_bind, Sem.run, h, Result.andThen, hs, if_true, hd]
  simp [goInt, World.setIter, bs_get]
theorem run_next_itr_end (h : Itr w b l pos) (hp : ¬ pos < l.length) (ty : TypeId) :
    (Instr.next (.pointer (some ⟨b, 0, none⟩)) true ty).run P w = .ok (.tuple #[.bool false]) w := by
  have hs : ¬ pos < (bs l).size := hp
  unfold Itr at h
  simp [Instr.next, getObj, Sem.run, h, hs]
end
end Go.Proofs.YtjjlkdmpnpejjaaDoor
